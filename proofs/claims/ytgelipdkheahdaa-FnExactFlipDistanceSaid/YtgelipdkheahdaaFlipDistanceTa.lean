/- The types that the functions use, and the program. -/
import Derived.Test.YtgelipdkheahdaaProg
import Derived.Test.YtgelipdkheahdaaPvLaw
set_option linter.all false
namespace Go.Proofs.Ytgelipdkheahdaa
open Go Go.PV
abbrev I : Ty := .int .i64
abbrev U8 : Ty := .int .u8
abbrev QII : Ty := .pair I I
abbrev LQII : Ty := .list 80 QII
abbrev LI : Ty := .list 3 I
abbrev LLI : Ty := .list 43 LI
abbrev QLLILQII : Ty := .pair LLI LQII
abbrev QILLI : Ty := .pair I LLI
abbrev GLILIBo : Ty := .fn2 LI LI .bool
abbrev FIBo : Ty := .fn1 I .bool
abbrev GLILII : Ty := .fn2 LI LI I
abbrev U64 : Ty := .int .u64
abbrev FLIBo : Ty := .fn1 LI .bool
abbrev AI : Ty := .ptr I
abbrev ALI : Ty := .ptr LI
abbrev BI : Ty := .mptr I
def str0 : ByteArray := ⟨#[0, 1, 2, 2, 3, 3, 3, 3, 4, 4, 4, 4, 4, 4, 4, 4, 5, 5, 5, 5, 5, 5, 5, 5, 5, 5, 5, 5, 5, 5, 5, 5, 6, 6, 6, 6, 6, 6, 6, 6, 6, 6, 6, 6, 6, 6, 6, 6, 6, 6, 6, 6, 6, 6, 6, 6, 6, 6, 6, 6, 6, 6, 6, 6, 7, 7, 7, 7, 7, 7, 7, 7, 7, 7, 7, 7, 7, 7, 7, 7, 7, 7, 7, 7, 7, 7, 7, 7, 7, 7, 7, 7, 7, 7, 7, 7, 7, 7, 7, 7, 7, 7, 7, 7, 7, 7, 7, 7, 7, 7, 7, 7, 7, 7, 7, 7, 7, 7, 7, 7, 7, 7, 7, 7, 7, 7, 7, 7, 8, 8, 8, 8, 8, 8, 8, 8, 8, 8, 8, 8, 8, 8, 8, 8, 8, 8, 8, 8, 8, 8, 8, 8, 8, 8, 8, 8, 8, 8, 8, 8, 8, 8, 8, 8, 8, 8, 8, 8, 8, 8, 8, 8, 8, 8, 8, 8, 8, 8, 8, 8, 8, 8, 8, 8, 8, 8, 8, 8, 8, 8, 8, 8, 8, 8, 8, 8, 8, 8, 8, 8, 8, 8, 8, 8, 8, 8, 8, 8, 8, 8, 8, 8, 8, 8, 8, 8, 8, 8, 8, 8, 8, 8, 8, 8, 8, 8, 8, 8, 8, 8, 8, 8, 8, 8, 8, 8, 8, 8, 8, 8, 8, 8, 8, 8, 8, 8, 8, 8, 8, 8, 8, 8, 8, 8, 8, 8]⟩
def rows : List (TypeId × TD) := [(3, ⟨I, [], none⟩),
  (4, ⟨.bool, [], none⟩),
  (5, ⟨U8, [], none⟩),
  (9, ⟨.str, [], none⟩),
  (22, ⟨LQII, [], some (80, QII, 0)⟩),
  (32, ⟨LLI, [], some (43, LI, 0)⟩),
  (34, ⟨QLLILQII, [(0, LLI), (1, LQII)], none⟩),
  (42, ⟨QILLI, [(0, I), (1, LLI)], none⟩),
  (43, ⟨LI, [], some (3, I, 0)⟩),
  (46, ⟨QILLI, [(0, I), (1, LLI)], none⟩),
  (50, ⟨GLILIBo, [], none⟩),
  (80, ⟨QII, [], some (3, I, 2)⟩),
  (90, ⟨FIBo, [], none⟩),
  (92, ⟨GLILII, [], none⟩),
  (94, ⟨U64, [], none⟩),
  (143, ⟨I, [], none⟩),
  (152, ⟨U64, [], none⟩),
  (161, ⟨FLIBo, [], none⟩),
  (168, ⟨AI, [], none⟩)]
def tab : Tab := tabOf rows
theorem progOk : ProgOk Try.prog tab := ⟨tabOk_of (by kernel_rfl), by kernel_rfl⟩
end Go.Proofs.Ytgelipdkheahdaa
