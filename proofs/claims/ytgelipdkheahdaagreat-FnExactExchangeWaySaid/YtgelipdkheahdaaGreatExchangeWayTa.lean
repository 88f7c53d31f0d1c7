/- The types that the functions use, and the program. -/
import Derived.Test.YtgelipdkheahdaaGreatProg
import Derived.Test.YtgelipdkheahdaaGreatPvLaw
set_option linter.all false
namespace Go.Proofs.YtgelipdkheahdaaGreat
open Go Go.PV
abbrev I : Ty := .int .i64
abbrev U8 : Ty := .int .u8
abbrev QII : Ty := .pair I I
abbrev LQII : Ty := .list 93 QII
abbrev QILQII : Ty := .pair I LQII
abbrev LI : Ty := .list 3 I
abbrev LLI : Ty := .list 40 LI
abbrev QLLILQII : Ty := .pair LLI LQII
abbrev GLILIBo : Ty := .fn2 LI LI .bool
abbrev U64 : Ty := .int .u64
abbrev GLILII : Ty := .fn2 LI LI I
abbrev FQIIBo : Ty := .fn1 QII .bool
abbrev FU64Bo : Ty := .fn1 U64 .bool
abbrev AI : Ty := .ptr I
abbrev AU64 : Ty := .ptr U64
abbrev K83Un : Ty := .kclo 83 .unit
abbrev AQILQII : Ty := .ptr QILQII
abbrev BI : Ty := .mptr I
def str0 : ByteArray := ⟨#[0, 1, 2, 2, 3, 3, 3, 3, 4, 4, 4, 4, 4, 4, 4, 4, 5, 5, 5, 5, 5, 5, 5, 5, 5, 5, 5, 5, 5, 5, 5, 5, 6, 6, 6, 6, 6, 6, 6, 6, 6, 6, 6, 6, 6, 6, 6, 6, 6, 6, 6, 6, 6, 6, 6, 6, 6, 6, 6, 6, 6, 6, 6, 6, 7, 7, 7, 7, 7, 7, 7, 7, 7, 7, 7, 7, 7, 7, 7, 7, 7, 7, 7, 7, 7, 7, 7, 7, 7, 7, 7, 7, 7, 7, 7, 7, 7, 7, 7, 7, 7, 7, 7, 7, 7, 7, 7, 7, 7, 7, 7, 7, 7, 7, 7, 7, 7, 7, 7, 7, 7, 7, 7, 7, 7, 7, 7, 7, 8, 8, 8, 8, 8, 8, 8, 8, 8, 8, 8, 8, 8, 8, 8, 8, 8, 8, 8, 8, 8, 8, 8, 8, 8, 8, 8, 8, 8, 8, 8, 8, 8, 8, 8, 8, 8, 8, 8, 8, 8, 8, 8, 8, 8, 8, 8, 8, 8, 8, 8, 8, 8, 8, 8, 8, 8, 8, 8, 8, 8, 8, 8, 8, 8, 8, 8, 8, 8, 8, 8, 8, 8, 8, 8, 8, 8, 8, 8, 8, 8, 8, 8, 8, 8, 8, 8, 8, 8, 8, 8, 8, 8, 8, 8, 8, 8, 8, 8, 8, 8, 8, 8, 8, 8, 8, 8, 8, 8, 8, 8, 8, 8, 8, 8, 8, 8, 8, 8, 8, 8, 8, 8, 8, 8, 8, 8, 8]⟩
def rows : List (TypeId × TD) := [(3, ⟨I, [], none⟩),
  (4, ⟨.bool, [], none⟩),
  (5, ⟨U8, [], none⟩),
  (9, ⟨.str, [], none⟩),
  (22, ⟨LQII, [], some (93, QII, 0)⟩),
  (24, ⟨QILQII, [(0, I), (1, LQII)], none⟩),
  (26, ⟨LLI, [], some (40, LI, 0)⟩),
  (28, ⟨QLLILQII, [(0, LLI), (1, LQII)], none⟩),
  (31, ⟨QILQII, [(0, I), (1, LQII)], none⟩),
  (40, ⟨LI, [], some (3, I, 0)⟩),
  (47, ⟨GLILIBo, [], none⟩),
  (80, ⟨U64, [], none⟩),
  (81, ⟨U64, [], none⟩),
  (93, ⟨QII, [], some (3, I, 2)⟩),
  (98, ⟨GLILII, [], none⟩),
  (135, ⟨FQIIBo, [], none⟩),
  (144, ⟨FU64Bo, [], none⟩),
  (150, ⟨I, [], none⟩),
  (159, ⟨U64, [], none⟩),
  (178, ⟨AI, [], none⟩)]
def tab : Tab := tabOf rows
theorem progOk : ProgOk Tryz.prog tab := ⟨tabOk_of (by kernel_rfl), by kernel_rfl⟩
end Go.Proofs.YtgelipdkheahdaaGreat
