/- The types that the functions use, and the program. -/
import Derived.Test.YtfbkjgeaoafejaaProg
import Derived.Test.YtfbkjgeaoafejaaPvLaw
set_option linter.all false
namespace Go.Proofs.Ytfbkjgeaoafejaa
open Go Go.PV
abbrev I : Ty := .int .i64
abbrev U8 : Ty := .int .u8
abbrev QII : Ty := .pair I I
abbrev LQII : Ty := .list 137 QII
abbrev QILQII : Ty := .pair I LQII
abbrev LI : Ty := .list 3 I
abbrev LLI : Ty := .list 42 LI
abbrev GLILIBo : Ty := .fn2 LI LI .bool
abbrev QLLILQII : Ty := .pair LLI LQII
abbrev U64 : Ty := .int .u64
abbrev FIBo : Ty := .fn1 I .bool
abbrev GLILII : Ty := .fn2 LI LI I
abbrev AI : Ty := .ptr I
abbrev ALI : Ty := .ptr LI
abbrev AQILQII : Ty := .ptr QILQII
abbrev BLLI : Ty := .mptr LLI
abbrev BLI : Ty := .mptr LI
abbrev S141 : Ty := .sptr 141 1
abbrev BI : Ty := .mptr I
def str0 : ByteArray := ⟨#[0, 1, 2, 2, 3, 3, 3, 3, 4, 4, 4, 4, 4, 4, 4, 4, 5, 5, 5, 5, 5, 5, 5, 5, 5, 5, 5, 5, 5, 5, 5, 5, 6, 6, 6, 6, 6, 6, 6, 6, 6, 6, 6, 6, 6, 6, 6, 6, 6, 6, 6, 6, 6, 6, 6, 6, 6, 6, 6, 6, 6, 6, 6, 6, 7, 7, 7, 7, 7, 7, 7, 7, 7, 7, 7, 7, 7, 7, 7, 7, 7, 7, 7, 7, 7, 7, 7, 7, 7, 7, 7, 7, 7, 7, 7, 7, 7, 7, 7, 7, 7, 7, 7, 7, 7, 7, 7, 7, 7, 7, 7, 7, 7, 7, 7, 7, 7, 7, 7, 7, 7, 7, 7, 7, 7, 7, 7, 7, 8, 8, 8, 8, 8, 8, 8, 8, 8, 8, 8, 8, 8, 8, 8, 8, 8, 8, 8, 8, 8, 8, 8, 8, 8, 8, 8, 8, 8, 8, 8, 8, 8, 8, 8, 8, 8, 8, 8, 8, 8, 8, 8, 8, 8, 8, 8, 8, 8, 8, 8, 8, 8, 8, 8, 8, 8, 8, 8, 8, 8, 8, 8, 8, 8, 8, 8, 8, 8, 8, 8, 8, 8, 8, 8, 8, 8, 8, 8, 8, 8, 8, 8, 8, 8, 8, 8, 8, 8, 8, 8, 8, 8, 8, 8, 8, 8, 8, 8, 8, 8, 8, 8, 8, 8, 8, 8, 8, 8, 8, 8, 8, 8, 8, 8, 8, 8, 8, 8, 8, 8, 8, 8, 8, 8, 8, 8, 8]⟩
def rows : List (TypeId × TD) := [(3, ⟨I, [], none⟩),
  (4, ⟨.bool, [], none⟩),
  (5, ⟨U8, [], none⟩),
  (9, ⟨.str, [], none⟩),
  (22, ⟨LQII, [], some (137, QII, 0)⟩),
  (24, ⟨QILQII, [(0, I), (1, LQII)], none⟩),
  (26, ⟨LLI, [], some (42, LI, 0)⟩),
  (29, ⟨QILQII, [(0, I), (1, LQII)], none⟩),
  (42, ⟨LI, [], some (3, I, 0)⟩),
  (46, ⟨GLILIBo, [], none⟩),
  (55, ⟨QLLILQII, [(0, LLI), (1, LQII)], none⟩),
  (100, ⟨U64, [], none⟩),
  (111, ⟨FIBo, [], none⟩),
  (129, ⟨U64, [], none⟩),
  (137, ⟨QII, [], some (3, I, 2)⟩),
  (160, ⟨GLILII, [], none⟩),
  (199, ⟨I, [], none⟩),
  (216, ⟨AI, [], none⟩)]
def tab : Tab := tabOf rows
theorem progOk : ProgOk Try.prog tab := ⟨tabOk_of (by kernel_rfl), by kernel_rfl⟩
end Go.Proofs.Ytfbkjgeaoafejaa
