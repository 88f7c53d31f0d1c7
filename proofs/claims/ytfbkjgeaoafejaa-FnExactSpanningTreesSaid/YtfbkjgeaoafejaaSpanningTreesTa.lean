/- The types that the functions use, and the program. -/
import Derived.Test.YtfbkjgeaoafejaaProg
import Derived.Test.YtfbkjgeaoafejaaPvLaw
set_option linter.all false
namespace Go.Proofs.Ytfbkjgeaoafejaa
open Go Go.PV
abbrev I : Ty := .int .i64
abbrev QII : Ty := .pair I I
abbrev LQII : Ty := .list 137 QII
abbrev QILQII : Ty := .pair I LQII
abbrev LI : Ty := .list 3 I
abbrev LLI : Ty := .list 42 LI
abbrev GILIBo : Ty := .fn2 I LI .bool
abbrev BLI : Ty := .mptr LI
abbrev AQILQII : Ty := .ptr QILQII
abbrev BLLI : Ty := .mptr LLI
abbrev S153 : Ty := .sptr 153 2
def rows : List (TypeId × TD) := [(3, ⟨I, [], none⟩),
  (4, ⟨.bool, [], none⟩),
  (22, ⟨LQII, [], some (137, QII, 0)⟩),
  (24, ⟨QILQII, [(0, I), (1, LQII)], none⟩),
  (26, ⟨LLI, [], some (42, LI, 0)⟩),
  (29, ⟨QILQII, [(0, I), (1, LQII)], none⟩),
  (42, ⟨LI, [], some (3, I, 0)⟩),
  (137, ⟨QII, [], some (3, I, 2)⟩),
  (144, ⟨GILIBo, [], none⟩),
  (145, ⟨LI, [], some (3, I, 0)⟩)]
def tab : Tab := tabOf rows
theorem progOk : ProgOk Try.prog tab := ⟨tabOk_of (by kernel_rfl), by kernel_rfl⟩
end Go.Proofs.Ytfbkjgeaoafejaa
