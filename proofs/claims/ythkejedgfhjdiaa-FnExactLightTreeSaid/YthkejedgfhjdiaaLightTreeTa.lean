/- The types that the functions use, and the program. -/
import Derived.Test.YthkejedgfhjdiaaProg
import Derived.Test.YthkejedgfhjdiaaPvLaw
set_option linter.all false
namespace Go.Proofs.Ythkejedgfhjdiaa
open Go Go.PV
abbrev I : Ty := .int .i64
abbrev LI : Ty := .list 3 I
abbrev LLI : Ty := .list 33 LI
abbrev QII : Ty := .pair I I
abbrev LQII : Ty := .list 97 QII
abbrev QILQII : Ty := .pair I LQII
abbrev FIBo : Ty := .fn1 I .bool
def rows : List (TypeId × TD) := [(3, ⟨I, [], none⟩),
  (4, ⟨.bool, [], none⟩),
  (22, ⟨LLI, [], some (33, LI, 0)⟩),
  (33, ⟨LI, [], some (3, I, 0)⟩),
  (43, ⟨LQII, [], some (97, QII, 0)⟩),
  (45, ⟨QILQII, [(0, I), (1, LQII)], none⟩),
  (49, ⟨QILQII, [(0, I), (1, LQII)], none⟩),
  (94, ⟨LI, [], some (3, I, 0)⟩),
  (97, ⟨QII, [], some (3, I, 2)⟩),
  (128, ⟨FIBo, [], none⟩)]
def tab : Tab := tabOf rows
theorem progOk : ProgOk Try.prog tab := ⟨tabOk_of (by kernel_rfl), by kernel_rfl⟩
end Go.Proofs.Ythkejedgfhjdiaa
