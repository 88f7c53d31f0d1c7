/- The types that the functions use, and the program. -/
import Derived.Test.YtbnebekejbhopaaProg
import Derived.Test.YtbnebekejbhopaaPvLaw
set_option linter.all false
namespace Go.Proofs.Ytbnebekejbhopaa
open Go Go.PV
abbrev I : Ty := .int .i64
abbrev LI : Ty := .list 3 I
abbrev LLI : Ty := .list 22 LI
abbrev QII : Ty := .pair I I
abbrev LQII : Ty := .list 100 QII
abbrev QILQII : Ty := .pair I LQII
abbrev FLIBo : Ty := .fn1 LI .bool
abbrev FIBo : Ty := .fn1 I .bool
abbrev FQIIBo : Ty := .fn1 QII .bool
abbrev AI : Ty := .ptr I
abbrev ALI : Ty := .ptr LI
abbrev AQILQII : Ty := .ptr QILQII
def rows : List (TypeId × TD) := [(3, ⟨I, [], none⟩),
  (4, ⟨.bool, [], none⟩),
  (22, ⟨LI, [], some (3, I, 0)⟩),
  (27, ⟨LLI, [], some (22, LI, 0)⟩),
  (49, ⟨LQII, [], some (100, QII, 0)⟩),
  (51, ⟨QILQII, [(0, I), (1, LQII)], none⟩),
  (54, ⟨QILQII, [(0, I), (1, LQII)], none⟩),
  (78, ⟨FLIBo, [], none⟩),
  (94, ⟨FIBo, [], none⟩),
  (100, ⟨QII, [], some (3, I, 2)⟩),
  (103, ⟨FQIIBo, [], none⟩)]
def tab : Tab := tabOf rows
theorem progOk : ProgOk Try.prog tab := ⟨tabOk_of (by kernel_rfl), by kernel_rfl⟩
end Go.Proofs.Ytbnebekejbhopaa
