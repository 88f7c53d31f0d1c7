/- The types that the functions use, and the program. -/
import Derived.Test.YtkffaahlpdlkoaaProg
import Derived.Test.YtkffaahlpdlkoaaPvLaw
set_option linter.all false
namespace Go.Proofs.Ytkffaahlpdlkoaa
open Go Go.PV
abbrev I : Ty := .int .i64
abbrev QII : Ty := .pair I I
abbrev LQII : Ty := .list 53 QII
abbrev QILQII : Ty := .pair I LQII
abbrev LI : Ty := .list 3 I
abbrev FIBo : Ty := .fn1 I .bool
abbrev LLI : Ty := .list 25 LI
abbrev FLIBo : Ty := .fn1 LI .bool
abbrev FUnUn : Ty := .fn1 .unit .unit
abbrev FQIIBo : Ty := .fn1 QII .bool
abbrev AI : Ty := .ptr I
abbrev ALI : Ty := .ptr LI
abbrev AQILQII : Ty := .ptr QILQII
abbrev K57ALI : Ty := .kclo 57 ALI
def rows : List (TypeId × TD) := [(3, ⟨I, [], none⟩),
  (4, ⟨.bool, [], none⟩),
  (22, ⟨LQII, [], some (53, QII, 0)⟩),
  (24, ⟨QILQII, [(0, I), (1, LQII)], none⟩),
  (25, ⟨LI, [], some (3, I, 0)⟩),
  (29, ⟨QILQII, [(0, I), (1, LQII)], none⟩),
  (51, ⟨FIBo, [], none⟩),
  (53, ⟨QII, [], some (3, I, 2)⟩),
  (55, ⟨LLI, [], some (25, LI, 0)⟩),
  (58, ⟨FLIBo, [], none⟩),
  (61, ⟨FUnUn, [], none⟩),
  (73, ⟨FQIIBo, [], none⟩)]
def tab : Tab := tabOf rows
theorem progOk : ProgOk Try.prog tab := ⟨tabOk_of (by kernel_rfl), by kernel_rfl⟩
end Go.Proofs.Ytkffaahlpdlkoaa
