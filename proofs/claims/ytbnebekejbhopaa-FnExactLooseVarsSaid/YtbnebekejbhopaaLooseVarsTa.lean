/- The types that the functions use, and the program. -/
import Derived.Test.YtbnebekejbhopaaProg
import Derived.Test.YtbnebekejbhopaaPvLaw
set_option linter.all false
namespace Go.Proofs.Ytbnebekejbhopaa
open Go Go.PV
abbrev I : Ty := .int .i64
abbrev LI : Ty := .list 3 I
abbrev LLI : Ty := .list 22 LI
abbrev QLLILI : Ty := .pair LLI LI
abbrev QIQLLILI : Ty := .pair I QLLILI
abbrev FLIBo : Ty := .fn1 LI .bool
abbrev FIBo : Ty := .fn1 I .bool
abbrev AQIQLLILI : Ty := .ptr QIQLLILI
abbrev AI : Ty := .ptr I
def rows : List (TypeId × TD) := [(3, ⟨I, [], none⟩),
  (4, ⟨.bool, [], none⟩),
  (22, ⟨LI, [], some (3, I, 0)⟩),
  (27, ⟨LLI, [], some (22, LI, 0)⟩),
  (37, ⟨QIQLLILI, [(0, I), (1, LLI), (2, LI)], none⟩),
  (40, ⟨QIQLLILI, [(0, I), (1, LLI), (2, LI)], none⟩),
  (78, ⟨FLIBo, [], none⟩),
  (94, ⟨FIBo, [], none⟩)]
def tab : Tab := tabOf rows
theorem progOk : ProgOk Try.prog tab := ⟨tabOk_of (by kernel_rfl), by kernel_rfl⟩
end Go.Proofs.Ytbnebekejbhopaa
