/- The types that the functions use, and the program. -/
import Derived.Test.YtbnebekejbhopaaProg
import Derived.Test.YtbnebekejbhopaaPvLaw
set_option linter.all false
namespace Go.Proofs.Ytbnebekejbhopaa
open Go Go.PV
abbrev I : Ty := .int .i64
abbrev LI : Ty := .list 3 I
abbrev LLI : Ty := .list 22 LI
abbrev QILLI : Ty := .pair I LLI
abbrev FLIBo : Ty := .fn1 LI .bool
abbrev FIBo : Ty := .fn1 I .bool
abbrev ALI : Ty := .ptr LI
def rows : List (TypeId × TD) := [(3, ⟨I, [], none⟩),
  (4, ⟨.bool, [], none⟩),
  (22, ⟨LI, [], some (3, I, 0)⟩),
  (27, ⟨LLI, [], some (22, LI, 0)⟩),
  (29, ⟨QILLI, [(0, I), (1, LLI)], none⟩),
  (32, ⟨QILLI, [(0, I), (1, LLI)], none⟩),
  (78, ⟨FLIBo, [], none⟩),
  (94, ⟨FIBo, [], none⟩)]
def tab : Tab := tabOf rows
theorem progOk : ProgOk Try.prog tab := ⟨tabOk_of (by kernel_rfl), by kernel_rfl⟩
end Go.Proofs.Ytbnebekejbhopaa
