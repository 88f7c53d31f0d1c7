/- Statements on data alone. -/
import Derived.Test.YthkejedgfhjdiaaPvPure
import Derived.Test.YthkejedgfhjdiaaStillNodesGa
set_option linter.all false
set_option linter.all false
namespace Go.Proofs.Ythkejedgfhjdiaa
open Go Go.PV Classical
theorem StillNodes_pureT : ∀ x : argsT (psOf [QILQII, I, LI]), WfA [QILQII, I, LI] x → ∃ k m, (laws_FnExactStillNodes_S k).f x = some ((true, ()), m) :=
  fun x h => ⟨1048577, (), StillNodes_pure (len_ok h.1.2.1)⟩
end Go.Proofs.Ythkejedgfhjdiaa
