/- Statements on data alone. -/
import Derived.Test.YtfbkjgeaoafejaaPvPure
import Derived.Test.YtfbkjgeaoafejaaColouringsGa
set_option linter.all false
set_option linter.all false
namespace Go.Proofs.Ytfbkjgeaoafejaa
open Go Go.PV Classical
theorem Colourings_pureT : ∀ x : argsT (psOf [QILQII, I]), WfA [QILQII, I] x → ∃ k m, (laws_FnExactColourings_S k).f x = some ((true, ()), m) :=
  fun x h => ⟨1048577, (), Colourings_pure (len_ok h.1.2.1)⟩
end Go.Proofs.Ytfbkjgeaoafejaa
