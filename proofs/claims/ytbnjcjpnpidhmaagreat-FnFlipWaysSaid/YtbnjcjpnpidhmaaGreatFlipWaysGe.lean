/- Statements on data alone. -/
import Derived.Test.YtbnjcjpnpidhmaaGreatPvPure
import Derived.Test.YtbnjcjpnpidhmaaGreatFlipWaysGd
set_option linter.all false
set_option linter.all false
namespace Go.Proofs.YtbnjcjpnpidhmaaGreat
open Go Go.PV Classical
theorem FlipWays_pureT : ∀ x : argsT (psOf [LU8]), WfA [LU8] x → ∃ k m, (laws_FnFlipWays_S k).f x = some ((true, ()), m) :=
  fun x h => ⟨1048577, (), FlipWays_pure rfl h.1.2⟩
end Go.Proofs.YtbnjcjpnpidhmaaGreat
