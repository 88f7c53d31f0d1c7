/- The law FnFlipWays says yes to every code of bytes, without any condition: Ways of flips lead over solutions, no way is shorter than the Hamming distance, and for a Formula of two it is just as short. (P6) -/
import Derived.Test.YtbnjcjpnpidhmaaGreatRows
import Derived.Test.YtbnjcjpnpidhmaaGreatFlipWaysGe
set_option linter.all false
namespace Go.Proofs.YtbnjcjpnpidhmaaGreat
open Go Go.PV Go.ChangeShapes Go.WideShapes Go.ChangeAt Go.RowKit
theorem fnFlipWays_own : ownKnob Tryz.prog.godebug = none := by kernel_rfl
theorem fnFlipWays_laidOut : laidOutB Tryz.prog = true := by kernel_rfl
set_option maxRecDepth 100000 in
theorem fnFlipWays_lifted (os : Os) (started : os.Started) (H : Type) (enc : TypeId × Value → H) :
    ReturnsInHanded {} Tryz.checked os 9 .any (Rows.fnFlipWaysSpec.pre6 enc Tryz.prog Tryz.f9 Rows.fnFlipWaysRow.domain false) (Rows.fnFlipWaysSpec.post enc Tryz.prog Tryz.f9 false true false false) := by
  refine returnsInHanded_of_change (C := Tryz.checked) fnFlipWays_own started (by kernel_rfl) Tryz.func9
    (ChangeSpec.witness6 (enc := enc) (C := Tryz.checked) false ⟨#[], #[.slice none 0 0], []⟩ 8 (by kernel_rfl) (by kernel_rfl) (by kernel_rfl) (by kernel_rfl)) ?_
  intro W base args ds gs before hval hW hcnd _
  exact law_contract (P := Tryz.prog) (τs := [42]) (ts := [LU8]) (tb := 4) (n := 8) progOk.tab fnFlipWays_laidOut laws_FnFlipWays_pc FlipWays_pureT Tryz.params9 rfl Tryz.underlying4 rfl (fun ds h => match ds, h with | [d0], _ => rfl) (by kernel_rfl) (by kernel_rfl) base args ds gs before hval hW

theorem fnFlipWays_named : Tryz.pinned.checked.prog.funcNamed Rows.fnFlipWaysRow.func = some 9 := by kernel_rfl
theorem fnFlipWays_inst : Tryz.f9.isInstance Tryz.prog Rows.fnFlipWaysRow.origin Rows.fnFlipWaysRow.targs := of_decide_eq_true (by kernel_rfl)
theorem fnFlipWays_wrap : Tryz.f9.isWrapper Tryz.prog Rows.fnFlipWaysRow.wrapper Rows.fnFlipWaysRow.mainSum := by
  unfold Func.isWrapper; first | (rw [if_pos (by decide +kernel)]; kernel_rfl) | (rw [if_neg (by decide +kernel)]; exact ⟨rfl, rfl⟩)
theorem fnFlipWays_head : Tryz.prog.mayEnter = true ∧ Tryz.prog.liftsFinal = Rows.fnFlipWaysRow.lifted ∧ Tryz.prog.make = some Rows.fnFlipWaysRow.make := ⟨by kernel_rfl, by kernel_rfl, by kernel_rfl⟩
theorem fnFlipWays_joined : joinedFacts Tryz.prog 9 Tryz.f9 Rows.fnFlipWaysSpec Rows.fnFlipWaysRow = true := by
  unfold joinedFacts
  rw [fnFlipWays_head.1, fnFlipWays_head.2.1, fnFlipWays_head.2.2]
  kernel_rfl

/-- The given statement. -/
theorem FlipWays_holds : Rows.FnFlipWaysSaid :=
  OpenClaim.holds_of_wide 9 Tryz.f9 rfl rfl rfl rfl rfl rfl rfl ⟨rfl, rfl, rfl, rfl, rfl⟩ rfl rfl rfl rfl rfl fnFlipWays_named Tryz.func9 fnFlipWays_joined fnFlipWays_inst fnFlipWays_wrap
    (fun os started H enc _ => fnFlipWays_lifted os started H enc)
#print axioms FlipWays_holds
end Go.Proofs.YtbnjcjpnpidhmaaGreat
