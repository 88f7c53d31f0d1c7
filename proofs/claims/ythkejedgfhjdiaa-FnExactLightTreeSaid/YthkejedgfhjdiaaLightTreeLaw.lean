/- The program's LightTree returns what the reference's LightTree returns, and writes into none of what it was given: for all arguments, without any condition. -/
import Derived.Test.YthkejedgfhjdiaaRows
import Derived.Test.YthkejedgfhjdiaaLightTreeGc
set_option linter.all false
namespace Go.Proofs.Ythkejedgfhjdiaa
open Go Go.PV Go.ChangeShapes Go.WideShapes Go.ChangeAt Go.RowKit
theorem fnExactLightTree_own : ownKnob Try.prog.godebug = none := by kernel_rfl
theorem fnExactLightTree_laidOut : laidOutB Try.prog = true := by kernel_rfl
set_option maxRecDepth 100000 in
theorem fnExactLightTree_lifted (os : Os) (started : os.Started) (H : Type) (enc : TypeId × Value → H) :
    ReturnsInHanded {} Try.checked os 11 .any (Rows.fnExactLightTreeSpec.pre6 enc Try.prog Try.f11 Rows.fnExactLightTreeRow.domain false) (Rows.fnExactLightTreeSpec.post enc Try.prog Try.f11 false true false false) := by
  refine returnsInHanded_of_change (C := Try.checked) fnExactLightTree_own started (by kernel_rfl) Try.func11
    (ChangeSpec.witness6 (enc := enc) (C := Try.checked) false ⟨#[], #[.agg #[.int .i64 0, .slice none 0 0], .slice none 0 0], []⟩ 8 (by kernel_rfl) (by kernel_rfl) (by kernel_rfl) (by kernel_rfl)) ?_
  intro W base args ds gs before hval hW hcnd _
  exact law_contract (P := Try.prog) (τs := [45, 33]) (ts := [QILQII, LI]) (tb := 4) (n := 8) progOk.tab fnExactLightTree_laidOut laws_FnExactLightTree_pc LightTree_pureT Try.params11 rfl Try.underlying4 rfl (fun ds h => match ds, h with | [d0, d1], _ => rfl) (by kernel_rfl) (by kernel_rfl) base args ds gs before hval hW

theorem fnExactLightTree_named : Try.pinned.checked.prog.funcNamed Rows.fnExactLightTreeRow.func = some 11 := by kernel_rfl
theorem fnExactLightTree_inst : Try.f11.isInstance Try.prog Rows.fnExactLightTreeRow.origin Rows.fnExactLightTreeRow.targs := of_decide_eq_true (by kernel_rfl)
theorem fnExactLightTree_wrap : Try.f11.isWrapper Try.prog Rows.fnExactLightTreeRow.wrapper Rows.fnExactLightTreeRow.mainSum := by
  unfold Func.isWrapper; first | (rw [if_pos (by decide +kernel)]; kernel_rfl) | (rw [if_neg (by decide +kernel)]; exact ⟨rfl, rfl⟩)
theorem fnExactLightTree_head : Try.prog.mayEnter = true ∧ Try.prog.liftsFinal = Rows.fnExactLightTreeRow.lifted ∧ Try.prog.make = some Rows.fnExactLightTreeRow.make := ⟨by kernel_rfl, by kernel_rfl, by kernel_rfl⟩
theorem fnExactLightTree_joined : joinedFacts Try.prog 11 Try.f11 Rows.fnExactLightTreeSpec Rows.fnExactLightTreeRow = true := by
  unfold joinedFacts
  rw [fnExactLightTree_head.1, fnExactLightTree_head.2.1, fnExactLightTree_head.2.2]
  kernel_rfl

/-- The given statement. -/
theorem LightTree_holds : Rows.FnExactLightTreeSaid :=
  OpenClaim.holds_of_wide 11 Try.f11 rfl rfl rfl rfl rfl rfl rfl ⟨rfl, rfl, rfl, rfl, rfl⟩ rfl rfl rfl rfl rfl fnExactLightTree_named Try.func11 fnExactLightTree_joined fnExactLightTree_inst fnExactLightTree_wrap
    (fun os started H enc _ => fnExactLightTree_lifted os started H enc)
#print axioms LightTree_holds
end Go.Proofs.Ythkejedgfhjdiaa
