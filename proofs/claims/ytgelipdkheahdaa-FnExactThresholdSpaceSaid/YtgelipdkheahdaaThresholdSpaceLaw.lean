/- The program's ThresholdSpace returns what the reference's ThresholdSpace returns, and writes into none of what it was given: for all arguments, without any condition. -/
import Derived.Test.YtgelipdkheahdaaRows
import Derived.Test.YtgelipdkheahdaaThresholdSpaceGc
set_option linter.all false
namespace Go.Proofs.Ytgelipdkheahdaa
open Go Go.PV Go.ChangeShapes Go.WideShapes Go.ChangeAt Go.RowKit
theorem fnExactThresholdSpace_own : ownKnob Try.prog.godebug = none := by kernel_rfl
theorem fnExactThresholdSpace_laidOut : laidOutB Try.prog = true := by kernel_rfl
set_option maxRecDepth 100000 in
theorem fnExactThresholdSpace_lifted (os : Os) (started : os.Started) (H : Type) (enc : TypeId × Value → H) :
    ReturnsInHanded {} Try.checked os 6 .any (Rows.fnExactThresholdSpaceSpec.pre6 enc Try.prog Try.f6 Rows.fnExactThresholdSpaceRow.domain false) (Rows.fnExactThresholdSpaceSpec.post enc Try.prog Try.f6 false true false false) := by
  refine returnsInHanded_of_change (C := Try.checked) fnExactThresholdSpace_own started (by kernel_rfl) Try.func6
    (ChangeSpec.witness6 (enc := enc) (C := Try.checked) false ⟨#[], #[.agg #[.int .i64 0, .slice none 0 0], .int .i64 0, .int .i64 0], []⟩ 8 (by kernel_rfl) (by kernel_rfl) (by kernel_rfl) (by kernel_rfl)) ?_
  intro W base args ds gs before hval hW hcnd _
  exact law_contract (P := Try.prog) (τs := [24, 3, 3]) (ts := [QILQII, I, I]) (tb := 4) (n := 8) progOk.tab fnExactThresholdSpace_laidOut laws_FnExactThresholdSpace_pc ThresholdSpace_pureT Try.params6 rfl Try.underlying4 rfl (fun ds h => match ds, h with | [d0, d1, d2], _ => rfl) (by kernel_rfl) (by kernel_rfl) base args ds gs before hval hW

theorem fnExactThresholdSpace_named : Try.pinned.checked.prog.funcNamed Rows.fnExactThresholdSpaceRow.func = some 6 := by kernel_rfl
theorem fnExactThresholdSpace_inst : Try.f6.isInstance Try.prog Rows.fnExactThresholdSpaceRow.origin Rows.fnExactThresholdSpaceRow.targs := of_decide_eq_true (by kernel_rfl)
theorem fnExactThresholdSpace_wrap : Try.f6.isWrapper Try.prog Rows.fnExactThresholdSpaceRow.wrapper Rows.fnExactThresholdSpaceRow.mainSum := by
  unfold Func.isWrapper; first | (rw [if_pos (by decide +kernel)]; kernel_rfl) | (rw [if_neg (by decide +kernel)]; exact ⟨rfl, rfl⟩)
theorem fnExactThresholdSpace_head : Try.prog.mayEnter = true ∧ Try.prog.liftsFinal = Rows.fnExactThresholdSpaceRow.lifted ∧ Try.prog.make = some Rows.fnExactThresholdSpaceRow.make := ⟨by kernel_rfl, by kernel_rfl, by kernel_rfl⟩
theorem fnExactThresholdSpace_joined : joinedFacts Try.prog 6 Try.f6 Rows.fnExactThresholdSpaceSpec Rows.fnExactThresholdSpaceRow = true := by
  unfold joinedFacts
  rw [fnExactThresholdSpace_head.1, fnExactThresholdSpace_head.2.1, fnExactThresholdSpace_head.2.2]
  kernel_rfl

/-- The given statement. -/
theorem ThresholdSpace_holds : Rows.FnExactThresholdSpaceSaid :=
  OpenClaim.holds_of_wide 6 Try.f6 rfl rfl rfl rfl rfl rfl rfl ⟨rfl, rfl, rfl, rfl, rfl⟩ rfl rfl rfl rfl rfl fnExactThresholdSpace_named Try.func6 fnExactThresholdSpace_joined fnExactThresholdSpace_inst fnExactThresholdSpace_wrap
    (fun os started H enc _ => fnExactThresholdSpace_lifted os started H enc)
#print axioms ThresholdSpace_holds
end Go.Proofs.Ytgelipdkheahdaa
