/- The program's FlipSpace returns what the reference's FlipSpace returns, and writes into none of what it was given: for all arguments, without any condition. -/
import Derived.Test.YtfbkjgeaoafejaaRows
import Derived.Test.YtfbkjgeaoafejaaFlipSpaceGb
set_option linter.all false
namespace Go.Proofs.Ytfbkjgeaoafejaa
open Go Go.PV Go.ChangeShapes Go.WideShapes Go.ChangeAt Go.RowKit
theorem fnExactFlipSpace_own : ownKnob Try.prog.godebug = none := by kernel_rfl
theorem fnExactFlipSpace_laidOut : laidOutB Try.prog = true := by kernel_rfl
set_option maxRecDepth 100000 in
theorem fnExactFlipSpace_lifted (os : Os) (started : os.Started) (H : Type) (enc : TypeId × Value → H) :
    ReturnsInHanded {} Try.checked os 10 .any (Rows.fnExactFlipSpaceSpec.pre6 enc Try.prog Try.f10 Rows.fnExactFlipSpaceRow.domain false) (Rows.fnExactFlipSpaceSpec.post enc Try.prog Try.f10 false true false false) := by
  refine returnsInHanded_of_change (C := Try.checked) fnExactFlipSpace_own started (by kernel_rfl) Try.func10
    (ChangeSpec.witness6 (enc := enc) (C := Try.checked) false ⟨#[], #[.agg #[.int .i64 0, .slice none 0 0]], []⟩ 8 (by kernel_rfl) (by kernel_rfl) (by kernel_rfl) (by kernel_rfl)) ?_
  intro W base args ds gs before hval hW hcnd _
  exact law_contract (P := Try.prog) (τs := [52]) (ts := [QILLI]) (tb := 4) (n := 8) progOk.tab fnExactFlipSpace_laidOut laws_FnExactFlipSpace_pc FlipSpace_pureT Try.params10 rfl Try.underlying4 rfl (fun ds h => match ds, h with | [d0], _ => rfl) (by kernel_rfl) (by kernel_rfl) base args ds gs before hval hW

theorem fnExactFlipSpace_named : Try.pinned.checked.prog.funcNamed Rows.fnExactFlipSpaceRow.func = some 10 := by kernel_rfl
theorem fnExactFlipSpace_inst : Try.f10.isInstance Try.prog Rows.fnExactFlipSpaceRow.origin Rows.fnExactFlipSpaceRow.targs := of_decide_eq_true (by kernel_rfl)
theorem fnExactFlipSpace_wrap : Try.f10.isWrapper Try.prog Rows.fnExactFlipSpaceRow.wrapper Rows.fnExactFlipSpaceRow.mainSum := by
  unfold Func.isWrapper; first | (rw [if_pos (by decide +kernel)]; kernel_rfl) | (rw [if_neg (by decide +kernel)]; exact ⟨rfl, rfl⟩)
theorem fnExactFlipSpace_head : Try.prog.mayEnter = true ∧ Try.prog.liftsFinal = Rows.fnExactFlipSpaceRow.lifted ∧ Try.prog.make = some Rows.fnExactFlipSpaceRow.make := ⟨by kernel_rfl, by kernel_rfl, by kernel_rfl⟩
theorem fnExactFlipSpace_joined : joinedFacts Try.prog 10 Try.f10 Rows.fnExactFlipSpaceSpec Rows.fnExactFlipSpaceRow = true := by
  unfold joinedFacts
  rw [fnExactFlipSpace_head.1, fnExactFlipSpace_head.2.1, fnExactFlipSpace_head.2.2]
  kernel_rfl

/-- The given statement. -/
theorem FlipSpace_holds : Rows.FnExactFlipSpaceSaid :=
  OpenClaim.holds_of_wide 10 Try.f10 rfl rfl rfl rfl rfl rfl rfl ⟨rfl, rfl, rfl, rfl, rfl⟩ rfl rfl rfl rfl rfl fnExactFlipSpace_named Try.func10 fnExactFlipSpace_joined fnExactFlipSpace_inst fnExactFlipSpace_wrap
    (fun os started H enc _ => fnExactFlipSpace_lifted os started H enc)
#print axioms FlipSpace_holds
end Go.Proofs.Ytfbkjgeaoafejaa
