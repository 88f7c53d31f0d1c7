/- The program's ParitySpace returns what the reference's ParitySpace returns, and writes into none of what it was given: for all arguments, without any condition. -/
import Derived.Test.YtfbkjgeaoafejaaRows
import Derived.Test.YtfbkjgeaoafejaaParitySpaceGb
set_option linter.all false
namespace Go.Proofs.Ytfbkjgeaoafejaa
open Go Go.PV Go.ChangeShapes Go.WideShapes Go.ChangeAt Go.RowKit
theorem fnExactParitySpace_own : ownKnob Try.prog.godebug = none := by kernel_rfl
theorem fnExactParitySpace_laidOut : laidOutB Try.prog = true := by kernel_rfl
set_option maxRecDepth 100000 in
theorem fnExactParitySpace_lifted (os : Os) (started : os.Started) (H : Type) (enc : TypeId × Value → H) :
    ReturnsInHanded {} Try.checked os 11 .any (Rows.fnExactParitySpaceSpec.pre6 enc Try.prog Try.f11 Rows.fnExactParitySpaceRow.domain false) (Rows.fnExactParitySpaceSpec.post enc Try.prog Try.f11 false true false false) := by
  refine returnsInHanded_of_change (C := Try.checked) fnExactParitySpace_own started (by kernel_rfl) Try.func11
    (ChangeSpec.witness6 (enc := enc) (C := Try.checked) false ⟨#[], #[.agg #[.int .i64 0, .slice none 0 0, .slice none 0 0]], []⟩ 8 (by kernel_rfl) (by kernel_rfl) (by kernel_rfl) (by kernel_rfl)) ?_
  intro W base args ds gs before hval hW hcnd _
  exact law_contract (P := Try.prog) (τs := [66]) (ts := [QIQLLILI]) (tb := 4) (n := 8) progOk.tab fnExactParitySpace_laidOut laws_FnExactParitySpace_pc ParitySpace_pureT Try.params11 rfl Try.underlying4 rfl (fun ds h => match ds, h with | [d0], _ => rfl) (by kernel_rfl) (by kernel_rfl) base args ds gs before hval hW

theorem fnExactParitySpace_named : Try.pinned.checked.prog.funcNamed Rows.fnExactParitySpaceRow.func = some 11 := by kernel_rfl
theorem fnExactParitySpace_inst : Try.f11.isInstance Try.prog Rows.fnExactParitySpaceRow.origin Rows.fnExactParitySpaceRow.targs := of_decide_eq_true (by kernel_rfl)
theorem fnExactParitySpace_wrap : Try.f11.isWrapper Try.prog Rows.fnExactParitySpaceRow.wrapper Rows.fnExactParitySpaceRow.mainSum := by
  unfold Func.isWrapper; first | (rw [if_pos (by decide +kernel)]; kernel_rfl) | (rw [if_neg (by decide +kernel)]; exact ⟨rfl, rfl⟩)
theorem fnExactParitySpace_head : Try.prog.mayEnter = true ∧ Try.prog.liftsFinal = Rows.fnExactParitySpaceRow.lifted ∧ Try.prog.make = some Rows.fnExactParitySpaceRow.make := ⟨by kernel_rfl, by kernel_rfl, by kernel_rfl⟩
theorem fnExactParitySpace_joined : joinedFacts Try.prog 11 Try.f11 Rows.fnExactParitySpaceSpec Rows.fnExactParitySpaceRow = true := by
  unfold joinedFacts
  rw [fnExactParitySpace_head.1, fnExactParitySpace_head.2.1, fnExactParitySpace_head.2.2]
  kernel_rfl

/-- The given statement. -/
theorem ParitySpace_holds : Rows.FnExactParitySpaceSaid :=
  OpenClaim.holds_of_wide 11 Try.f11 rfl rfl rfl rfl rfl rfl rfl ⟨rfl, rfl, rfl, rfl, rfl⟩ rfl rfl rfl rfl rfl fnExactParitySpace_named Try.func11 fnExactParitySpace_joined fnExactParitySpace_inst fnExactParitySpace_wrap
    (fun os started H enc _ => fnExactParitySpace_lifted os started H enc)
#print axioms ParitySpace_holds
end Go.Proofs.Ytfbkjgeaoafejaa
