/- The program's CircleOf returns what the reference's CircleOf returns, and writes into none of what it was given: for all arguments, without any condition. -/
import Derived.Test.YthkejedgfhjdiaaRows
import Derived.Test.YthkejedgfhjdiaaCircleOfGc
set_option linter.all false
namespace Go.Proofs.Ythkejedgfhjdiaa
open Go Go.PV Go.ChangeShapes Go.WideShapes Go.ChangeAt Go.RowKit
theorem fnExactCircleOf_own : ownKnob Try.prog.godebug = none := by kernel_rfl
theorem fnExactCircleOf_laidOut : laidOutB Try.prog = true := by kernel_rfl
set_option maxRecDepth 100000 in
theorem fnExactCircleOf_lifted (os : Os) (started : os.Started) (H : Type) (enc : TypeId × Value → H) :
    ReturnsInHanded {} Try.checked os 14 .any (Rows.fnExactCircleOfSpec.pre6 enc Try.prog Try.f14 Rows.fnExactCircleOfRow.domain false) (Rows.fnExactCircleOfSpec.post enc Try.prog Try.f14 false true false false) := by
  refine returnsInHanded_of_change (C := Try.checked) fnExactCircleOf_own started (by kernel_rfl) Try.func14
    (ChangeSpec.witness6 (enc := enc) (C := Try.checked) false ⟨#[], #[.agg #[.int .i64 0, .slice none 0 0], .slice none 0 0, .int .i64 0], []⟩ 8 (by kernel_rfl) (by kernel_rfl) (by kernel_rfl) (by kernel_rfl)) ?_
  intro W base args ds gs before hval hW hcnd _
  exact law_contract (P := Try.prog) (τs := [45, 33, 3]) (ts := [QILQII, LI, I]) (tb := 4) (n := 8) progOk.tab fnExactCircleOf_laidOut laws_FnExactCircleOf_pc CircleOf_pureT Try.params14 rfl Try.underlying4 rfl (fun ds h => match ds, h with | [d0, d1, d2], _ => rfl) (by kernel_rfl) (by kernel_rfl) base args ds gs before hval hW

theorem fnExactCircleOf_named : Try.pinned.checked.prog.funcNamed Rows.fnExactCircleOfRow.func = some 14 := by kernel_rfl
theorem fnExactCircleOf_inst : Try.f14.isInstance Try.prog Rows.fnExactCircleOfRow.origin Rows.fnExactCircleOfRow.targs := of_decide_eq_true (by kernel_rfl)
theorem fnExactCircleOf_wrap : Try.f14.isWrapper Try.prog Rows.fnExactCircleOfRow.wrapper Rows.fnExactCircleOfRow.mainSum := by
  unfold Func.isWrapper; first | (rw [if_pos (by decide +kernel)]; kernel_rfl) | (rw [if_neg (by decide +kernel)]; exact ⟨rfl, rfl⟩)
theorem fnExactCircleOf_head : Try.prog.mayEnter = true ∧ Try.prog.liftsFinal = Rows.fnExactCircleOfRow.lifted ∧ Try.prog.make = some Rows.fnExactCircleOfRow.make := ⟨by kernel_rfl, by kernel_rfl, by kernel_rfl⟩
theorem fnExactCircleOf_joined : joinedFacts Try.prog 14 Try.f14 Rows.fnExactCircleOfSpec Rows.fnExactCircleOfRow = true := by
  unfold joinedFacts
  rw [fnExactCircleOf_head.1, fnExactCircleOf_head.2.1, fnExactCircleOf_head.2.2]
  kernel_rfl

/-- The given statement. -/
theorem CircleOf_holds : Rows.FnExactCircleOfSaid :=
  OpenClaim.holds_of_wide 14 Try.f14 rfl rfl rfl rfl rfl rfl rfl ⟨rfl, rfl, rfl, rfl, rfl⟩ rfl rfl rfl rfl rfl fnExactCircleOf_named Try.func14 fnExactCircleOf_joined fnExactCircleOf_inst fnExactCircleOf_wrap
    (fun os started H enc _ => fnExactCircleOf_lifted os started H enc)
#print axioms CircleOf_holds
end Go.Proofs.Ythkejedgfhjdiaa
