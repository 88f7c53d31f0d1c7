/- The program's CutOf returns what the reference's CutOf returns, and writes into none of what it was given: for all arguments, without any condition. -/
import Derived.Test.YthkejedgfhjdiaaRows
import Derived.Test.YthkejedgfhjdiaaCutOfGb
set_option linter.all false
namespace Go.Proofs.Ythkejedgfhjdiaa
open Go Go.PV Go.ChangeShapes Go.WideShapes Go.ChangeAt Go.RowKit
theorem fnExactCutOf_own : ownKnob Try.prog.godebug = none := by kernel_rfl
theorem fnExactCutOf_laidOut : laidOutB Try.prog = true := by kernel_rfl
set_option maxRecDepth 100000 in
theorem fnExactCutOf_lifted (os : Os) (started : os.Started) (H : Type) (enc : TypeId × Value → H) :
    ReturnsInHanded {} Try.checked os 8 .any (Rows.fnExactCutOfSpec.pre6 enc Try.prog Try.f8 Rows.fnExactCutOfRow.domain false) (Rows.fnExactCutOfSpec.post enc Try.prog Try.f8 false true false false) := by
  refine returnsInHanded_of_change (C := Try.checked) fnExactCutOf_own started (by kernel_rfl) Try.func8
    (ChangeSpec.witness6 (enc := enc) (C := Try.checked) false ⟨#[], #[.agg #[.int .i64 0, .slice none 0 0], .slice none 0 0, .int .i64 0], []⟩ 8 (by kernel_rfl) (by kernel_rfl) (by kernel_rfl) (by kernel_rfl)) ?_
  intro W base args ds gs before hval hW hcnd _
  exact law_contract (P := Try.prog) (τs := [45, 33, 3]) (ts := [QILQII, LI, I]) (tb := 4) (n := 8) progOk.tab fnExactCutOf_laidOut laws_FnExactCutOf_pc CutOf_pureT Try.params8 rfl Try.underlying4 rfl (fun ds h => match ds, h with | [d0, d1, d2], _ => rfl) (by kernel_rfl) (by kernel_rfl) base args ds gs before hval hW

theorem fnExactCutOf_named : Try.pinned.checked.prog.funcNamed Rows.fnExactCutOfRow.func = some 8 := by kernel_rfl
theorem fnExactCutOf_inst : Try.f8.isInstance Try.prog Rows.fnExactCutOfRow.origin Rows.fnExactCutOfRow.targs := of_decide_eq_true (by kernel_rfl)
theorem fnExactCutOf_wrap : Try.f8.isWrapper Try.prog Rows.fnExactCutOfRow.wrapper Rows.fnExactCutOfRow.mainSum := by
  unfold Func.isWrapper; first | (rw [if_pos (by decide +kernel)]; kernel_rfl) | (rw [if_neg (by decide +kernel)]; exact ⟨rfl, rfl⟩)
theorem fnExactCutOf_head : Try.prog.mayEnter = true ∧ Try.prog.liftsFinal = Rows.fnExactCutOfRow.lifted ∧ Try.prog.make = some Rows.fnExactCutOfRow.make := ⟨by kernel_rfl, by kernel_rfl, by kernel_rfl⟩
theorem fnExactCutOf_joined : joinedFacts Try.prog 8 Try.f8 Rows.fnExactCutOfSpec Rows.fnExactCutOfRow = true := by
  unfold joinedFacts
  rw [fnExactCutOf_head.1, fnExactCutOf_head.2.1, fnExactCutOf_head.2.2]
  kernel_rfl

/-- The given statement. -/
theorem CutOf_holds : Rows.FnExactCutOfSaid :=
  OpenClaim.holds_of_wide 8 Try.f8 rfl rfl rfl rfl rfl rfl rfl ⟨rfl, rfl, rfl, rfl, rfl⟩ rfl rfl rfl rfl rfl fnExactCutOf_named Try.func8 fnExactCutOf_joined fnExactCutOf_inst fnExactCutOf_wrap
    (fun os started H enc _ => fnExactCutOf_lifted os started H enc)
#print axioms CutOf_holds
end Go.Proofs.Ythkejedgfhjdiaa
