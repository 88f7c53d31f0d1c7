/- The program's FormulaOf returns what the reference's FormulaOf returns, and writes into none of what it was given: for all arguments, without any condition. -/
import Derived.Test.YthkejedgfhjdiaaRows
import Derived.Test.YthkejedgfhjdiaaFormulaOfGb
set_option linter.all false
namespace Go.Proofs.Ythkejedgfhjdiaa
open Go Go.PV Go.ChangeShapes Go.WideShapes Go.ChangeAt Go.RowKit
theorem fnExactFormulaOf_own : ownKnob Try.prog.godebug = none := by kernel_rfl
theorem fnExactFormulaOf_laidOut : laidOutB Try.prog = true := by kernel_rfl
set_option maxRecDepth 100000 in
theorem fnExactFormulaOf_lifted (os : Os) (started : os.Started) (H : Type) (enc : TypeId × Value → H) :
    ReturnsInHanded {} Try.checked os 3 .any (Rows.fnExactFormulaOfSpec.pre6 enc Try.prog Try.f3 Rows.fnExactFormulaOfRow.domain false) (Rows.fnExactFormulaOfSpec.post enc Try.prog Try.f3 false true false false) := by
  refine returnsInHanded_of_change (C := Try.checked) fnExactFormulaOf_own started (by kernel_rfl) Try.func3
    (ChangeSpec.witness6 (enc := enc) (C := Try.checked) false ⟨#[], #[.int .i64 0, .slice none 0 0], []⟩ 8 (by kernel_rfl) (by kernel_rfl) (by kernel_rfl) (by kernel_rfl)) ?_
  intro W base args ds gs before hval hW hcnd _
  exact law_contract (P := Try.prog) (τs := [3, 22]) (ts := [I, LLI]) (tb := 4) (n := 8) progOk.tab fnExactFormulaOf_laidOut laws_FnExactFormulaOf_pc FormulaOf_pureT Try.params3 rfl Try.underlying4 rfl (fun ds h => match ds, h with | [d0, d1], _ => rfl) (by kernel_rfl) (by kernel_rfl) base args ds gs before hval hW

/-- The given statement. -/
theorem FormulaOf_holds : Rows.FnExactFormulaOfSaid :=
  OpenClaim.holds_of_wide 3 Try.f3 rfl rfl rfl rfl rfl rfl rfl ⟨rfl, rfl, rfl, rfl, rfl⟩ rfl rfl rfl rfl rfl (by kernel_rfl) Try.func3 (by kernel_rfl)
    (of_decide_eq_true (by kernel_rfl)) (by unfold Func.isWrapper; first | (rw [if_pos (by decide +kernel)]; kernel_rfl) | (rw [if_neg (by decide +kernel)]; exact ⟨rfl, rfl⟩))
    (fun os started H enc _ => fnExactFormulaOf_lifted os started H enc)
#print axioms FormulaOf_holds
end Go.Proofs.Ythkejedgfhjdiaa
