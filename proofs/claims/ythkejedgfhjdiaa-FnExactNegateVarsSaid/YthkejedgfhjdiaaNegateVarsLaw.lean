/- The program's NegateVars returns what the reference's NegateVars returns, and writes into none of what it was given: for all arguments, without any condition. -/
import Derived.Test.YthkejedgfhjdiaaRows
import Derived.Test.YthkejedgfhjdiaaNegateVarsGb
set_option linter.all false
namespace Go.Proofs.Ythkejedgfhjdiaa
open Go Go.PV Go.ChangeShapes Go.WideShapes Go.ChangeAt Go.RowKit
theorem fnExactNegateVars_own : ownKnob Try.prog.godebug = none := by kernel_rfl
theorem fnExactNegateVars_laidOut : laidOutB Try.prog = true := by kernel_rfl
set_option maxRecDepth 100000 in
theorem fnExactNegateVars_lifted (os : Os) (started : os.Started) (H : Type) (enc : TypeId × Value → H) :
    ReturnsInHanded {} Try.checked os 12 .any (Rows.fnExactNegateVarsSpec.pre6 enc Try.prog Try.f12 Rows.fnExactNegateVarsRow.domain false) (Rows.fnExactNegateVarsSpec.post enc Try.prog Try.f12 false true false false) := by
  refine returnsInHanded_of_change (C := Try.checked) fnExactNegateVars_own started (by kernel_rfl) Try.func12
    (ChangeSpec.witness6 (enc := enc) (C := Try.checked) false ⟨#[], #[.agg #[.int .i64 0, .slice none 0 0], .slice none 0 0], []⟩ 8 (by kernel_rfl) (by kernel_rfl) (by kernel_rfl) (by kernel_rfl)) ?_
  intro W base args ds gs before hval hW hcnd _
  exact law_contract (P := Try.prog) (τs := [68, 33]) (ts := [QILLI, LI]) (tb := 4) (n := 8) progOk.tab fnExactNegateVars_laidOut laws_FnExactNegateVars_pc NegateVars_pureT Try.params12 rfl Try.underlying4 rfl (fun ds h => match ds, h with | [d0, d1], _ => rfl) (by kernel_rfl) (by kernel_rfl) base args ds gs before hval hW

/-- The given statement. -/
theorem NegateVars_holds : Rows.FnExactNegateVarsSaid :=
  OpenClaim.holds_of_wide 12 Try.f12 rfl rfl rfl rfl rfl rfl rfl ⟨rfl, rfl, rfl, rfl, rfl⟩ rfl rfl rfl rfl rfl (by kernel_rfl) Try.func12 (by kernel_rfl)
    (of_decide_eq_true (by kernel_rfl)) (by unfold Func.isWrapper; first | (rw [if_pos (by decide +kernel)]; kernel_rfl) | (rw [if_neg (by decide +kernel)]; exact ⟨rfl, rfl⟩))
    (fun os started H enc _ => fnExactNegateVars_lifted os started H enc)
#print axioms NegateVars_holds
end Go.Proofs.Ythkejedgfhjdiaa
