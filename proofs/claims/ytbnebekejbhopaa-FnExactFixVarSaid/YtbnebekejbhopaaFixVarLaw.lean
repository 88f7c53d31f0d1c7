/- The program's FixVar returns what the reference's FixVar returns, and writes into none of what it was given: for all arguments, without any condition. -/
import Derived.Test.YtbnebekejbhopaaRows
import Derived.Test.YtbnebekejbhopaaFixVarGa
set_option linter.all false
namespace Go.Proofs.Ytbnebekejbhopaa
open Go Go.PV Go.ChangeShapes Go.WideShapes Go.ChangeAt Go.RowKit
theorem fnExactFixVar_own : ownKnob Try.prog.godebug = none := by kernel_rfl
theorem fnExactFixVar_laidOut : laidOutB Try.prog = true := by kernel_rfl
set_option maxRecDepth 100000 in
theorem fnExactFixVar_lifted (os : Os) (started : os.Started) (H : Type) (enc : TypeId × Value → H) :
    ReturnsInHanded {} Try.checked os 9 .any (Rows.fnExactFixVarSpec.pre6 enc Try.prog Try.f9 Rows.fnExactFixVarRow.domain false) (Rows.fnExactFixVarSpec.post enc Try.prog Try.f9 false true false false) := by
  refine returnsInHanded_of_change (C := Try.checked) fnExactFixVar_own started (by kernel_rfl) Try.func9
    (ChangeSpec.witness6 (enc := enc) (C := Try.checked) false ⟨#[], #[.agg #[.int .i64 0, .slice none 0 0], .int .i64 0, .int .i64 0], []⟩ 8 (by kernel_rfl) (by kernel_rfl) (by kernel_rfl) (by kernel_rfl)) ?_
  intro W base args ds gs before hval hW hcnd _
  exact law_contract (P := Try.prog) (τs := [29, 3, 3]) (ts := [QILLI, I, I]) (tb := 4) (n := 8) progOk.tab fnExactFixVar_laidOut laws_FnExactFixVar_pc FixVar_pureT Try.params9 rfl Try.underlying4 rfl (fun ds h => match ds, h with | [d0, d1, d2], _ => rfl) (by kernel_rfl) (by kernel_rfl) base args ds gs before hval hW

/-- The given statement. -/
theorem FixVar_holds : Rows.FnExactFixVarSaid :=
  OpenClaim.holds_of_wide 9 Try.f9 rfl rfl rfl rfl rfl rfl rfl ⟨rfl, rfl, rfl, rfl, rfl⟩ rfl rfl rfl rfl rfl (by kernel_rfl) Try.func9 (by kernel_rfl)
    (of_decide_eq_true (by kernel_rfl)) (by unfold Func.isWrapper; first | (rw [if_pos (by decide +kernel)]; kernel_rfl) | (rw [if_neg (by decide +kernel)]; exact ⟨rfl, rfl⟩))
    (fun os started H enc _ => fnExactFixVar_lifted os started H enc)
#print axioms FixVar_holds
end Go.Proofs.Ytbnebekejbhopaa
