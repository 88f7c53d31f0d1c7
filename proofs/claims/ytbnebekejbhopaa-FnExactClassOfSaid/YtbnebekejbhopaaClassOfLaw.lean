/- The program's ClassOf returns what the reference's ClassOf returns, and writes into none of what it was given: for all arguments, without any condition. -/
import Derived.Test.YtbnebekejbhopaaRows
import Derived.Test.YtbnebekejbhopaaClassOfGa
set_option linter.all false
namespace Go.Proofs.Ytbnebekejbhopaa
open Go Go.PV Go.ChangeShapes Go.WideShapes Go.ChangeAt Go.RowKit
theorem fnExactClassOf_own : ownKnob Try.prog.godebug = none := by kernel_rfl
theorem fnExactClassOf_laidOut : laidOutB Try.prog = true := by kernel_rfl
set_option maxRecDepth 100000 in
theorem fnExactClassOf_lifted (os : Os) (started : os.Started) (H : Type) (enc : TypeId × Value → H) :
    ReturnsInHanded {} Try.checked os 6 .any (Rows.fnExactClassOfSpec.pre6 enc Try.prog Try.f6 Rows.fnExactClassOfRow.domain false) (Rows.fnExactClassOfSpec.post enc Try.prog Try.f6 false true false false) := by
  refine returnsInHanded_of_change (C := Try.checked) fnExactClassOf_own started (by kernel_rfl) Try.func6
    (ChangeSpec.witness6 (enc := enc) (C := Try.checked) false ⟨#[], #[.agg #[.int .i64 0, .slice none 0 0]], []⟩ 8 (by kernel_rfl) (by kernel_rfl) (by kernel_rfl) (by kernel_rfl)) ?_
  intro W base args ds gs before hval hW hcnd _
  exact law_contract (P := Try.prog) (τs := [29]) (ts := [QILLI]) (tb := 4) (n := 8) progOk.tab fnExactClassOf_laidOut laws_FnExactClassOf_pc ClassOf_pureT Try.params6 rfl Try.underlying4 rfl (fun ds h => match ds, h with | [d0], _ => rfl) (by kernel_rfl) (by kernel_rfl) base args ds gs before hval hW

/-- The given statement. -/
theorem ClassOf_holds : Rows.FnExactClassOfSaid :=
  OpenClaim.holds_of_wide 6 Try.f6 rfl rfl rfl rfl rfl rfl rfl ⟨rfl, rfl, rfl, rfl, rfl⟩ rfl rfl rfl rfl rfl (by kernel_rfl) Try.func6 (by kernel_rfl)
    (of_decide_eq_true (by kernel_rfl)) (by unfold Func.isWrapper; first | (rw [if_pos (by decide +kernel)]; kernel_rfl) | (rw [if_neg (by decide +kernel)]; exact ⟨rfl, rfl⟩))
    (fun os started H enc _ => fnExactClassOf_lifted os started H enc)
#print axioms ClassOf_holds
end Go.Proofs.Ytbnebekejbhopaa
