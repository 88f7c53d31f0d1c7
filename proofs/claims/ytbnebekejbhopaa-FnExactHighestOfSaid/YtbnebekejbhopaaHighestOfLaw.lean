/- The program's HighestOf returns what the reference's HighestOf returns, and writes into none of what it was given: for all arguments, without any condition. -/
import Derived.Test.YtbnebekejbhopaaRows
import Derived.Test.YtbnebekejbhopaaHighestOfGa
set_option linter.all false
namespace Go.Proofs.Ytbnebekejbhopaa
open Go Go.PV Go.ChangeShapes Go.WideShapes Go.ChangeAt Go.RowKit
theorem fnExactHighestOf_own : ownKnob Try.prog.godebug = none := by kernel_rfl
theorem fnExactHighestOf_laidOut : laidOutB Try.prog = true := by kernel_rfl
set_option maxRecDepth 100000 in
theorem fnExactHighestOf_lifted (os : Os) (started : os.Started) (H : Type) (enc : TypeId × Value → H) :
    ReturnsInHanded {} Try.checked os 13 .any (Rows.fnExactHighestOfSpec.pre6 enc Try.prog Try.f13 Rows.fnExactHighestOfRow.domain false) (Rows.fnExactHighestOfSpec.post enc Try.prog Try.f13 false true false false) := by
  refine returnsInHanded_of_change (C := Try.checked) fnExactHighestOf_own started (by kernel_rfl) Try.func13
    (ChangeSpec.witness6 (enc := enc) (C := Try.checked) false ⟨#[], #[.agg #[.int .i64 0, .slice none 0 0], .slice none 0 0], []⟩ 8 (by kernel_rfl) (by kernel_rfl) (by kernel_rfl) (by kernel_rfl)) ?_
  intro W base args ds gs before hval hW hcnd _
  exact law_contract (P := Try.prog) (τs := [29, 22]) (ts := [QILLI, LI]) (tb := 4) (n := 8) progOk.tab fnExactHighestOf_laidOut laws_FnExactHighestOf_pc HighestOf_pureT Try.params13 rfl Try.underlying4 rfl (fun ds h => match ds, h with | [d0, d1], _ => rfl) (by kernel_rfl) (by kernel_rfl) base args ds gs before hval hW

/-- The given statement. -/
theorem HighestOf_holds : Rows.FnExactHighestOfSaid :=
  OpenClaim.holds_of_wide 13 Try.f13 rfl rfl rfl rfl rfl rfl rfl ⟨rfl, rfl, rfl, rfl, rfl⟩ rfl rfl rfl rfl rfl (by kernel_rfl) Try.func13 (by kernel_rfl)
    (of_decide_eq_true (by kernel_rfl)) (by unfold Func.isWrapper; first | (rw [if_pos (by decide +kernel)]; kernel_rfl) | (rw [if_neg (by decide +kernel)]; exact ⟨rfl, rfl⟩))
    (fun os started H enc _ => fnExactHighestOf_lifted os started H enc)
#print axioms HighestOf_holds
end Go.Proofs.Ytbnebekejbhopaa
