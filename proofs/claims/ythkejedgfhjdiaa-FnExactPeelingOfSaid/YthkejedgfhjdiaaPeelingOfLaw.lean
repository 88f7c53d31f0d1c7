/- The program's PeelingOf returns what the reference's PeelingOf returns, and writes into none of what it was given: for all arguments, without any condition. -/
import Derived.Test.YthkejedgfhjdiaaRows
import Derived.Test.YthkejedgfhjdiaaPeelingOfGa
set_option linter.all false
namespace Go.Proofs.Ythkejedgfhjdiaa
open Go Go.PV Go.ChangeShapes Go.WideShapes Go.ChangeAt Go.RowKit
theorem fnExactPeelingOf_own : ownKnob Try.prog.godebug = none := by kernel_rfl
theorem fnExactPeelingOf_laidOut : laidOutB Try.prog = true := by kernel_rfl
set_option maxRecDepth 100000 in
theorem fnExactPeelingOf_lifted (os : Os) (started : os.Started) (H : Type) (enc : TypeId × Value → H) :
    ReturnsInHanded {} Try.checked os 10 .any (Rows.fnExactPeelingOfSpec.pre6 enc Try.prog Try.f10 Rows.fnExactPeelingOfRow.domain false) (Rows.fnExactPeelingOfSpec.post enc Try.prog Try.f10 false true false false) := by
  refine returnsInHanded_of_change (C := Try.checked) fnExactPeelingOf_own started (by kernel_rfl) Try.func10
    (ChangeSpec.witness6 (enc := enc) (C := Try.checked) false ⟨#[], #[.agg #[.int .i64 0, .slice none 0 0]], []⟩ 8 (by kernel_rfl) (by kernel_rfl) (by kernel_rfl) (by kernel_rfl)) ?_
  intro W base args ds gs before hval hW hcnd _
  exact law_contract (P := Try.prog) (τs := [45]) (ts := [QILQII]) (tb := 4) (n := 8) progOk.tab fnExactPeelingOf_laidOut laws_FnExactPeelingOf_pc PeelingOf_pureT Try.params10 rfl Try.underlying4 rfl (fun ds h => match ds, h with | [d0], _ => rfl) (by kernel_rfl) (by kernel_rfl) base args ds gs before hval hW

/-- The given statement. -/
theorem PeelingOf_holds : Rows.FnExactPeelingOfSaid :=
  OpenClaim.holds_of_wide 10 Try.f10 rfl rfl rfl rfl rfl rfl rfl ⟨rfl, rfl, rfl, rfl, rfl⟩ rfl rfl rfl rfl rfl (by kernel_rfl) Try.func10 (by kernel_rfl)
    (of_decide_eq_true (by kernel_rfl)) (by unfold Func.isWrapper; first | (rw [if_pos (by decide +kernel)]; kernel_rfl) | (rw [if_neg (by decide +kernel)]; exact ⟨rfl, rfl⟩))
    (fun os started H enc _ => fnExactPeelingOf_lifted os started H enc)
#print axioms PeelingOf_holds
end Go.Proofs.Ythkejedgfhjdiaa
