/- The program's WindingOf returns what the reference's WindingOf returns, and writes into none of what it was given: for all arguments, without any condition. -/
import Derived.Test.YtbnebekejbhopaaRows
import Derived.Test.YtbnebekejbhopaaWindingOfGa
set_option linter.all false
namespace Go.Proofs.Ytbnebekejbhopaa
open Go Go.PV Go.ChangeShapes Go.WideShapes Go.ChangeAt Go.RowKit
theorem fnExactWindingOf_own : ownKnob Try.prog.godebug = none := by kernel_rfl
theorem fnExactWindingOf_laidOut : laidOutB Try.prog = true := by kernel_rfl
set_option maxRecDepth 100000 in
theorem fnExactWindingOf_lifted (os : Os) (started : os.Started) (H : Type) (enc : TypeId × Value → H) :
    ReturnsInHanded {} Try.checked os 12 .any (Rows.fnExactWindingOfSpec.pre6 enc Try.prog Try.f12 Rows.fnExactWindingOfRow.domain false) (Rows.fnExactWindingOfSpec.post enc Try.prog Try.f12 false true false false) := by
  refine returnsInHanded_of_change (C := Try.checked) fnExactWindingOf_own started (by kernel_rfl) Try.func12
    (ChangeSpec.witness6 (enc := enc) (C := Try.checked) false ⟨#[], #[.agg #[.int .i64 0, .slice none 0 0], .slice none 0 0, .slice none 0 0], []⟩ 8 (by kernel_rfl) (by kernel_rfl) (by kernel_rfl) (by kernel_rfl)) ?_
  intro W base args ds gs before hval hW hcnd _
  exact law_contract (P := Try.prog) (τs := [51, 22, 22]) (ts := [QILQII, LI, LI]) (tb := 4) (n := 8) progOk.tab fnExactWindingOf_laidOut laws_FnExactWindingOf_pc WindingOf_pureT Try.params12 rfl Try.underlying4 rfl (fun ds h => match ds, h with | [d0, d1, d2], _ => rfl) (by kernel_rfl) (by kernel_rfl) base args ds gs before hval hW

/-- The given statement. -/
theorem WindingOf_holds : Rows.FnExactWindingOfSaid :=
  OpenClaim.holds_of_wide 12 Try.f12 rfl rfl rfl rfl rfl rfl rfl ⟨rfl, rfl, rfl, rfl, rfl⟩ rfl rfl rfl rfl rfl (by kernel_rfl) Try.func12 (by kernel_rfl)
    (of_decide_eq_true (by kernel_rfl)) (by unfold Func.isWrapper; first | (rw [if_pos (by decide +kernel)]; kernel_rfl) | (rw [if_neg (by decide +kernel)]; exact ⟨rfl, rfl⟩))
    (fun os started H enc _ => fnExactWindingOf_lifted os started H enc)
#print axioms WindingOf_holds
end Go.Proofs.Ytbnebekejbhopaa
