/- The program's LowestOf returns what the reference's LowestOf returns, and writes into none of what it was given: for all arguments, without any condition. -/
import Derived.Test.YtbnebekejbhopaaRows
import Derived.Test.YtbnebekejbhopaaLowestOfGa
set_option linter.all false
namespace Go.Proofs.Ytbnebekejbhopaa
open Go Go.PV Go.ChangeShapes Go.WideShapes Go.ChangeAt Go.RowKit
theorem fnExactLowestOf_own : ownKnob Try.prog.godebug = none := by kernel_rfl
theorem fnExactLowestOf_laidOut : laidOutB Try.prog = true := by kernel_rfl
set_option maxRecDepth 100000 in
theorem fnExactLowestOf_lifted (os : Os) (started : os.Started) (H : Type) (enc : TypeId × Value → H) :
    ReturnsInHanded {} Try.checked os 14 .any (Rows.fnExactLowestOfSpec.pre6 enc Try.prog Try.f14 Rows.fnExactLowestOfRow.domain false) (Rows.fnExactLowestOfSpec.post enc Try.prog Try.f14 false true false false) := by
  refine returnsInHanded_of_change (C := Try.checked) fnExactLowestOf_own started (by kernel_rfl) Try.func14
    (ChangeSpec.witness6 (enc := enc) (C := Try.checked) false ⟨#[], #[.agg #[.int .i64 0, .slice none 0 0], .slice none 0 0], []⟩ 8 (by kernel_rfl) (by kernel_rfl) (by kernel_rfl) (by kernel_rfl)) ?_
  intro W base args ds gs before hval hW hcnd _
  exact law_contract (P := Try.prog) (τs := [29, 22]) (ts := [QILLI, LI]) (tb := 4) (n := 8) progOk.tab fnExactLowestOf_laidOut laws_FnExactLowestOf_pc LowestOf_pureT Try.params14 rfl Try.underlying4 rfl (fun ds h => match ds, h with | [d0, d1], _ => rfl) (by kernel_rfl) (by kernel_rfl) base args ds gs before hval hW

/-- The given statement. -/
theorem LowestOf_holds : Rows.FnExactLowestOfSaid :=
  OpenClaim.holds_of_wide 14 Try.f14 rfl rfl rfl rfl rfl rfl rfl ⟨rfl, rfl, rfl, rfl, rfl⟩ rfl rfl rfl rfl rfl (by kernel_rfl) Try.func14 (by kernel_rfl)
    (of_decide_eq_true (by kernel_rfl)) (by unfold Func.isWrapper; first | (rw [if_pos (by decide +kernel)]; kernel_rfl) | (rw [if_neg (by decide +kernel)]; exact ⟨rfl, rfl⟩))
    (fun os started H enc _ => fnExactLowestOf_lifted os started H enc)
#print axioms LowestOf_holds
end Go.Proofs.Ytbnebekejbhopaa
