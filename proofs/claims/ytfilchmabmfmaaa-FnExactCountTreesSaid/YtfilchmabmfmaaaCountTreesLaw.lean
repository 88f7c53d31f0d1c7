/- The program's CountTrees returns what the reference's CountTrees returns, and writes into none of what it was given: for all arguments, without any condition. -/
import Derived.Test.YtfilchmabmfmaaaRows
import Derived.Test.YtfilchmabmfmaaaCountTreesGb
set_option linter.all false
namespace Go.Proofs.Ytfilchmabmfmaaa
open Go Go.PV Go.ChangeShapes Go.WideShapes Go.ChangeAt Go.RowKit
theorem fnExactCountTrees_own : ownKnob Try.prog.godebug = none := by kernel_rfl
theorem fnExactCountTrees_laidOut : laidOutB Try.prog = true := by kernel_rfl
set_option maxRecDepth 100000 in
theorem fnExactCountTrees_lifted (os : Os) (started : os.Started) (H : Type) (enc : TypeId × Value → H) :
    ReturnsInHanded {} Try.checked os 3 .any (Rows.fnExactCountTreesSpec.pre6 enc Try.prog Try.f3 Rows.fnExactCountTreesRow.domain false) (Rows.fnExactCountTreesSpec.post enc Try.prog Try.f3 false true false false) := by
  refine returnsInHanded_of_change (C := Try.checked) fnExactCountTrees_own started (by kernel_rfl) Try.func3
    (ChangeSpec.witness6 (enc := enc) (C := Try.checked) false ⟨#[], #[.agg #[.int .i64 0, .slice none 0 0]], []⟩ 8 (by kernel_rfl) (by kernel_rfl) (by kernel_rfl) (by kernel_rfl)) ?_
  intro W base args ds gs before hval hW hcnd _
  exact law_contract (P := Try.prog) (τs := [24]) (ts := [QILQII]) (tb := 4) (n := 8) progOk.tab fnExactCountTrees_laidOut Zq11_pc CountTrees_pureT Try.params3 rfl Try.underlying4 rfl (fun ds h => match ds, h with | [d0], _ => rfl) (by kernel_rfl) (by kernel_rfl) base args ds gs before hval hW

theorem fnExactCountTrees_named : Try.pinned.checked.prog.funcNamed Rows.fnExactCountTreesRow.func = some 3 := by kernel_rfl
theorem fnExactCountTrees_inst : Try.f3.isInstance Try.prog Rows.fnExactCountTreesRow.origin Rows.fnExactCountTreesRow.targs := of_decide_eq_true (by kernel_rfl)
theorem fnExactCountTrees_wrap : Try.f3.isWrapper Try.prog Rows.fnExactCountTreesRow.wrapper Rows.fnExactCountTreesRow.mainSum := by
  unfold Func.isWrapper; first | (rw [if_pos (by decide +kernel)]; kernel_rfl) | (rw [if_neg (by decide +kernel)]; exact ⟨rfl, rfl⟩)
theorem fnExactCountTrees_head : Try.prog.mayEnter = true ∧ Try.prog.liftsFinal = Rows.fnExactCountTreesRow.lifted ∧ Try.prog.make = some Rows.fnExactCountTreesRow.make := ⟨by kernel_rfl, by kernel_rfl, by kernel_rfl⟩
theorem fnExactCountTrees_joined : joinedFacts Try.prog 3 Try.f3 Rows.fnExactCountTreesSpec Rows.fnExactCountTreesRow = true := by
  unfold joinedFacts
  rw [fnExactCountTrees_head.1, fnExactCountTrees_head.2.1, fnExactCountTrees_head.2.2]
  kernel_rfl

theorem CountTrees_holds : Rows.FnExactCountTreesSaid :=
  OpenClaim.holds_of_wide 3 Try.f3 rfl rfl rfl rfl rfl rfl rfl ⟨rfl, rfl, rfl, rfl, rfl⟩ rfl rfl rfl rfl rfl fnExactCountTrees_named Try.func3 fnExactCountTrees_joined fnExactCountTrees_inst fnExactCountTrees_wrap
    (fun os started H enc _ => fnExactCountTrees_lifted os started H enc)
#print axioms CountTrees_holds
end Go.Proofs.Ytfilchmabmfmaaa
