/- The program's SpanningTrees returns what the reference's SpanningTrees returns, and writes into none of what it was given: for all arguments, without any condition. -/
import Derived.Test.YtfbkjgeaoafejaaRows
import Derived.Test.YtfbkjgeaoafejaaSpanningTreesGb
set_option linter.all false
namespace Go.Proofs.Ytfbkjgeaoafejaa
open Go Go.PV Go.ChangeShapes Go.WideShapes Go.ChangeAt Go.RowKit
theorem fnExactSpanningTrees_own : ownKnob Try.prog.godebug = none := by kernel_rfl
theorem fnExactSpanningTrees_laidOut : laidOutB Try.prog = true := by kernel_rfl
set_option maxRecDepth 100000 in
theorem fnExactSpanningTrees_lifted (os : Os) (started : os.Started) (H : Type) (enc : TypeId × Value → H) :
    ReturnsInHanded {} Try.checked os 5 .any (Rows.fnExactSpanningTreesSpec.pre6 enc Try.prog Try.f5 Rows.fnExactSpanningTreesRow.domain false) (Rows.fnExactSpanningTreesSpec.post enc Try.prog Try.f5 false true false false) := by
  refine returnsInHanded_of_change (C := Try.checked) fnExactSpanningTrees_own started (by kernel_rfl) Try.func5
    (ChangeSpec.witness6 (enc := enc) (C := Try.checked) false ⟨#[], #[.agg #[.int .i64 0, .slice none 0 0]], []⟩ 8 (by kernel_rfl) (by kernel_rfl) (by kernel_rfl) (by kernel_rfl)) ?_
  intro W base args ds gs before hval hW hcnd _
  exact law_contract (P := Try.prog) (τs := [24]) (ts := [QILQII]) (tb := 4) (n := 8) progOk.tab fnExactSpanningTrees_laidOut laws_FnExactSpanningTrees_pc SpanningTrees_pureT Try.params5 rfl Try.underlying4 rfl (fun ds h => match ds, h with | [d0], _ => rfl) (by kernel_rfl) (by kernel_rfl) base args ds gs before hval hW

theorem fnExactSpanningTrees_named : Try.pinned.checked.prog.funcNamed Rows.fnExactSpanningTreesRow.func = some 5 := by kernel_rfl
theorem fnExactSpanningTrees_inst : Try.f5.isInstance Try.prog Rows.fnExactSpanningTreesRow.origin Rows.fnExactSpanningTreesRow.targs := of_decide_eq_true (by kernel_rfl)
theorem fnExactSpanningTrees_wrap : Try.f5.isWrapper Try.prog Rows.fnExactSpanningTreesRow.wrapper Rows.fnExactSpanningTreesRow.mainSum := by
  unfold Func.isWrapper; first | (rw [if_pos (by decide +kernel)]; kernel_rfl) | (rw [if_neg (by decide +kernel)]; exact ⟨rfl, rfl⟩)
theorem fnExactSpanningTrees_head : Try.prog.mayEnter = true ∧ Try.prog.liftsFinal = Rows.fnExactSpanningTreesRow.lifted ∧ Try.prog.make = some Rows.fnExactSpanningTreesRow.make := ⟨by kernel_rfl, by kernel_rfl, by kernel_rfl⟩
theorem fnExactSpanningTrees_joined : joinedFacts Try.prog 5 Try.f5 Rows.fnExactSpanningTreesSpec Rows.fnExactSpanningTreesRow = true := by
  unfold joinedFacts
  rw [fnExactSpanningTrees_head.1, fnExactSpanningTrees_head.2.1, fnExactSpanningTrees_head.2.2]
  kernel_rfl

/-- The given statement. -/
theorem SpanningTrees_holds : Rows.FnExactSpanningTreesSaid :=
  OpenClaim.holds_of_wide 5 Try.f5 rfl rfl rfl rfl rfl rfl rfl ⟨rfl, rfl, rfl, rfl, rfl⟩ rfl rfl rfl rfl rfl fnExactSpanningTrees_named Try.func5 fnExactSpanningTrees_joined fnExactSpanningTrees_inst fnExactSpanningTrees_wrap
    (fun os started H enc _ => fnExactSpanningTrees_lifted os started H enc)
#print axioms SpanningTrees_holds
end Go.Proofs.Ytfbkjgeaoafejaa
