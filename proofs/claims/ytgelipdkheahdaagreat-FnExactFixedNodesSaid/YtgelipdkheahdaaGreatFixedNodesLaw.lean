/- The program's FixedNodes returns what the reference's FixedNodes returns, and writes into none of what it was given: for all arguments, without any condition. -/
import Derived.Test.YtgelipdkheahdaaGreatRows
import Derived.Test.YtgelipdkheahdaaGreatFixedNodesGd
set_option linter.all false
namespace Go.Proofs.YtgelipdkheahdaaGreat
open Go Go.PV Go.ChangeShapes Go.WideShapes Go.ChangeAt Go.RowKit
theorem fnExactFixedNodes_own : ownKnob Tryz.prog.godebug = none := by kernel_rfl
theorem fnExactFixedNodes_laidOut : laidOutB Tryz.prog = true := by kernel_rfl
set_option maxRecDepth 100000 in
theorem fnExactFixedNodes_lifted (os : Os) (started : os.Started) (H : Type) (enc : TypeId × Value → H) :
    ReturnsInHanded {} Tryz.checked os 5 .any (Rows.fnExactFixedNodesSpec.pre6 enc Tryz.prog Tryz.f5 Rows.fnExactFixedNodesRow.domain false) (Rows.fnExactFixedNodesSpec.post enc Tryz.prog Tryz.f5 false true false false) := by
  refine returnsInHanded_of_change (C := Tryz.checked) fnExactFixedNodes_own started (by kernel_rfl) Tryz.func5
    (ChangeSpec.witness6 (enc := enc) (C := Tryz.checked) false ⟨#[], #[.agg #[.int .i64 0, .slice none 0 0], .int .i64 0, .slice none 0 0], []⟩ 8 (by kernel_rfl) (by kernel_rfl) (by kernel_rfl) (by kernel_rfl)) ?_
  intro W base args ds gs before hval hW hcnd _
  exact law_contract (P := Tryz.prog) (τs := [24, 3, 40]) (ts := [QILQII, I, LI]) (tb := 4) (n := 8) progOk.tab fnExactFixedNodes_laidOut laws_FnExactFixedNodes_pc FixedNodes_pureT Tryz.params5 rfl Tryz.underlying4 rfl (fun ds h => match ds, h with | [d0, d1, d2], _ => rfl) (by kernel_rfl) (by kernel_rfl) base args ds gs before hval hW

theorem fnExactFixedNodes_named : Tryz.pinned.checked.prog.funcNamed Rows.fnExactFixedNodesRow.func = some 5 := by kernel_rfl
theorem fnExactFixedNodes_inst : Tryz.f5.isInstance Tryz.prog Rows.fnExactFixedNodesRow.origin Rows.fnExactFixedNodesRow.targs := of_decide_eq_true (by kernel_rfl)
theorem fnExactFixedNodes_wrap : Tryz.f5.isWrapper Tryz.prog Rows.fnExactFixedNodesRow.wrapper Rows.fnExactFixedNodesRow.mainSum := by
  unfold Func.isWrapper; first | (rw [if_pos (by decide +kernel)]; kernel_rfl) | (rw [if_neg (by decide +kernel)]; exact ⟨rfl, rfl⟩)
theorem fnExactFixedNodes_head : Tryz.prog.mayEnter = true ∧ Tryz.prog.liftsFinal = Rows.fnExactFixedNodesRow.lifted ∧ Tryz.prog.make = some Rows.fnExactFixedNodesRow.make := ⟨by kernel_rfl, by kernel_rfl, by kernel_rfl⟩
theorem fnExactFixedNodes_joined : joinedFacts Tryz.prog 5 Tryz.f5 Rows.fnExactFixedNodesSpec Rows.fnExactFixedNodesRow = true := by
  unfold joinedFacts
  rw [fnExactFixedNodes_head.1, fnExactFixedNodes_head.2.1, fnExactFixedNodes_head.2.2]
  kernel_rfl

/-- The given statement. -/
theorem FixedNodes_holds : Rows.FnExactFixedNodesSaid :=
  OpenClaim.holds_of_wide 5 Tryz.f5 rfl rfl rfl rfl rfl rfl rfl ⟨rfl, rfl, rfl, rfl, rfl⟩ rfl rfl rfl rfl rfl fnExactFixedNodes_named Tryz.func5 fnExactFixedNodes_joined fnExactFixedNodes_inst fnExactFixedNodes_wrap
    (fun os started H enc _ => fnExactFixedNodes_lifted os started H enc)
#print axioms FixedNodes_holds
end Go.Proofs.YtgelipdkheahdaaGreat
