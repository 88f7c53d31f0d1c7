/- The program's FlipWay returns what the reference's FlipWay returns, and writes into none of what it was given: for all arguments, without any condition. -/
import Derived.Test.YtgelipdkheahdaaGreatRows
import Derived.Test.YtgelipdkheahdaaGreatFlipWayGd
set_option linter.all false
namespace Go.Proofs.YtgelipdkheahdaaGreat
open Go Go.PV Go.ChangeShapes Go.WideShapes Go.ChangeAt Go.RowKit
theorem fnExactFlipWay_own : ownKnob Tryz.prog.godebug = none := by kernel_rfl
theorem fnExactFlipWay_laidOut : laidOutB Tryz.prog = true := by kernel_rfl
set_option maxRecDepth 100000 in
theorem fnExactFlipWay_lifted (os : Os) (started : os.Started) (H : Type) (enc : TypeId × Value → H) :
    ReturnsInHanded {} Tryz.checked os 4 .any (Rows.fnExactFlipWaySpec.pre6 enc Tryz.prog Tryz.f4 Rows.fnExactFlipWayRow.domain false) (Rows.fnExactFlipWaySpec.post enc Tryz.prog Tryz.f4 false true false false) := by
  refine returnsInHanded_of_change (C := Tryz.checked) fnExactFlipWay_own started (by kernel_rfl) Tryz.func4
    (ChangeSpec.witness6 (enc := enc) (C := Tryz.checked) false ⟨#[], #[.agg #[.int .i64 0, .slice none 0 0], .slice none 0 0, .slice none 0 0], []⟩ 8 (by kernel_rfl) (by kernel_rfl) (by kernel_rfl) (by kernel_rfl)) ?_
  intro W base args ds gs before hval hW hcnd _
  exact law_contract (P := Tryz.prog) (τs := [39, 40, 40]) (ts := [QILLI, LI, LI]) (tb := 4) (n := 8) progOk.tab fnExactFlipWay_laidOut laws_FnExactFlipWay_pc FlipWay_pureT Tryz.params4 rfl Tryz.underlying4 rfl (fun ds h => match ds, h with | [d0, d1, d2], _ => rfl) (by kernel_rfl) (by kernel_rfl) base args ds gs before hval hW

theorem fnExactFlipWay_named : Tryz.pinned.checked.prog.funcNamed Rows.fnExactFlipWayRow.func = some 4 := by kernel_rfl
theorem fnExactFlipWay_inst : Tryz.f4.isInstance Tryz.prog Rows.fnExactFlipWayRow.origin Rows.fnExactFlipWayRow.targs := of_decide_eq_true (by kernel_rfl)
theorem fnExactFlipWay_wrap : Tryz.f4.isWrapper Tryz.prog Rows.fnExactFlipWayRow.wrapper Rows.fnExactFlipWayRow.mainSum := by
  unfold Func.isWrapper; first | (rw [if_pos (by decide +kernel)]; kernel_rfl) | (rw [if_neg (by decide +kernel)]; exact ⟨rfl, rfl⟩)
theorem fnExactFlipWay_head : Tryz.prog.mayEnter = true ∧ Tryz.prog.liftsFinal = Rows.fnExactFlipWayRow.lifted ∧ Tryz.prog.make = some Rows.fnExactFlipWayRow.make := ⟨by kernel_rfl, by kernel_rfl, by kernel_rfl⟩
theorem fnExactFlipWay_joined : joinedFacts Tryz.prog 4 Tryz.f4 Rows.fnExactFlipWaySpec Rows.fnExactFlipWayRow = true := by
  unfold joinedFacts
  rw [fnExactFlipWay_head.1, fnExactFlipWay_head.2.1, fnExactFlipWay_head.2.2]
  kernel_rfl

/-- The given statement. -/
theorem FlipWay_holds : Rows.FnExactFlipWaySaid :=
  OpenClaim.holds_of_wide 4 Tryz.f4 rfl rfl rfl rfl rfl rfl rfl ⟨rfl, rfl, rfl, rfl, rfl⟩ rfl rfl rfl rfl rfl fnExactFlipWay_named Tryz.func4 fnExactFlipWay_joined fnExactFlipWay_inst fnExactFlipWay_wrap
    (fun os started H enc _ => fnExactFlipWay_lifted os started H enc)
#print axioms FlipWay_holds
end Go.Proofs.YtgelipdkheahdaaGreat
