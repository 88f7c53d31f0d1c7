/- The program's FlipDistance returns what the reference's FlipDistance returns, and writes into none of what it was given: for all arguments, without any condition. -/
import Derived.Test.YtgelipdkheahdaaRows
import Derived.Test.YtgelipdkheahdaaFlipDistanceGc
set_option linter.all false
namespace Go.Proofs.Ytgelipdkheahdaa
open Go Go.PV Go.ChangeShapes Go.WideShapes Go.ChangeAt Go.RowKit
theorem fnExactFlipDistance_own : ownKnob Try.prog.godebug = none := by kernel_rfl
theorem fnExactFlipDistance_laidOut : laidOutB Try.prog = true := by kernel_rfl
set_option maxRecDepth 100000 in
theorem fnExactFlipDistance_lifted (os : Os) (started : os.Started) (H : Type) (enc : TypeId × Value → H) :
    ReturnsInHanded {} Try.checked os 8 .any (Rows.fnExactFlipDistanceSpec.pre6 enc Try.prog Try.f8 Rows.fnExactFlipDistanceRow.domain false) (Rows.fnExactFlipDistanceSpec.post enc Try.prog Try.f8 false true false false) := by
  refine returnsInHanded_of_change (C := Try.checked) fnExactFlipDistance_own started (by kernel_rfl) Try.func8
    (ChangeSpec.witness6 (enc := enc) (C := Try.checked) false ⟨#[], #[.agg #[.int .i64 0, .slice none 0 0], .slice none 0 0, .slice none 0 0], []⟩ 8 (by kernel_rfl) (by kernel_rfl) (by kernel_rfl) (by kernel_rfl)) ?_
  intro W base args ds gs before hval hW hcnd _
  exact law_contract (P := Try.prog) (τs := [42, 43, 43]) (ts := [QILLI, LI, LI]) (tb := 4) (n := 8) progOk.tab fnExactFlipDistance_laidOut laws_FnExactFlipDistance_pc FlipDistance_pureT Try.params8 rfl Try.underlying4 rfl (fun ds h => match ds, h with | [d0, d1, d2], _ => rfl) (by kernel_rfl) (by kernel_rfl) base args ds gs before hval hW

theorem fnExactFlipDistance_named : Try.pinned.checked.prog.funcNamed Rows.fnExactFlipDistanceRow.func = some 8 := by kernel_rfl
theorem fnExactFlipDistance_inst : Try.f8.isInstance Try.prog Rows.fnExactFlipDistanceRow.origin Rows.fnExactFlipDistanceRow.targs := of_decide_eq_true (by kernel_rfl)
theorem fnExactFlipDistance_wrap : Try.f8.isWrapper Try.prog Rows.fnExactFlipDistanceRow.wrapper Rows.fnExactFlipDistanceRow.mainSum := by
  unfold Func.isWrapper; first | (rw [if_pos (by decide +kernel)]; kernel_rfl) | (rw [if_neg (by decide +kernel)]; exact ⟨rfl, rfl⟩)
theorem fnExactFlipDistance_head : Try.prog.mayEnter = true ∧ Try.prog.liftsFinal = Rows.fnExactFlipDistanceRow.lifted ∧ Try.prog.make = some Rows.fnExactFlipDistanceRow.make := ⟨by kernel_rfl, by kernel_rfl, by kernel_rfl⟩
theorem fnExactFlipDistance_joined : joinedFacts Try.prog 8 Try.f8 Rows.fnExactFlipDistanceSpec Rows.fnExactFlipDistanceRow = true := by
  unfold joinedFacts
  rw [fnExactFlipDistance_head.1, fnExactFlipDistance_head.2.1, fnExactFlipDistance_head.2.2]
  kernel_rfl

/-- The given statement. -/
theorem FlipDistance_holds : Rows.FnExactFlipDistanceSaid :=
  OpenClaim.holds_of_wide 8 Try.f8 rfl rfl rfl rfl rfl rfl rfl ⟨rfl, rfl, rfl, rfl, rfl⟩ rfl rfl rfl rfl rfl fnExactFlipDistance_named Try.func8 fnExactFlipDistance_joined fnExactFlipDistance_inst fnExactFlipDistance_wrap
    (fun os started H enc _ => fnExactFlipDistance_lifted os started H enc)
#print axioms FlipDistance_holds
end Go.Proofs.Ytgelipdkheahdaa
