/- The program's KindSlides returns what the reference's KindSlides returns, and writes into none of what it was given: for all arguments, without any condition. -/
import Derived.Test.YtgelipdkheahdaaRows
import Derived.Test.YtgelipdkheahdaaKindSlidesGc
set_option linter.all false
namespace Go.Proofs.Ytgelipdkheahdaa
open Go Go.PV Go.ChangeShapes Go.WideShapes Go.ChangeAt Go.RowKit
theorem fnExactKindSlides_own : ownKnob Try.prog.godebug = none := by kernel_rfl
theorem fnExactKindSlides_laidOut : laidOutB Try.prog = true := by kernel_rfl
set_option maxRecDepth 100000 in
theorem fnExactKindSlides_lifted (os : Os) (started : os.Started) (H : Type) (enc : TypeId × Value → H) :
    ReturnsInHanded {} Try.checked os 5 .any (Rows.fnExactKindSlidesSpec.pre6 enc Try.prog Try.f5 Rows.fnExactKindSlidesRow.domain false) (Rows.fnExactKindSlidesSpec.post enc Try.prog Try.f5 false true false false) := by
  refine returnsInHanded_of_change (C := Try.checked) fnExactKindSlides_own started (by kernel_rfl) Try.func5
    (ChangeSpec.witness6 (enc := enc) (C := Try.checked) false ⟨#[], #[.agg #[.int .i64 0, .slice none 0 0], .int .i64 0, .int .i64 0], []⟩ 8 (by kernel_rfl) (by kernel_rfl) (by kernel_rfl) (by kernel_rfl)) ?_
  intro W base args ds gs before hval hW hcnd _
  exact law_contract (P := Try.prog) (τs := [24, 3, 3]) (ts := [QILQII, I, I]) (tb := 4) (n := 8) progOk.tab fnExactKindSlides_laidOut laws_FnExactKindSlides_pc KindSlides_pureT Try.params5 rfl Try.underlying4 rfl (fun ds h => match ds, h with | [d0, d1, d2], _ => rfl) (by kernel_rfl) (by kernel_rfl) base args ds gs before hval hW

theorem fnExactKindSlides_named : Try.pinned.checked.prog.funcNamed Rows.fnExactKindSlidesRow.func = some 5 := by kernel_rfl
theorem fnExactKindSlides_inst : Try.f5.isInstance Try.prog Rows.fnExactKindSlidesRow.origin Rows.fnExactKindSlidesRow.targs := of_decide_eq_true (by kernel_rfl)
theorem fnExactKindSlides_wrap : Try.f5.isWrapper Try.prog Rows.fnExactKindSlidesRow.wrapper Rows.fnExactKindSlidesRow.mainSum := by
  unfold Func.isWrapper; first | (rw [if_pos (by decide +kernel)]; kernel_rfl) | (rw [if_neg (by decide +kernel)]; exact ⟨rfl, rfl⟩)
theorem fnExactKindSlides_head : Try.prog.mayEnter = true ∧ Try.prog.liftsFinal = Rows.fnExactKindSlidesRow.lifted ∧ Try.prog.make = some Rows.fnExactKindSlidesRow.make := ⟨by kernel_rfl, by kernel_rfl, by kernel_rfl⟩
theorem fnExactKindSlides_joined : joinedFacts Try.prog 5 Try.f5 Rows.fnExactKindSlidesSpec Rows.fnExactKindSlidesRow = true := by
  unfold joinedFacts
  rw [fnExactKindSlides_head.1, fnExactKindSlides_head.2.1, fnExactKindSlides_head.2.2]
  kernel_rfl

/-- The given statement. -/
theorem KindSlides_holds : Rows.FnExactKindSlidesSaid :=
  OpenClaim.holds_of_wide 5 Try.f5 rfl rfl rfl rfl rfl rfl rfl ⟨rfl, rfl, rfl, rfl, rfl⟩ rfl rfl rfl rfl rfl fnExactKindSlides_named Try.func5 fnExactKindSlides_joined fnExactKindSlides_inst fnExactKindSlides_wrap
    (fun os started H enc _ => fnExactKindSlides_lifted os started H enc)
#print axioms KindSlides_holds
end Go.Proofs.Ytgelipdkheahdaa
