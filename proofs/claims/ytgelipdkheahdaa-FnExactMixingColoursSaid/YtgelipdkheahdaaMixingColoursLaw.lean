/- The program's MixingColours returns what the reference's MixingColours returns, and writes into none of what it was given: for all arguments, without any condition. -/
import Derived.Test.YtgelipdkheahdaaRows
import Derived.Test.YtgelipdkheahdaaMixingColoursGc
set_option linter.all false
namespace Go.Proofs.Ytgelipdkheahdaa
open Go Go.PV Go.ChangeShapes Go.WideShapes Go.ChangeAt Go.RowKit
theorem fnExactMixingColours_own : ownKnob Try.prog.godebug = none := by kernel_rfl
theorem fnExactMixingColours_laidOut : laidOutB Try.prog = true := by kernel_rfl
set_option maxRecDepth 100000 in
theorem fnExactMixingColours_lifted (os : Os) (started : os.Started) (H : Type) (enc : TypeId × Value → H) :
    ReturnsInHanded {} Try.checked os 7 .any (Rows.fnExactMixingColoursSpec.pre6 enc Try.prog Try.f7 Rows.fnExactMixingColoursRow.domain false) (Rows.fnExactMixingColoursSpec.post enc Try.prog Try.f7 false true false false) := by
  refine returnsInHanded_of_change (C := Try.checked) fnExactMixingColours_own started (by kernel_rfl) Try.func7
    (ChangeSpec.witness6 (enc := enc) (C := Try.checked) false ⟨#[], #[.agg #[.int .i64 0, .slice none 0 0]], []⟩ 8 (by kernel_rfl) (by kernel_rfl) (by kernel_rfl) (by kernel_rfl)) ?_
  intro W base args ds gs before hval hW hcnd _
  exact law_contract (P := Try.prog) (τs := [24]) (ts := [QILQII]) (tb := 4) (n := 8) progOk.tab fnExactMixingColours_laidOut laws_FnExactMixingColours_pc MixingColours_pureT Try.params7 rfl Try.underlying4 rfl (fun ds h => match ds, h with | [d0], _ => rfl) (by kernel_rfl) (by kernel_rfl) base args ds gs before hval hW

theorem fnExactMixingColours_named : Try.pinned.checked.prog.funcNamed Rows.fnExactMixingColoursRow.func = some 7 := by kernel_rfl
theorem fnExactMixingColours_inst : Try.f7.isInstance Try.prog Rows.fnExactMixingColoursRow.origin Rows.fnExactMixingColoursRow.targs := of_decide_eq_true (by kernel_rfl)
theorem fnExactMixingColours_wrap : Try.f7.isWrapper Try.prog Rows.fnExactMixingColoursRow.wrapper Rows.fnExactMixingColoursRow.mainSum := by
  unfold Func.isWrapper; first | (rw [if_pos (by decide +kernel)]; kernel_rfl) | (rw [if_neg (by decide +kernel)]; exact ⟨rfl, rfl⟩)
theorem fnExactMixingColours_head : Try.prog.mayEnter = true ∧ Try.prog.liftsFinal = Rows.fnExactMixingColoursRow.lifted ∧ Try.prog.make = some Rows.fnExactMixingColoursRow.make := ⟨by kernel_rfl, by kernel_rfl, by kernel_rfl⟩
theorem fnExactMixingColours_joined : joinedFacts Try.prog 7 Try.f7 Rows.fnExactMixingColoursSpec Rows.fnExactMixingColoursRow = true := by
  unfold joinedFacts
  rw [fnExactMixingColours_head.1, fnExactMixingColours_head.2.1, fnExactMixingColours_head.2.2]
  kernel_rfl

/-- The given statement. -/
theorem MixingColours_holds : Rows.FnExactMixingColoursSaid :=
  OpenClaim.holds_of_wide 7 Try.f7 rfl rfl rfl rfl rfl rfl rfl ⟨rfl, rfl, rfl, rfl, rfl⟩ rfl rfl rfl rfl rfl fnExactMixingColours_named Try.func7 fnExactMixingColours_joined fnExactMixingColours_inst fnExactMixingColours_wrap
    (fun os started H enc _ => fnExactMixingColours_lifted os started H enc)
#print axioms MixingColours_holds
end Go.Proofs.Ytgelipdkheahdaa
