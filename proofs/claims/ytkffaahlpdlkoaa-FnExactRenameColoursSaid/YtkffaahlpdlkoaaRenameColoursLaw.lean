/- The program's RenameColours returns what the reference's RenameColours returns, and writes into none of what it was given: for all arguments, without any condition. -/
import Derived.Test.YtkffaahlpdlkoaaRows
import Derived.Test.YtkffaahlpdlkoaaRenameColoursGa
set_option linter.all false
namespace Go.Proofs.Ytkffaahlpdlkoaa
open Go Go.PV Go.ChangeShapes Go.WideShapes Go.ChangeAt Go.RowKit
theorem fnExactRenameColours_own : ownKnob Try.prog.godebug = none := by kernel_rfl
theorem fnExactRenameColours_laidOut : laidOutB Try.prog = true := by kernel_rfl
set_option maxRecDepth 100000 in
theorem fnExactRenameColours_lifted (os : Os) (started : os.Started) (H : Type) (enc : TypeId × Value → H) :
    ReturnsInHanded {} Try.checked os 3 .any (Rows.fnExactRenameColoursSpec.pre6 enc Try.prog Try.f3 Rows.fnExactRenameColoursRow.domain false) (Rows.fnExactRenameColoursSpec.post enc Try.prog Try.f3 false true false false) := by
  refine returnsInHanded_of_change (C := Try.checked) fnExactRenameColours_own started (by kernel_rfl) Try.func3
    (ChangeSpec.witness6 (enc := enc) (C := Try.checked) false ⟨#[], #[.agg #[.int .i64 0, .slice none 0 0], .int .i64 0, .slice none 0 0, .slice none 0 0], []⟩ 8 (by kernel_rfl) (by kernel_rfl) (by kernel_rfl) (by kernel_rfl)) ?_
  intro W base args ds gs before hval hW hcnd _
  exact law_contract (P := Try.prog) (τs := [24, 3, 25, 25]) (ts := [QILQII, I, LI, LI]) (tb := 4) (n := 8) progOk.tab fnExactRenameColours_laidOut laws_FnExactRenameColours_pc RenameColours_pureT Try.params3 rfl Try.underlying4 rfl (fun ds h => match ds, h with | [d0, d1, d2, d3], _ => rfl) (by kernel_rfl) (by kernel_rfl) base args ds gs before hval hW

theorem fnExactRenameColours_named : Try.pinned.checked.prog.funcNamed Rows.fnExactRenameColoursRow.func = some 3 := by kernel_rfl
theorem fnExactRenameColours_inst : Try.f3.isInstance Try.prog Rows.fnExactRenameColoursRow.origin Rows.fnExactRenameColoursRow.targs := of_decide_eq_true (by kernel_rfl)
theorem fnExactRenameColours_wrap : Try.f3.isWrapper Try.prog Rows.fnExactRenameColoursRow.wrapper Rows.fnExactRenameColoursRow.mainSum := by
  unfold Func.isWrapper; first | (rw [if_pos (by decide +kernel)]; kernel_rfl) | (rw [if_neg (by decide +kernel)]; exact ⟨rfl, rfl⟩)
theorem fnExactRenameColours_head : Try.prog.mayEnter = true ∧ Try.prog.liftsFinal = Rows.fnExactRenameColoursRow.lifted ∧ Try.prog.make = some Rows.fnExactRenameColoursRow.make := ⟨by kernel_rfl, by kernel_rfl, by kernel_rfl⟩
theorem fnExactRenameColours_joined : joinedFacts Try.prog 3 Try.f3 Rows.fnExactRenameColoursSpec Rows.fnExactRenameColoursRow = true := by
  unfold joinedFacts
  rw [fnExactRenameColours_head.1, fnExactRenameColours_head.2.1, fnExactRenameColours_head.2.2]
  kernel_rfl

/-- The given statement. -/
theorem RenameColours_holds : Rows.FnExactRenameColoursSaid :=
  OpenClaim.holds_of_wide 3 Try.f3 rfl rfl rfl rfl rfl rfl rfl ⟨rfl, rfl, rfl, rfl, rfl⟩ rfl rfl rfl rfl rfl fnExactRenameColours_named Try.func3 fnExactRenameColours_joined fnExactRenameColours_inst fnExactRenameColours_wrap
    (fun os started H enc _ => fnExactRenameColours_lifted os started H enc)
#print axioms RenameColours_holds
end Go.Proofs.Ytkffaahlpdlkoaa
