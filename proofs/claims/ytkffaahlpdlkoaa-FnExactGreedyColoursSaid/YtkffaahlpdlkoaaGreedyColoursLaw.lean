/- The program's GreedyColours returns what the reference's GreedyColours returns, and writes into none of what it was given: for all arguments, without any condition. -/
import Derived.Test.YtkffaahlpdlkoaaRows
import Derived.Test.YtkffaahlpdlkoaaGreedyColoursGb
set_option linter.all false
namespace Go.Proofs.Ytkffaahlpdlkoaa
open Go Go.PV Go.ChangeShapes Go.WideShapes Go.ChangeAt Go.RowKit
theorem fnExactGreedyColours_own : ownKnob Try.prog.godebug = none := by kernel_rfl
theorem fnExactGreedyColours_laidOut : laidOutB Try.prog = true := by kernel_rfl
set_option maxRecDepth 100000 in
theorem fnExactGreedyColours_lifted (os : Os) (started : os.Started) (H : Type) (enc : TypeId × Value → H) :
    ReturnsInHanded {} Try.checked os 4 .any (Rows.fnExactGreedyColoursSpec.pre6 enc Try.prog Try.f4 Rows.fnExactGreedyColoursRow.domain false) (Rows.fnExactGreedyColoursSpec.post enc Try.prog Try.f4 false true false false) := by
  refine returnsInHanded_of_change (C := Try.checked) fnExactGreedyColours_own started (by kernel_rfl) Try.func4
    (ChangeSpec.witness6 (enc := enc) (C := Try.checked) false ⟨#[], #[.agg #[.int .i64 0, .slice none 0 0], .slice none 0 0], []⟩ 8 (by kernel_rfl) (by kernel_rfl) (by kernel_rfl) (by kernel_rfl)) ?_
  intro W base args ds gs before hval hW hcnd _
  exact law_contract (P := Try.prog) (τs := [24, 25]) (ts := [QILQII, LI]) (tb := 4) (n := 8) progOk.tab fnExactGreedyColours_laidOut laws_FnExactGreedyColours_pc GreedyColours_pureT Try.params4 rfl Try.underlying4 rfl (fun ds h => match ds, h with | [d0, d1], _ => rfl) (by kernel_rfl) (by kernel_rfl) base args ds gs before hval hW

theorem fnExactGreedyColours_named : Try.pinned.checked.prog.funcNamed Rows.fnExactGreedyColoursRow.func = some 4 := by kernel_rfl
theorem fnExactGreedyColours_inst : Try.f4.isInstance Try.prog Rows.fnExactGreedyColoursRow.origin Rows.fnExactGreedyColoursRow.targs := of_decide_eq_true (by kernel_rfl)
theorem fnExactGreedyColours_wrap : Try.f4.isWrapper Try.prog Rows.fnExactGreedyColoursRow.wrapper Rows.fnExactGreedyColoursRow.mainSum := by
  unfold Func.isWrapper; first | (rw [if_pos (by decide +kernel)]; kernel_rfl) | (rw [if_neg (by decide +kernel)]; exact ⟨rfl, rfl⟩)
theorem fnExactGreedyColours_head : Try.prog.mayEnter = true ∧ Try.prog.liftsFinal = Rows.fnExactGreedyColoursRow.lifted ∧ Try.prog.make = some Rows.fnExactGreedyColoursRow.make := ⟨by kernel_rfl, by kernel_rfl, by kernel_rfl⟩
theorem fnExactGreedyColours_joined : joinedFacts Try.prog 4 Try.f4 Rows.fnExactGreedyColoursSpec Rows.fnExactGreedyColoursRow = true := by
  unfold joinedFacts
  rw [fnExactGreedyColours_head.1, fnExactGreedyColours_head.2.1, fnExactGreedyColours_head.2.2]
  kernel_rfl

/-- The given statement. -/
theorem GreedyColours_holds : Rows.FnExactGreedyColoursSaid :=
  OpenClaim.holds_of_wide 4 Try.f4 rfl rfl rfl rfl rfl rfl rfl ⟨rfl, rfl, rfl, rfl, rfl⟩ rfl rfl rfl rfl rfl fnExactGreedyColours_named Try.func4 fnExactGreedyColours_joined fnExactGreedyColours_inst fnExactGreedyColours_wrap
    (fun os started H enc _ => fnExactGreedyColours_lifted os started H enc)
#print axioms GreedyColours_holds
end Go.Proofs.Ytkffaahlpdlkoaa
