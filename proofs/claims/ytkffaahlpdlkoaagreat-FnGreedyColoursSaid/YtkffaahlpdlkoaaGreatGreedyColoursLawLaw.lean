/- The law FnGreedyColours says yes to every code of bytes, without any condition: greedy colours are a colouring, in the order of the peeling from its end on with at most one colour more than the degeneracy, and mixing colours are no fewer than are needed. (P5) -/
import Derived.Test.YtkffaahlpdlkoaaGreatRows
import Derived.Test.YtkffaahlpdlkoaaGreatGreedyColoursLawGe
set_option linter.all false
namespace Go.Proofs.YtkffaahlpdlkoaaGreat
open Go Go.PV Go.ChangeShapes Go.WideShapes Go.ChangeAt Go.RowKit
theorem fnGreedyColours_own : ownKnob Tryz.prog.godebug = none := by kernel_rfl
theorem fnGreedyColours_laidOut : laidOutB Tryz.prog = true := by kernel_rfl
set_option maxRecDepth 100000 in
theorem fnGreedyColours_lifted (os : Os) (started : os.Started) (H : Type) (enc : TypeId × Value → H) :
    ReturnsInHanded {} Tryz.checked os 4 .any (Rows.fnGreedyColoursSpec.pre6 enc Tryz.prog Tryz.f4 Rows.fnGreedyColoursRow.domain false) (Rows.fnGreedyColoursSpec.post enc Tryz.prog Tryz.f4 false true false false) := by
  refine returnsInHanded_of_change (C := Tryz.checked) fnGreedyColours_own started (by kernel_rfl) Tryz.func4
    (ChangeSpec.witness6 (enc := enc) (C := Tryz.checked) false ⟨#[], #[.slice none 0 0], []⟩ 8 (by kernel_rfl) (by kernel_rfl) (by kernel_rfl) (by kernel_rfl)) ?_
  intro W base args ds gs before hval hW hcnd _
  exact law_contract (P := Tryz.prog) (τs := [22]) (ts := [LU8]) (tb := 4) (n := 8) progOk.tab fnGreedyColours_laidOut Zq36_pc GreedyColoursLaw_pureT Tryz.params4 rfl Tryz.underlying4 rfl (fun ds h => match ds, h with | [d0], _ => rfl) (by kernel_rfl) (by kernel_rfl) base args ds gs before hval hW

theorem fnGreedyColours_named : Tryz.pinned.checked.prog.funcNamed Rows.fnGreedyColoursRow.func = some 4 := by kernel_rfl
theorem fnGreedyColours_inst : Tryz.f4.isInstance Tryz.prog Rows.fnGreedyColoursRow.origin Rows.fnGreedyColoursRow.targs := of_decide_eq_true (by kernel_rfl)
theorem fnGreedyColours_wrap : Tryz.f4.isWrapper Tryz.prog Rows.fnGreedyColoursRow.wrapper Rows.fnGreedyColoursRow.mainSum := by
  unfold Func.isWrapper; first | (rw [if_pos (by decide +kernel)]; kernel_rfl) | (rw [if_neg (by decide +kernel)]; exact ⟨rfl, rfl⟩)
theorem fnGreedyColours_head : Tryz.prog.mayEnter = true ∧ Tryz.prog.liftsFinal = Rows.fnGreedyColoursRow.lifted ∧ Tryz.prog.make = some Rows.fnGreedyColoursRow.make := ⟨by kernel_rfl, by kernel_rfl, by kernel_rfl⟩
theorem fnGreedyColours_joined : joinedFacts Tryz.prog 4 Tryz.f4 Rows.fnGreedyColoursSpec Rows.fnGreedyColoursRow = true := by
  unfold joinedFacts
  rw [fnGreedyColours_head.1, fnGreedyColours_head.2.1, fnGreedyColours_head.2.2]
  kernel_rfl

/-- The given statement. -/
theorem GreedyColoursLaw_holds : Rows.FnGreedyColoursSaid :=
  OpenClaim.holds_of_wide 4 Tryz.f4 rfl rfl rfl rfl rfl rfl rfl ⟨rfl, rfl, rfl, rfl, rfl⟩ rfl rfl rfl rfl rfl fnGreedyColours_named Tryz.func4 fnGreedyColours_joined fnGreedyColours_inst fnGreedyColours_wrap
    (fun os started H enc _ => fnGreedyColours_lifted os started H enc)
#print axioms GreedyColoursLaw_holds
end Go.Proofs.YtkffaahlpdlkoaaGreat
