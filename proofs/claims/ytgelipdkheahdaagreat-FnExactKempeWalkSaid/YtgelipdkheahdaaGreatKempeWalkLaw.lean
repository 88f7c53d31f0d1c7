/- The program's KempeWalk returns what the reference's KempeWalk returns, and writes into none of what it was given: for all arguments, without any condition. -/
import Derived.Test.YtgelipdkheahdaaGreatRows
import Derived.Test.YtgelipdkheahdaaGreatKempeWalkGe
set_option linter.all false
namespace Go.Proofs.YtgelipdkheahdaaGreat
open Go Go.PV Go.ChangeShapes Go.WideShapes Go.ChangeAt Go.RowKit
theorem fnExactKempeWalk_own : ownKnob Tryz.prog.godebug = none := by kernel_rfl
theorem fnExactKempeWalk_laidOut : laidOutB Tryz.prog = true := by kernel_rfl
set_option maxRecDepth 100000 in
theorem fnExactKempeWalk_lifted (os : Os) (started : os.Started) (H : Type) (enc : TypeId × Value → H) :
    ReturnsInHanded {} Tryz.checked os 7 .any (Rows.fnExactKempeWalkSpec.pre6 enc Tryz.prog Tryz.f7 Rows.fnExactKempeWalkRow.domain false) (Rows.fnExactKempeWalkSpec.post enc Tryz.prog Tryz.f7 false true false false) := by
  refine returnsInHanded_of_change (C := Tryz.checked) fnExactKempeWalk_own started (by kernel_rfl) Tryz.func7
    (ChangeSpec.witness6 (enc := enc) (C := Tryz.checked) false ⟨#[], #[.agg #[.int .i64 0, .slice none 0 0], .int .i64 0, .slice none 0 0, .slice none 0 0], []⟩ 8 (by kernel_rfl) (by kernel_rfl) (by kernel_rfl) (by kernel_rfl)) ?_
  intro W base args ds gs before hval hW hcnd _
  exact law_contract (P := Tryz.prog) (τs := [24, 3, 40, 40]) (ts := [QILQII, I, LI, LI]) (tb := 4) (n := 8) progOk.tab fnExactKempeWalk_laidOut laws_FnExactKempeWalk_pc KempeWalk_pureT Tryz.params7 rfl Tryz.underlying4 rfl (fun ds h => match ds, h with | [d0, d1, d2, d3], _ => rfl) (by kernel_rfl) (by kernel_rfl) base args ds gs before hval hW

theorem fnExactKempeWalk_named : Tryz.pinned.checked.prog.funcNamed Rows.fnExactKempeWalkRow.func = some 7 := by kernel_rfl
theorem fnExactKempeWalk_inst : Tryz.f7.isInstance Tryz.prog Rows.fnExactKempeWalkRow.origin Rows.fnExactKempeWalkRow.targs := of_decide_eq_true (by kernel_rfl)
theorem fnExactKempeWalk_wrap : Tryz.f7.isWrapper Tryz.prog Rows.fnExactKempeWalkRow.wrapper Rows.fnExactKempeWalkRow.mainSum := by
  unfold Func.isWrapper; first | (rw [if_pos (by decide +kernel)]; kernel_rfl) | (rw [if_neg (by decide +kernel)]; exact ⟨rfl, rfl⟩)
theorem fnExactKempeWalk_head : Tryz.prog.mayEnter = true ∧ Tryz.prog.liftsFinal = Rows.fnExactKempeWalkRow.lifted ∧ Tryz.prog.make = some Rows.fnExactKempeWalkRow.make := ⟨by kernel_rfl, by kernel_rfl, by kernel_rfl⟩
theorem fnExactKempeWalk_joined : joinedFacts Tryz.prog 7 Tryz.f7 Rows.fnExactKempeWalkSpec Rows.fnExactKempeWalkRow = true := by
  unfold joinedFacts
  rw [fnExactKempeWalk_head.1, fnExactKempeWalk_head.2.1, fnExactKempeWalk_head.2.2]
  kernel_rfl

/-- The given statement. -/
theorem KempeWalk_holds : Rows.FnExactKempeWalkSaid :=
  OpenClaim.holds_of_wide 7 Tryz.f7 rfl rfl rfl rfl rfl rfl rfl ⟨rfl, rfl, rfl, rfl, rfl⟩ rfl rfl rfl rfl rfl fnExactKempeWalk_named Tryz.func7 fnExactKempeWalk_joined fnExactKempeWalk_inst fnExactKempeWalk_wrap
    (fun os started H enc _ => fnExactKempeWalk_lifted os started H enc)
#print axioms KempeWalk_holds
end Go.Proofs.YtgelipdkheahdaaGreat
