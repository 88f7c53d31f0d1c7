/- The program's RecolourWalk returns what the reference's RecolourWalk returns, and writes into none of what it was given: for all arguments, without any condition. -/
import Derived.Test.YtgelipdkheahdaaGreatRows
import Derived.Test.YtgelipdkheahdaaGreatRecolourWalkGd
set_option linter.all false
namespace Go.Proofs.YtgelipdkheahdaaGreat
open Go Go.PV Go.ChangeShapes Go.WideShapes Go.ChangeAt Go.RowKit
theorem fnExactRecolourWalk_own : ownKnob Tryz.prog.godebug = none := by kernel_rfl
theorem fnExactRecolourWalk_laidOut : laidOutB Tryz.prog = true := by kernel_rfl
set_option maxRecDepth 100000 in
theorem fnExactRecolourWalk_lifted (os : Os) (started : os.Started) (H : Type) (enc : TypeId × Value → H) :
    ReturnsInHanded {} Tryz.checked os 6 .any (Rows.fnExactRecolourWalkSpec.pre6 enc Tryz.prog Tryz.f6 Rows.fnExactRecolourWalkRow.domain false) (Rows.fnExactRecolourWalkSpec.post enc Tryz.prog Tryz.f6 false true false false) := by
  refine returnsInHanded_of_change (C := Tryz.checked) fnExactRecolourWalk_own started (by kernel_rfl) Tryz.func6
    (ChangeSpec.witness6 (enc := enc) (C := Tryz.checked) false ⟨#[], #[.agg #[.int .i64 0, .slice none 0 0], .int .i64 0, .slice none 0 0, .slice none 0 0], []⟩ 8 (by kernel_rfl) (by kernel_rfl) (by kernel_rfl) (by kernel_rfl)) ?_
  intro W base args ds gs before hval hW hcnd _
  exact law_contract (P := Tryz.prog) (τs := [24, 3, 40, 40]) (ts := [QILQII, I, LI, LI]) (tb := 4) (n := 8) progOk.tab fnExactRecolourWalk_laidOut laws_FnExactRecolourWalk_pc RecolourWalk_pureT Tryz.params6 rfl Tryz.underlying4 rfl (fun ds h => match ds, h with | [d0, d1, d2, d3], _ => rfl) (by kernel_rfl) (by kernel_rfl) base args ds gs before hval hW

theorem fnExactRecolourWalk_named : Tryz.pinned.checked.prog.funcNamed Rows.fnExactRecolourWalkRow.func = some 6 := by kernel_rfl
theorem fnExactRecolourWalk_inst : Tryz.f6.isInstance Tryz.prog Rows.fnExactRecolourWalkRow.origin Rows.fnExactRecolourWalkRow.targs := of_decide_eq_true (by kernel_rfl)
theorem fnExactRecolourWalk_wrap : Tryz.f6.isWrapper Tryz.prog Rows.fnExactRecolourWalkRow.wrapper Rows.fnExactRecolourWalkRow.mainSum := by
  unfold Func.isWrapper; first | (rw [if_pos (by decide +kernel)]; kernel_rfl) | (rw [if_neg (by decide +kernel)]; exact ⟨rfl, rfl⟩)
theorem fnExactRecolourWalk_head : Tryz.prog.mayEnter = true ∧ Tryz.prog.liftsFinal = Rows.fnExactRecolourWalkRow.lifted ∧ Tryz.prog.make = some Rows.fnExactRecolourWalkRow.make := ⟨by kernel_rfl, by kernel_rfl, by kernel_rfl⟩
theorem fnExactRecolourWalk_joined : joinedFacts Tryz.prog 6 Tryz.f6 Rows.fnExactRecolourWalkSpec Rows.fnExactRecolourWalkRow = true := by
  unfold joinedFacts
  rw [fnExactRecolourWalk_head.1, fnExactRecolourWalk_head.2.1, fnExactRecolourWalk_head.2.2]
  kernel_rfl

/-- The given statement. -/
theorem RecolourWalk_holds : Rows.FnExactRecolourWalkSaid :=
  OpenClaim.holds_of_wide 6 Tryz.f6 rfl rfl rfl rfl rfl rfl rfl ⟨rfl, rfl, rfl, rfl, rfl⟩ rfl rfl rfl rfl rfl fnExactRecolourWalk_named Tryz.func6 fnExactRecolourWalk_joined fnExactRecolourWalk_inst fnExactRecolourWalk_wrap
    (fun os started H enc _ => fnExactRecolourWalk_lifted os started H enc)
#print axioms RecolourWalk_holds
end Go.Proofs.YtgelipdkheahdaaGreat
