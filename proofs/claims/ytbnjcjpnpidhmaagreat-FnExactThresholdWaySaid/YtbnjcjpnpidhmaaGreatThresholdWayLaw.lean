/- The program's ThresholdWay returns what the reference's ThresholdWay returns, and writes into none of what it was given: for all arguments, without any condition. -/
import Derived.Test.YtbnjcjpnpidhmaaGreatRows
import Derived.Test.YtbnjcjpnpidhmaaGreatThresholdWayGe
set_option linter.all false
namespace Go.Proofs.YtbnjcjpnpidhmaaGreat
open Go Go.PV Go.ChangeShapes Go.WideShapes Go.ChangeAt Go.RowKit
theorem fnExactThresholdWay_own : ownKnob Tryz.prog.godebug = none := by kernel_rfl
theorem fnExactThresholdWay_laidOut : laidOutB Tryz.prog = true := by kernel_rfl
set_option maxRecDepth 100000 in
theorem fnExactThresholdWay_lifted (os : Os) (started : os.Started) (H : Type) (enc : TypeId × Value → H) :
    ReturnsInHanded {} Tryz.checked os 4 .any (Rows.fnExactThresholdWaySpec.pre6 enc Tryz.prog Tryz.f4 Rows.fnExactThresholdWayRow.domain false) (Rows.fnExactThresholdWaySpec.post enc Tryz.prog Tryz.f4 false true false false) := by
  refine returnsInHanded_of_change (C := Tryz.checked) fnExactThresholdWay_own started (by kernel_rfl) Tryz.func4
    (ChangeSpec.witness6 (enc := enc) (C := Tryz.checked) false ⟨#[], #[.agg #[.int .i64 0, .slice none 0 0], .int .i64 0, .slice none 0 0, .slice none 0 0], []⟩ 8 (by kernel_rfl) (by kernel_rfl) (by kernel_rfl) (by kernel_rfl)) ?_
  intro W base args ds gs before hval hW hcnd _
  exact law_contract (P := Tryz.prog) (τs := [24, 3, 25, 25]) (ts := [QILQII, I, LI, LI]) (tb := 4) (n := 8) progOk.tab fnExactThresholdWay_laidOut laws_FnExactThresholdWay_pc ThresholdWay_pureT Tryz.params4 rfl Tryz.underlying4 rfl (fun ds h => match ds, h with | [d0, d1, d2, d3], _ => rfl) (by kernel_rfl) (by kernel_rfl) base args ds gs before hval hW

theorem fnExactThresholdWay_named : Tryz.pinned.checked.prog.funcNamed Rows.fnExactThresholdWayRow.func = some 4 := by kernel_rfl
theorem fnExactThresholdWay_inst : Tryz.f4.isInstance Tryz.prog Rows.fnExactThresholdWayRow.origin Rows.fnExactThresholdWayRow.targs := of_decide_eq_true (by kernel_rfl)
theorem fnExactThresholdWay_wrap : Tryz.f4.isWrapper Tryz.prog Rows.fnExactThresholdWayRow.wrapper Rows.fnExactThresholdWayRow.mainSum := by
  unfold Func.isWrapper; first | (rw [if_pos (by decide +kernel)]; kernel_rfl) | (rw [if_neg (by decide +kernel)]; exact ⟨rfl, rfl⟩)
theorem fnExactThresholdWay_head : Tryz.prog.mayEnter = true ∧ Tryz.prog.liftsFinal = Rows.fnExactThresholdWayRow.lifted ∧ Tryz.prog.make = some Rows.fnExactThresholdWayRow.make := ⟨by kernel_rfl, by kernel_rfl, by kernel_rfl⟩
theorem fnExactThresholdWay_joined : joinedFacts Tryz.prog 4 Tryz.f4 Rows.fnExactThresholdWaySpec Rows.fnExactThresholdWayRow = true := by
  unfold joinedFacts
  rw [fnExactThresholdWay_head.1, fnExactThresholdWay_head.2.1, fnExactThresholdWay_head.2.2]
  kernel_rfl

/-- The given statement. -/
theorem ThresholdWay_holds : Rows.FnExactThresholdWaySaid :=
  OpenClaim.holds_of_wide 4 Tryz.f4 rfl rfl rfl rfl rfl rfl rfl ⟨rfl, rfl, rfl, rfl, rfl⟩ rfl rfl rfl rfl rfl fnExactThresholdWay_named Tryz.func4 fnExactThresholdWay_joined fnExactThresholdWay_inst fnExactThresholdWay_wrap
    (fun os started H enc _ => fnExactThresholdWay_lifted os started H enc)
#print axioms ThresholdWay_holds
end Go.Proofs.YtbnjcjpnpidhmaaGreat
