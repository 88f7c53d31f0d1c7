/- The program's ThresholdOf returns what the reference's ThresholdOf returns, and writes into none of what it was given: for all arguments, without any condition. -/
import Derived.Test.YtbnjcjpnpidhmaaGreatRows
import Derived.Test.YtbnjcjpnpidhmaaGreatThresholdOfGd
set_option linter.all false
namespace Go.Proofs.YtbnjcjpnpidhmaaGreat
open Go Go.PV Go.ChangeShapes Go.WideShapes Go.ChangeAt Go.RowKit
theorem fnExactThresholdOf_own : ownKnob Tryz.prog.godebug = none := by kernel_rfl
theorem fnExactThresholdOf_laidOut : laidOutB Tryz.prog = true := by kernel_rfl
set_option maxRecDepth 100000 in
theorem fnExactThresholdOf_lifted (os : Os) (started : os.Started) (H : Type) (enc : TypeId × Value → H) :
    ReturnsInHanded {} Tryz.checked os 3 .any (Rows.fnExactThresholdOfSpec.pre6 enc Tryz.prog Tryz.f3 Rows.fnExactThresholdOfRow.domain false) (Rows.fnExactThresholdOfSpec.post enc Tryz.prog Tryz.f3 false true false false) := by
  refine returnsInHanded_of_change (C := Tryz.checked) fnExactThresholdOf_own started (by kernel_rfl) Tryz.func3
    (ChangeSpec.witness6 (enc := enc) (C := Tryz.checked) false ⟨#[], #[.agg #[.int .i64 0, .slice none 0 0], .int .i64 0, .slice none 0 0, .slice none 0 0], []⟩ 8 (by kernel_rfl) (by kernel_rfl) (by kernel_rfl) (by kernel_rfl)) ?_
  intro W base args ds gs before hval hW hcnd _
  exact law_contract (P := Tryz.prog) (τs := [24, 3, 25, 25]) (ts := [QILQII, I, LI, LI]) (tb := 4) (n := 8) progOk.tab fnExactThresholdOf_laidOut laws_FnExactThresholdOf_pc ThresholdOf_pureT Tryz.params3 rfl Tryz.underlying4 rfl (fun ds h => match ds, h with | [d0, d1, d2, d3], _ => rfl) (by kernel_rfl) (by kernel_rfl) base args ds gs before hval hW

theorem fnExactThresholdOf_named : Tryz.pinned.checked.prog.funcNamed Rows.fnExactThresholdOfRow.func = some 3 := by kernel_rfl
theorem fnExactThresholdOf_inst : Tryz.f3.isInstance Tryz.prog Rows.fnExactThresholdOfRow.origin Rows.fnExactThresholdOfRow.targs := of_decide_eq_true (by kernel_rfl)
theorem fnExactThresholdOf_wrap : Tryz.f3.isWrapper Tryz.prog Rows.fnExactThresholdOfRow.wrapper Rows.fnExactThresholdOfRow.mainSum := by
  unfold Func.isWrapper; first | (rw [if_pos (by decide +kernel)]; kernel_rfl) | (rw [if_neg (by decide +kernel)]; exact ⟨rfl, rfl⟩)
theorem fnExactThresholdOf_head : Tryz.prog.mayEnter = true ∧ Tryz.prog.liftsFinal = Rows.fnExactThresholdOfRow.lifted ∧ Tryz.prog.make = some Rows.fnExactThresholdOfRow.make := ⟨by kernel_rfl, by kernel_rfl, by kernel_rfl⟩
theorem fnExactThresholdOf_joined : joinedFacts Tryz.prog 3 Tryz.f3 Rows.fnExactThresholdOfSpec Rows.fnExactThresholdOfRow = true := by
  unfold joinedFacts
  rw [fnExactThresholdOf_head.1, fnExactThresholdOf_head.2.1, fnExactThresholdOf_head.2.2]
  kernel_rfl

/-- The given statement. -/
theorem ThresholdOf_holds : Rows.FnExactThresholdOfSaid :=
  OpenClaim.holds_of_wide 3 Tryz.f3 rfl rfl rfl rfl rfl rfl rfl ⟨rfl, rfl, rfl, rfl, rfl⟩ rfl rfl rfl rfl rfl fnExactThresholdOf_named Tryz.func3 fnExactThresholdOf_joined fnExactThresholdOf_inst fnExactThresholdOf_wrap
    (fun os started H enc _ => fnExactThresholdOf_lifted os started H enc)
#print axioms ThresholdOf_holds
end Go.Proofs.YtbnjcjpnpidhmaaGreat
