/- The law FnThresholds says yes to every code of bytes, without any condition: There is a way between two sets at their threshold and at no better one, the way keeps to it, and the space of the wide number has one part. (P4) -/
import Derived.Test.YtffeokcchabclaaGreatRows
import Derived.Test.YtffeokcchabclaaGreatThresholdsGf
set_option linter.all false
namespace Go.Proofs.YtffeokcchabclaaGreat
open Go Go.PV Go.ChangeShapes Go.WideShapes Go.ChangeAt Go.RowKit
theorem fnThresholds_own : ownKnob Tryz.prog.godebug = none := by kernel_rfl
theorem fnThresholds_laidOut : laidOutB Tryz.prog = true := by kernel_rfl
set_option maxRecDepth 100000 in
theorem fnThresholds_lifted (os : Os) (started : os.Started) (H : Type) (enc : TypeId × Value → H) :
    ReturnsInHanded {} Tryz.checked os 5 .any (Rows.fnThresholdsSpec.pre6 enc Tryz.prog Tryz.f5 Rows.fnThresholdsRow.domain false) (Rows.fnThresholdsSpec.post enc Tryz.prog Tryz.f5 false true false false) := by
  refine returnsInHanded_of_change (C := Tryz.checked) fnThresholds_own started (by kernel_rfl) Tryz.func5
    (ChangeSpec.witness6 (enc := enc) (C := Tryz.checked) false ⟨#[], #[.slice none 0 0], []⟩ 8 (by kernel_rfl) (by kernel_rfl) (by kernel_rfl) (by kernel_rfl)) ?_
  intro W base args ds gs before hval hW hcnd _
  exact law_contract (P := Tryz.prog) (τs := [22]) (ts := [LU8]) (tb := 4) (n := 8) progOk.tab fnThresholds_laidOut Zq55_pc Thresholds_pureT Tryz.params5 rfl Tryz.underlying4 rfl (fun ds h => match ds, h with | [d0], _ => rfl) (by kernel_rfl) (by kernel_rfl) base args ds gs before hval hW

theorem fnThresholds_named : Tryz.pinned.checked.prog.funcNamed Rows.fnThresholdsRow.func = some 5 := by kernel_rfl
theorem fnThresholds_inst : Tryz.f5.isInstance Tryz.prog Rows.fnThresholdsRow.origin Rows.fnThresholdsRow.targs := of_decide_eq_true (by kernel_rfl)
theorem fnThresholds_wrap : Tryz.f5.isWrapper Tryz.prog Rows.fnThresholdsRow.wrapper Rows.fnThresholdsRow.mainSum := by
  unfold Func.isWrapper; first | (rw [if_pos (by decide +kernel)]; kernel_rfl) | (rw [if_neg (by decide +kernel)]; exact ⟨rfl, rfl⟩)
theorem fnThresholds_head : Tryz.prog.mayEnter = true ∧ Tryz.prog.liftsFinal = Rows.fnThresholdsRow.lifted ∧ Tryz.prog.make = some Rows.fnThresholdsRow.make := ⟨by kernel_rfl, by kernel_rfl, by kernel_rfl⟩
theorem fnThresholds_joined : joinedFacts Tryz.prog 5 Tryz.f5 Rows.fnThresholdsSpec Rows.fnThresholdsRow = true := by
  unfold joinedFacts
  rw [fnThresholds_head.1, fnThresholds_head.2.1, fnThresholds_head.2.2]
  kernel_rfl

theorem Thresholds_holds : Rows.FnThresholdsSaid :=
  OpenClaim.holds_of_wide 5 Tryz.f5 rfl rfl rfl rfl rfl rfl rfl ⟨rfl, rfl, rfl, rfl, rfl⟩ rfl rfl rfl rfl rfl fnThresholds_named Tryz.func5 fnThresholds_joined fnThresholds_inst fnThresholds_wrap
    (fun os started H enc _ => fnThresholds_lifted os started H enc)
#print axioms Thresholds_holds
end Go.Proofs.YtffeokcchabclaaGreat
