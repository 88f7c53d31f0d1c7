/- The law FnParities says yes to every code of bytes, without any condition: Solutions of a Parity have a way between them exactly if they differ in loose variables alone, of their Hamming distance, and are closed under sums. (P6) -/
import Derived.Test.YtfilchmabmfmaaaGreatRows
import Derived.Test.YtfilchmabmfmaaaGreatParitiesGe
set_option linter.all false
namespace Go.Proofs.YtfilchmabmfmaaaGreat
open Go Go.PV Go.ChangeShapes Go.WideShapes Go.ChangeAt Go.RowKit
theorem fnParities_own : ownKnob Tryz.prog.godebug = none := by kernel_rfl
theorem fnParities_laidOut : laidOutB Tryz.prog = true := by kernel_rfl
set_option maxRecDepth 100000 in
theorem fnParities_lifted (os : Os) (started : os.Started) (H : Type) (enc : TypeId × Value → H) :
    ReturnsInHanded {} Tryz.checked os 4 .any (Rows.fnParitiesSpec.pre6 enc Tryz.prog Tryz.f4 Rows.fnParitiesRow.domain false) (Rows.fnParitiesSpec.post enc Tryz.prog Tryz.f4 false true false false) := by
  refine returnsInHanded_of_change (C := Tryz.checked) fnParities_own started (by kernel_rfl) Tryz.func4
    (ChangeSpec.witness6 (enc := enc) (C := Tryz.checked) false ⟨#[], #[.slice none 0 0], []⟩ 8 (by kernel_rfl) (by kernel_rfl) (by kernel_rfl) (by kernel_rfl)) ?_
  intro W base args ds gs before hval hW hcnd _
  exact law_contract (P := Tryz.prog) (τs := [22]) (ts := [LU8]) (tb := 4) (n := 8) progOk.tab fnParities_laidOut Zq40_pc Parities_pureT Tryz.params4 rfl Tryz.underlying4 rfl (fun ds h => match ds, h with | [d0], _ => rfl) (by kernel_rfl) (by kernel_rfl) base args ds gs before hval hW

theorem fnParities_named : Tryz.pinned.checked.prog.funcNamed Rows.fnParitiesRow.func = some 4 := by kernel_rfl
theorem fnParities_inst : Tryz.f4.isInstance Tryz.prog Rows.fnParitiesRow.origin Rows.fnParitiesRow.targs := of_decide_eq_true (by kernel_rfl)
theorem fnParities_wrap : Tryz.f4.isWrapper Tryz.prog Rows.fnParitiesRow.wrapper Rows.fnParitiesRow.mainSum := by
  unfold Func.isWrapper; first | (rw [if_pos (by decide +kernel)]; kernel_rfl) | (rw [if_neg (by decide +kernel)]; exact ⟨rfl, rfl⟩)
theorem fnParities_head : Tryz.prog.mayEnter = true ∧ Tryz.prog.liftsFinal = Rows.fnParitiesRow.lifted ∧ Tryz.prog.make = some Rows.fnParitiesRow.make := ⟨by kernel_rfl, by kernel_rfl, by kernel_rfl⟩
theorem fnParities_joined : joinedFacts Tryz.prog 4 Tryz.f4 Rows.fnParitiesSpec Rows.fnParitiesRow = true := by
  unfold joinedFacts
  rw [fnParities_head.1, fnParities_head.2.1, fnParities_head.2.2]
  kernel_rfl

theorem Parities_holds : Rows.FnParitiesSaid :=
  OpenClaim.holds_of_wide 4 Tryz.f4 rfl rfl rfl rfl rfl rfl rfl ⟨rfl, rfl, rfl, rfl, rfl⟩ rfl rfl rfl rfl rfl fnParities_named Tryz.func4 fnParities_joined fnParities_inst fnParities_wrap
    (fun os started H enc _ => fnParities_lifted os started H enc)
#print axioms Parities_holds
end Go.Proofs.YtfilchmabmfmaaaGreat
