/- The law FnRecolouring says yes to every code of bytes, without any condition: walks of changes are at least as long as their ends differ, renaming colours keeps their length, and fixed nodes are as they were behind each. (P5) -/
import Derived.Test.YtkffaahlpdlkoaaGreatRows
import Derived.Test.YtkffaahlpdlkoaaGreatRecolouringGg
set_option linter.all false
namespace Go.Proofs.YtkffaahlpdlkoaaGreat
open Go Go.PV Go.ChangeShapes Go.WideShapes Go.ChangeAt Go.RowKit
theorem fnRecolouring_own : ownKnob Tryz.prog.godebug = none := by kernel_rfl
theorem fnRecolouring_laidOut : laidOutB Tryz.prog = true := by kernel_rfl
set_option maxRecDepth 100000 in
theorem fnRecolouring_lifted (os : Os) (started : os.Started) (H : Type) (enc : TypeId × Value → H) :
    ReturnsInHanded {} Tryz.checked os 5 .any (Rows.fnRecolouringSpec.pre6 enc Tryz.prog Tryz.f5 Rows.fnRecolouringRow.domain false) (Rows.fnRecolouringSpec.post enc Tryz.prog Tryz.f5 false true false false) := by
  refine returnsInHanded_of_change (C := Tryz.checked) fnRecolouring_own started (by kernel_rfl) Tryz.func5
    (ChangeSpec.witness6 (enc := enc) (C := Tryz.checked) false ⟨#[], #[.slice none 0 0], []⟩ 8 (by kernel_rfl) (by kernel_rfl) (by kernel_rfl) (by kernel_rfl)) ?_
  intro W base args ds gs before hval hW hcnd _
  exact law_contract (P := Tryz.prog) (τs := [22]) (ts := [LU8]) (tb := 4) (n := 8) progOk.tab fnRecolouring_laidOut Zq46_pc Recolouring_pureT Tryz.params5 rfl Tryz.underlying4 rfl (fun ds h => match ds, h with | [d0], _ => rfl) (by kernel_rfl) (by kernel_rfl) base args ds gs before hval hW

theorem fnRecolouring_named : Tryz.pinned.checked.prog.funcNamed Rows.fnRecolouringRow.func = some 5 := by kernel_rfl
theorem fnRecolouring_inst : Tryz.f5.isInstance Tryz.prog Rows.fnRecolouringRow.origin Rows.fnRecolouringRow.targs := of_decide_eq_true (by kernel_rfl)
theorem fnRecolouring_wrap : Tryz.f5.isWrapper Tryz.prog Rows.fnRecolouringRow.wrapper Rows.fnRecolouringRow.mainSum := by
  unfold Func.isWrapper; first | (rw [if_pos (by decide +kernel)]; kernel_rfl) | (rw [if_neg (by decide +kernel)]; exact ⟨rfl, rfl⟩)
theorem fnRecolouring_head : Tryz.prog.mayEnter = true ∧ Tryz.prog.liftsFinal = Rows.fnRecolouringRow.lifted ∧ Tryz.prog.make = some Rows.fnRecolouringRow.make := ⟨by kernel_rfl, by kernel_rfl, by kernel_rfl⟩
theorem fnRecolouring_joined : joinedFacts Tryz.prog 5 Tryz.f5 Rows.fnRecolouringSpec Rows.fnRecolouringRow = true := by
  unfold joinedFacts
  rw [fnRecolouring_head.1, fnRecolouring_head.2.1, fnRecolouring_head.2.2]
  kernel_rfl

theorem Recolouring_holds : Rows.FnRecolouringSaid :=
  OpenClaim.holds_of_wide 5 Tryz.f5 rfl rfl rfl rfl rfl rfl rfl ⟨rfl, rfl, rfl, rfl, rfl⟩ rfl rfl rfl rfl rfl fnRecolouring_named Tryz.func5 fnRecolouring_joined fnRecolouring_inst fnRecolouring_wrap
    (fun os started H enc _ => fnRecolouring_lifted os started H enc)
#print axioms Recolouring_holds
end Go.Proofs.YtkffaahlpdlkoaaGreat
