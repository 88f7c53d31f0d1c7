/- The law FnKinds says yes to every code of bytes, without any condition: Tight sets lose or gain no node, the best set is tight, and cliques are what the covers of the other Graph leave out. (P4) -/
import Derived.Test.YtffeokcchabclaaGreatRows
import Derived.Test.YtffeokcchabclaaGreatKindsGd
set_option linter.all false
namespace Go.Proofs.YtffeokcchabclaaGreat
open Go Go.PV Go.ChangeShapes Go.WideShapes Go.ChangeAt Go.RowKit
theorem fnKinds_own : ownKnob Tryz.prog.godebug = none := by kernel_rfl
theorem fnKinds_laidOut : laidOutB Tryz.prog = true := by kernel_rfl
set_option maxRecDepth 100000 in
theorem fnKinds_lifted (os : Os) (started : os.Started) (H : Type) (enc : TypeId × Value → H) :
    ReturnsInHanded {} Tryz.checked os 3 .any (Rows.fnKindsSpec.pre6 enc Tryz.prog Tryz.f3 Rows.fnKindsRow.domain false) (Rows.fnKindsSpec.post enc Tryz.prog Tryz.f3 false true false false) := by
  refine returnsInHanded_of_change (C := Tryz.checked) fnKinds_own started (by kernel_rfl) Tryz.func3
    (ChangeSpec.witness6 (enc := enc) (C := Tryz.checked) false ⟨#[], #[.slice none 0 0], []⟩ 8 (by kernel_rfl) (by kernel_rfl) (by kernel_rfl) (by kernel_rfl)) ?_
  intro W base args ds gs before hval hW hcnd _
  exact law_contract (P := Tryz.prog) (τs := [22]) (ts := [LU8]) (tb := 4) (n := 8) progOk.tab fnKinds_laidOut Zq37_pc Kinds_pureT Tryz.params3 rfl Tryz.underlying4 rfl (fun ds h => match ds, h with | [d0], _ => rfl) (by kernel_rfl) (by kernel_rfl) base args ds gs before hval hW

theorem fnKinds_named : Tryz.pinned.checked.prog.funcNamed Rows.fnKindsRow.func = some 3 := by kernel_rfl
theorem fnKinds_inst : Tryz.f3.isInstance Tryz.prog Rows.fnKindsRow.origin Rows.fnKindsRow.targs := of_decide_eq_true (by kernel_rfl)
theorem fnKinds_wrap : Tryz.f3.isWrapper Tryz.prog Rows.fnKindsRow.wrapper Rows.fnKindsRow.mainSum := by
  unfold Func.isWrapper; first | (rw [if_pos (by decide +kernel)]; kernel_rfl) | (rw [if_neg (by decide +kernel)]; exact ⟨rfl, rfl⟩)
theorem fnKinds_head : Tryz.prog.mayEnter = true ∧ Tryz.prog.liftsFinal = Rows.fnKindsRow.lifted ∧ Tryz.prog.make = some Rows.fnKindsRow.make := ⟨by kernel_rfl, by kernel_rfl, by kernel_rfl⟩
theorem fnKinds_joined : joinedFacts Tryz.prog 3 Tryz.f3 Rows.fnKindsSpec Rows.fnKindsRow = true := by
  unfold joinedFacts
  rw [fnKinds_head.1, fnKinds_head.2.1, fnKinds_head.2.2]
  kernel_rfl

theorem Kinds_holds : Rows.FnKindsSaid :=
  OpenClaim.holds_of_wide 3 Tryz.f3 rfl rfl rfl rfl rfl rfl rfl ⟨rfl, rfl, rfl, rfl, rfl⟩ rfl rfl rfl rfl rfl fnKinds_named Tryz.func3 fnKinds_joined fnKinds_inst fnKinds_wrap
    (fun os started H enc _ => fnKinds_lifted os started H enc)
#print axioms Kinds_holds
end Go.Proofs.YtffeokcchabclaaGreat
