/- The law FnWindings says yes to every code of bytes, without any condition: colourings with 3 colours between which there is a walk of changes have the same winding for each round trip. (P5) -/
import Derived.Test.YtkffaahlpdlkoaaGreatRows
import Derived.Test.YtkffaahlpdlkoaaGreatWindingsGd
set_option linter.all false
namespace Go.Proofs.YtkffaahlpdlkoaaGreat
open Go Go.PV Go.ChangeShapes Go.WideShapes Go.ChangeAt Go.RowKit
theorem fnWindings_own : ownKnob Tryz.prog.godebug = none := by kernel_rfl
theorem fnWindings_laidOut : laidOutB Tryz.prog = true := by kernel_rfl
set_option maxRecDepth 100000 in
theorem fnWindings_lifted (os : Os) (started : os.Started) (H : Type) (enc : TypeId × Value → H) :
    ReturnsInHanded {} Tryz.checked os 3 .any (Rows.fnWindingsSpec.pre6 enc Tryz.prog Tryz.f3 Rows.fnWindingsRow.domain false) (Rows.fnWindingsSpec.post enc Tryz.prog Tryz.f3 false true false false) := by
  refine returnsInHanded_of_change (C := Tryz.checked) fnWindings_own started (by kernel_rfl) Tryz.func3
    (ChangeSpec.witness6 (enc := enc) (C := Tryz.checked) false ⟨#[], #[.slice none 0 0], []⟩ 8 (by kernel_rfl) (by kernel_rfl) (by kernel_rfl) (by kernel_rfl)) ?_
  intro W base args ds gs before hval hW hcnd _
  exact law_contract (P := Tryz.prog) (τs := [22]) (ts := [LU8]) (tb := 4) (n := 8) progOk.tab fnWindings_laidOut laws_FnWindings_pc Windings_pureT Tryz.params3 rfl Tryz.underlying4 rfl (fun ds h => match ds, h with | [d0], _ => rfl) (by kernel_rfl) (by kernel_rfl) base args ds gs before hval hW

theorem fnWindings_named : Tryz.pinned.checked.prog.funcNamed Rows.fnWindingsRow.func = some 3 := by kernel_rfl
theorem fnWindings_inst : Tryz.f3.isInstance Tryz.prog Rows.fnWindingsRow.origin Rows.fnWindingsRow.targs := of_decide_eq_true (by kernel_rfl)
theorem fnWindings_wrap : Tryz.f3.isWrapper Tryz.prog Rows.fnWindingsRow.wrapper Rows.fnWindingsRow.mainSum := by
  unfold Func.isWrapper; first | (rw [if_pos (by decide +kernel)]; kernel_rfl) | (rw [if_neg (by decide +kernel)]; exact ⟨rfl, rfl⟩)
theorem fnWindings_head : Tryz.prog.mayEnter = true ∧ Tryz.prog.liftsFinal = Rows.fnWindingsRow.lifted ∧ Tryz.prog.make = some Rows.fnWindingsRow.make := ⟨by kernel_rfl, by kernel_rfl, by kernel_rfl⟩
theorem fnWindings_joined : joinedFacts Tryz.prog 3 Tryz.f3 Rows.fnWindingsSpec Rows.fnWindingsRow = true := by
  unfold joinedFacts
  rw [fnWindings_head.1, fnWindings_head.2.1, fnWindings_head.2.2]
  kernel_rfl

/-- The given statement. -/
theorem Windings_holds : Rows.FnWindingsSaid :=
  OpenClaim.holds_of_wide 3 Tryz.f3 rfl rfl rfl rfl rfl rfl rfl ⟨rfl, rfl, rfl, rfl, rfl⟩ rfl rfl rfl rfl rfl fnWindings_named Tryz.func3 fnWindings_joined fnWindings_inst fnWindings_wrap
    (fun os started H enc _ => fnWindings_lifted os started H enc)
#print axioms Windings_holds
end Go.Proofs.YtkffaahlpdlkoaaGreat
