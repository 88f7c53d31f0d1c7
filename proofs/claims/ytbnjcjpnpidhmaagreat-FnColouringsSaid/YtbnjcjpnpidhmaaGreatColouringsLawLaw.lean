/- A colouring with at least two colours more than the degeneracy can be changed to each other one. -/
import Derived.Test.YtbnjcjpnpidhmaaGreatRows
import Derived.Test.YtbnjcjpnpidhmaaGreatColouringsLawGe
set_option linter.all false
namespace Go.Proofs.YtbnjcjpnpidhmaaGreat
open Go Go.PV Go.ChangeShapes Go.WideShapes Go.ChangeAt Go.RowKit
theorem fnColourings_own : ownKnob Tryz.prog.godebug = none := by kernel_rfl
theorem fnColourings_laidOut : laidOutB Tryz.prog = true := by kernel_rfl
set_option maxRecDepth 100000 in
theorem fnColourings_lifted (os : Os) (started : os.Started) (H : Type) (enc : TypeId × Value → H) :
    ReturnsInHanded {} Tryz.checked os 8 .any (Rows.fnColouringsSpec.pre6 enc Tryz.prog Tryz.f8 Rows.fnColouringsRow.domain false) (Rows.fnColouringsSpec.post enc Tryz.prog Tryz.f8 false true false false) := by
  refine returnsInHanded_of_change (C := Tryz.checked) fnColourings_own started (by kernel_rfl) Tryz.func8
    (ChangeSpec.witness6 (enc := enc) (C := Tryz.checked) false ⟨#[], #[.slice none 0 0], []⟩ 8 (by kernel_rfl) (by kernel_rfl) (by kernel_rfl) (by kernel_rfl)) ?_
  intro W base args ds gs before hval hW hcnd _
  exact law_contract (P := Tryz.prog) (τs := [42]) (ts := [LU8]) (tb := 4) (n := 8) progOk.tab fnColourings_laidOut laws_FnColourings_pc ColouringsLaw_pureT Tryz.params8 rfl Tryz.underlying4 rfl (fun ds h => match ds, h with | [d0], _ => rfl) (by kernel_rfl) (by kernel_rfl) base args ds gs before hval hW

theorem fnColourings_named : Tryz.pinned.checked.prog.funcNamed Rows.fnColouringsRow.func = some 8 := by kernel_rfl
theorem fnColourings_inst : Tryz.f8.isInstance Tryz.prog Rows.fnColouringsRow.origin Rows.fnColouringsRow.targs := of_decide_eq_true (by kernel_rfl)
theorem fnColourings_wrap : Tryz.f8.isWrapper Tryz.prog Rows.fnColouringsRow.wrapper Rows.fnColouringsRow.mainSum := by
  unfold Func.isWrapper; first | (rw [if_pos (by decide +kernel)]; kernel_rfl) | (rw [if_neg (by decide +kernel)]; exact ⟨rfl, rfl⟩)
theorem fnColourings_head : Tryz.prog.mayEnter = true ∧ Tryz.prog.liftsFinal = Rows.fnColouringsRow.lifted ∧ Tryz.prog.make = some Rows.fnColouringsRow.make := ⟨by kernel_rfl, by kernel_rfl, by kernel_rfl⟩
theorem fnColourings_joined : joinedFacts Tryz.prog 8 Tryz.f8 Rows.fnColouringsSpec Rows.fnColouringsRow = true := by
  unfold joinedFacts
  rw [fnColourings_head.1, fnColourings_head.2.1, fnColourings_head.2.2]
  kernel_rfl

/-- The given statement. -/
theorem ColouringsLaw_holds : Rows.FnColouringsSaid :=
  OpenClaim.holds_of_wide 8 Tryz.f8 rfl rfl rfl rfl rfl rfl rfl ⟨rfl, rfl, rfl, rfl, rfl⟩ rfl rfl rfl rfl rfl fnColourings_named Tryz.func8 fnColourings_joined fnColourings_inst fnColourings_wrap
    (fun os started H enc _ => fnColourings_lifted os started H enc)
#print axioms ColouringsLaw_holds
end Go.Proofs.YtbnjcjpnpidhmaaGreat
