/- The program's ColourSpace returns what the reference's ColourSpace returns, and writes into none of what it was given: for all arguments, without any condition. -/
import Derived.Test.YtfbkjgeaoafejaaRows
import Derived.Test.YtfbkjgeaoafejaaColourSpaceGb
set_option linter.all false
namespace Go.Proofs.Ytfbkjgeaoafejaa
open Go Go.PV Go.ChangeShapes Go.WideShapes Go.ChangeAt Go.RowKit
theorem fnExactColourSpace_own : ownKnob Try.prog.godebug = none := by kernel_rfl
theorem fnExactColourSpace_laidOut : laidOutB Try.prog = true := by kernel_rfl
set_option maxRecDepth 100000 in
theorem fnExactColourSpace_lifted (os : Os) (started : os.Started) (H : Type) (enc : TypeId × Value → H) :
    ReturnsInHanded {} Try.checked os 12 .any (Rows.fnExactColourSpaceSpec.pre6 enc Try.prog Try.f12 Rows.fnExactColourSpaceRow.domain false) (Rows.fnExactColourSpaceSpec.post enc Try.prog Try.f12 false true false false) := by
  refine returnsInHanded_of_change (C := Try.checked) fnExactColourSpace_own started (by kernel_rfl) Try.func12
    (ChangeSpec.witness6 (enc := enc) (C := Try.checked) false ⟨#[], #[.agg #[.int .i64 0, .slice none 0 0], .int .i64 0], []⟩ 8 (by kernel_rfl) (by kernel_rfl) (by kernel_rfl) (by kernel_rfl)) ?_
  intro W base args ds gs before hval hW hcnd _
  exact law_contract (P := Try.prog) (τs := [24, 3]) (ts := [QILQII, I]) (tb := 4) (n := 8) progOk.tab fnExactColourSpace_laidOut laws_FnExactColourSpace_pc ColourSpace_pureT Try.params12 rfl Try.underlying4 rfl (fun ds h => match ds, h with | [d0, d1], _ => rfl) (by kernel_rfl) (by kernel_rfl) base args ds gs before hval hW

theorem fnExactColourSpace_named : Try.pinned.checked.prog.funcNamed Rows.fnExactColourSpaceRow.func = some 12 := by kernel_rfl
theorem fnExactColourSpace_inst : Try.f12.isInstance Try.prog Rows.fnExactColourSpaceRow.origin Rows.fnExactColourSpaceRow.targs := of_decide_eq_true (by kernel_rfl)
theorem fnExactColourSpace_wrap : Try.f12.isWrapper Try.prog Rows.fnExactColourSpaceRow.wrapper Rows.fnExactColourSpaceRow.mainSum := by
  unfold Func.isWrapper; first | (rw [if_pos (by decide +kernel)]; kernel_rfl) | (rw [if_neg (by decide +kernel)]; exact ⟨rfl, rfl⟩)
theorem fnExactColourSpace_head : Try.prog.mayEnter = true ∧ Try.prog.liftsFinal = Rows.fnExactColourSpaceRow.lifted ∧ Try.prog.make = some Rows.fnExactColourSpaceRow.make := ⟨by kernel_rfl, by kernel_rfl, by kernel_rfl⟩
theorem fnExactColourSpace_joined : joinedFacts Try.prog 12 Try.f12 Rows.fnExactColourSpaceSpec Rows.fnExactColourSpaceRow = true := by
  unfold joinedFacts
  rw [fnExactColourSpace_head.1, fnExactColourSpace_head.2.1, fnExactColourSpace_head.2.2]
  kernel_rfl

/-- The given statement. -/
theorem ColourSpace_holds : Rows.FnExactColourSpaceSaid :=
  OpenClaim.holds_of_wide 12 Try.f12 rfl rfl rfl rfl rfl rfl rfl ⟨rfl, rfl, rfl, rfl, rfl⟩ rfl rfl rfl rfl rfl fnExactColourSpace_named Try.func12 fnExactColourSpace_joined fnExactColourSpace_inst fnExactColourSpace_wrap
    (fun os started H enc _ => fnExactColourSpace_lifted os started H enc)
#print axioms ColourSpace_holds
end Go.Proofs.Ytfbkjgeaoafejaa
