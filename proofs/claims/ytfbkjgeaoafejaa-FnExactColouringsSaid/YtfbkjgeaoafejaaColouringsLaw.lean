/- The program's Colourings returns what the reference's Colourings returns, and writes into none of what it was given: for all arguments, without any condition. -/
import Derived.Test.YtfbkjgeaoafejaaRows
import Derived.Test.YtfbkjgeaoafejaaColouringsGb
set_option linter.all false
namespace Go.Proofs.Ytfbkjgeaoafejaa
open Go Go.PV Go.ChangeShapes Go.WideShapes Go.ChangeAt Go.RowKit
theorem fnExactColourings_own : ownKnob Try.prog.godebug = none := by kernel_rfl
theorem fnExactColourings_laidOut : laidOutB Try.prog = true := by kernel_rfl
set_option maxRecDepth 100000 in
theorem fnExactColourings_lifted (os : Os) (started : os.Started) (H : Type) (enc : TypeId × Value → H) :
    ReturnsInHanded {} Try.checked os 3 .any (Rows.fnExactColouringsSpec.pre6 enc Try.prog Try.f3 Rows.fnExactColouringsRow.domain false) (Rows.fnExactColouringsSpec.post enc Try.prog Try.f3 false true false false) := by
  refine returnsInHanded_of_change (C := Try.checked) fnExactColourings_own started (by kernel_rfl) Try.func3
    (ChangeSpec.witness6 (enc := enc) (C := Try.checked) false ⟨#[], #[.agg #[.int .i64 0, .slice none 0 0], .int .i64 0], []⟩ 8 (by kernel_rfl) (by kernel_rfl) (by kernel_rfl) (by kernel_rfl)) ?_
  intro W base args ds gs before hval hW hcnd _
  exact law_contract (P := Try.prog) (τs := [24, 3]) (ts := [QILQII, I]) (tb := 4) (n := 8) progOk.tab fnExactColourings_laidOut laws_FnExactColourings_pc Colourings_pureT Try.params3 rfl Try.underlying4 rfl (fun ds h => match ds, h with | [d0, d1], _ => rfl) (by kernel_rfl) (by kernel_rfl) base args ds gs before hval hW

theorem fnExactColourings_named : Try.pinned.checked.prog.funcNamed Rows.fnExactColouringsRow.func = some 3 := by kernel_rfl
theorem fnExactColourings_inst : Try.f3.isInstance Try.prog Rows.fnExactColouringsRow.origin Rows.fnExactColouringsRow.targs := of_decide_eq_true (by kernel_rfl)
theorem fnExactColourings_wrap : Try.f3.isWrapper Try.prog Rows.fnExactColouringsRow.wrapper Rows.fnExactColouringsRow.mainSum := by
  unfold Func.isWrapper; first | (rw [if_pos (by decide +kernel)]; kernel_rfl) | (rw [if_neg (by decide +kernel)]; exact ⟨rfl, rfl⟩)
theorem fnExactColourings_head : Try.prog.mayEnter = true ∧ Try.prog.liftsFinal = Rows.fnExactColouringsRow.lifted ∧ Try.prog.make = some Rows.fnExactColouringsRow.make := ⟨by kernel_rfl, by kernel_rfl, by kernel_rfl⟩
theorem fnExactColourings_joined : joinedFacts Try.prog 3 Try.f3 Rows.fnExactColouringsSpec Rows.fnExactColouringsRow = true := by
  unfold joinedFacts
  rw [fnExactColourings_head.1, fnExactColourings_head.2.1, fnExactColourings_head.2.2]
  kernel_rfl

/-- The given statement. -/
theorem Colourings_holds : Rows.FnExactColouringsSaid :=
  OpenClaim.holds_of_wide 3 Try.f3 rfl rfl rfl rfl rfl rfl rfl ⟨rfl, rfl, rfl, rfl, rfl⟩ rfl rfl rfl rfl rfl fnExactColourings_named Try.func3 fnExactColourings_joined fnExactColourings_inst fnExactColourings_wrap
    (fun os started H enc _ => fnExactColourings_lifted os started H enc)
#print axioms Colourings_holds
end Go.Proofs.Ytfbkjgeaoafejaa
