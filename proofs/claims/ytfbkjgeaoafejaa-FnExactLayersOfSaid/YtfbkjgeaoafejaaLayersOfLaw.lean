/- The program's LayersOf returns what the reference's LayersOf returns, and writes into none of what it was given: for all arguments, without any condition. -/
import Derived.Test.YtfbkjgeaoafejaaRows
import Derived.Test.YtfbkjgeaoafejaaLayersOfGb
set_option linter.all false
namespace Go.Proofs.Ytfbkjgeaoafejaa
open Go Go.PV Go.ChangeShapes Go.WideShapes Go.ChangeAt Go.RowKit
theorem fnExactLayersOf_own : ownKnob Try.prog.godebug = none := by kernel_rfl
theorem fnExactLayersOf_laidOut : laidOutB Try.prog = true := by kernel_rfl
set_option maxRecDepth 100000 in
theorem fnExactLayersOf_lifted (os : Os) (started : os.Started) (H : Type) (enc : TypeId × Value → H) :
    ReturnsInHanded {} Try.checked os 6 .any (Rows.fnExactLayersOfSpec.pre6 enc Try.prog Try.f6 Rows.fnExactLayersOfRow.domain false) (Rows.fnExactLayersOfSpec.post enc Try.prog Try.f6 false true false false) := by
  refine returnsInHanded_of_change (C := Try.checked) fnExactLayersOf_own started (by kernel_rfl) Try.func6
    (ChangeSpec.witness6 (enc := enc) (C := Try.checked) false ⟨#[], #[.agg #[.int .i64 0, .slice none 0 0], .int .i64 0, .int .i64 0], []⟩ 8 (by kernel_rfl) (by kernel_rfl) (by kernel_rfl) (by kernel_rfl)) ?_
  intro W base args ds gs before hval hW hcnd _
  exact law_contract (P := Try.prog) (τs := [24, 3, 3]) (ts := [QILQII, I, I]) (tb := 4) (n := 8) progOk.tab fnExactLayersOf_laidOut laws_FnExactLayersOf_pc LayersOf_pureT Try.params6 rfl Try.underlying4 rfl (fun ds h => match ds, h with | [d0, d1, d2], _ => rfl) (by kernel_rfl) (by kernel_rfl) base args ds gs before hval hW

theorem fnExactLayersOf_named : Try.pinned.checked.prog.funcNamed Rows.fnExactLayersOfRow.func = some 6 := by kernel_rfl
theorem fnExactLayersOf_inst : Try.f6.isInstance Try.prog Rows.fnExactLayersOfRow.origin Rows.fnExactLayersOfRow.targs := of_decide_eq_true (by kernel_rfl)
theorem fnExactLayersOf_wrap : Try.f6.isWrapper Try.prog Rows.fnExactLayersOfRow.wrapper Rows.fnExactLayersOfRow.mainSum := by
  unfold Func.isWrapper; first | (rw [if_pos (by decide +kernel)]; kernel_rfl) | (rw [if_neg (by decide +kernel)]; exact ⟨rfl, rfl⟩)
theorem fnExactLayersOf_head : Try.prog.mayEnter = true ∧ Try.prog.liftsFinal = Rows.fnExactLayersOfRow.lifted ∧ Try.prog.make = some Rows.fnExactLayersOfRow.make := ⟨by kernel_rfl, by kernel_rfl, by kernel_rfl⟩
theorem fnExactLayersOf_joined : joinedFacts Try.prog 6 Try.f6 Rows.fnExactLayersOfSpec Rows.fnExactLayersOfRow = true := by
  unfold joinedFacts
  rw [fnExactLayersOf_head.1, fnExactLayersOf_head.2.1, fnExactLayersOf_head.2.2]
  kernel_rfl

/-- The given statement. -/
theorem LayersOf_holds : Rows.FnExactLayersOfSaid :=
  OpenClaim.holds_of_wide 6 Try.f6 rfl rfl rfl rfl rfl rfl rfl ⟨rfl, rfl, rfl, rfl, rfl⟩ rfl rfl rfl rfl rfl fnExactLayersOf_named Try.func6 fnExactLayersOf_joined fnExactLayersOf_inst fnExactLayersOf_wrap
    (fun os started H enc _ => fnExactLayersOf_lifted os started H enc)
#print axioms LayersOf_holds
end Go.Proofs.Ytfbkjgeaoafejaa
