/- The program's CountWays returns what the reference's CountWays returns, and writes into none of what it was given: for all arguments, without any condition. -/
import Derived.Test.YtfbkjgeaoafejaaRows
import Derived.Test.YtfbkjgeaoafejaaCountWaysGb
set_option linter.all false
namespace Go.Proofs.Ytfbkjgeaoafejaa
open Go Go.PV Go.ChangeShapes Go.WideShapes Go.ChangeAt Go.RowKit
theorem fnExactCountWays_own : ownKnob Try.prog.godebug = none := by kernel_rfl
theorem fnExactCountWays_laidOut : laidOutB Try.prog = true := by kernel_rfl
set_option maxRecDepth 100000 in
theorem fnExactCountWays_lifted (os : Os) (started : os.Started) (H : Type) (enc : TypeId × Value → H) :
    ReturnsInHanded {} Try.checked os 4 .any (Rows.fnExactCountWaysSpec.pre6 enc Try.prog Try.f4 Rows.fnExactCountWaysRow.domain false) (Rows.fnExactCountWaysSpec.post enc Try.prog Try.f4 false true false false) := by
  refine returnsInHanded_of_change (C := Try.checked) fnExactCountWays_own started (by kernel_rfl) Try.func4
    (ChangeSpec.witness6 (enc := enc) (C := Try.checked) false ⟨#[], #[.agg #[.int .i64 0, .slice none 0 0], .int .i64 0, .int .i64 0], []⟩ 8 (by kernel_rfl) (by kernel_rfl) (by kernel_rfl) (by kernel_rfl)) ?_
  intro W base args ds gs before hval hW hcnd _
  exact law_contract (P := Try.prog) (τs := [24, 3, 3]) (ts := [QILQII, I, I]) (tb := 4) (n := 8) progOk.tab fnExactCountWays_laidOut laws_FnExactCountWays_pc CountWays_pureT Try.params4 rfl Try.underlying4 rfl (fun ds h => match ds, h with | [d0, d1, d2], _ => rfl) (by kernel_rfl) (by kernel_rfl) base args ds gs before hval hW

theorem fnExactCountWays_named : Try.pinned.checked.prog.funcNamed Rows.fnExactCountWaysRow.func = some 4 := by kernel_rfl
theorem fnExactCountWays_inst : Try.f4.isInstance Try.prog Rows.fnExactCountWaysRow.origin Rows.fnExactCountWaysRow.targs := of_decide_eq_true (by kernel_rfl)
theorem fnExactCountWays_wrap : Try.f4.isWrapper Try.prog Rows.fnExactCountWaysRow.wrapper Rows.fnExactCountWaysRow.mainSum := by
  unfold Func.isWrapper; first | (rw [if_pos (by decide +kernel)]; kernel_rfl) | (rw [if_neg (by decide +kernel)]; exact ⟨rfl, rfl⟩)
theorem fnExactCountWays_head : Try.prog.mayEnter = true ∧ Try.prog.liftsFinal = Rows.fnExactCountWaysRow.lifted ∧ Try.prog.make = some Rows.fnExactCountWaysRow.make := ⟨by kernel_rfl, by kernel_rfl, by kernel_rfl⟩
theorem fnExactCountWays_joined : joinedFacts Try.prog 4 Try.f4 Rows.fnExactCountWaysSpec Rows.fnExactCountWaysRow = true := by
  unfold joinedFacts
  rw [fnExactCountWays_head.1, fnExactCountWays_head.2.1, fnExactCountWays_head.2.2]
  kernel_rfl

/-- The given statement. -/
theorem CountWays_holds : Rows.FnExactCountWaysSaid :=
  OpenClaim.holds_of_wide 4 Try.f4 rfl rfl rfl rfl rfl rfl rfl ⟨rfl, rfl, rfl, rfl, rfl⟩ rfl rfl rfl rfl rfl fnExactCountWays_named Try.func4 fnExactCountWays_joined fnExactCountWays_inst fnExactCountWays_wrap
    (fun os started H enc _ => fnExactCountWays_lifted os started H enc)
#print axioms CountWays_holds
end Go.Proofs.Ytfbkjgeaoafejaa
