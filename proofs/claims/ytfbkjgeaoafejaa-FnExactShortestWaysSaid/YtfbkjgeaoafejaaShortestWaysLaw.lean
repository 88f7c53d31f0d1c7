/- The program's ShortestWays returns what the reference's ShortestWays returns, and writes into none of what it was given: for all arguments, without any condition. -/
import Derived.Test.YtfbkjgeaoafejaaRows
import Derived.Test.YtfbkjgeaoafejaaShortestWaysGb
set_option linter.all false
namespace Go.Proofs.Ytfbkjgeaoafejaa
open Go Go.PV Go.ChangeShapes Go.WideShapes Go.ChangeAt Go.RowKit
theorem fnExactShortestWays_own : ownKnob Try.prog.godebug = none := by kernel_rfl
theorem fnExactShortestWays_laidOut : laidOutB Try.prog = true := by kernel_rfl
set_option maxRecDepth 100000 in
theorem fnExactShortestWays_lifted (os : Os) (started : os.Started) (H : Type) (enc : TypeId × Value → H) :
    ReturnsInHanded {} Try.checked os 7 .any (Rows.fnExactShortestWaysSpec.pre6 enc Try.prog Try.f7 Rows.fnExactShortestWaysRow.domain false) (Rows.fnExactShortestWaysSpec.post enc Try.prog Try.f7 false true false false) := by
  refine returnsInHanded_of_change (C := Try.checked) fnExactShortestWays_own started (by kernel_rfl) Try.func7
    (ChangeSpec.witness6 (enc := enc) (C := Try.checked) false ⟨#[], #[.agg #[.int .i64 0, .slice none 0 0], .int .i64 0, .int .i64 0], []⟩ 8 (by kernel_rfl) (by kernel_rfl) (by kernel_rfl) (by kernel_rfl)) ?_
  intro W base args ds gs before hval hW hcnd _
  exact law_contract (P := Try.prog) (τs := [24, 3, 3]) (ts := [QILQII, I, I]) (tb := 4) (n := 8) progOk.tab fnExactShortestWays_laidOut laws_FnExactShortestWays_pc ShortestWays_pureT Try.params7 rfl Try.underlying4 rfl (fun ds h => match ds, h with | [d0, d1, d2], _ => rfl) (by kernel_rfl) (by kernel_rfl) base args ds gs before hval hW

theorem fnExactShortestWays_named : Try.pinned.checked.prog.funcNamed Rows.fnExactShortestWaysRow.func = some 7 := by kernel_rfl
theorem fnExactShortestWays_inst : Try.f7.isInstance Try.prog Rows.fnExactShortestWaysRow.origin Rows.fnExactShortestWaysRow.targs := of_decide_eq_true (by kernel_rfl)
theorem fnExactShortestWays_wrap : Try.f7.isWrapper Try.prog Rows.fnExactShortestWaysRow.wrapper Rows.fnExactShortestWaysRow.mainSum := by
  unfold Func.isWrapper; first | (rw [if_pos (by decide +kernel)]; kernel_rfl) | (rw [if_neg (by decide +kernel)]; exact ⟨rfl, rfl⟩)
theorem fnExactShortestWays_head : Try.prog.mayEnter = true ∧ Try.prog.liftsFinal = Rows.fnExactShortestWaysRow.lifted ∧ Try.prog.make = some Rows.fnExactShortestWaysRow.make := ⟨by kernel_rfl, by kernel_rfl, by kernel_rfl⟩
theorem fnExactShortestWays_joined : joinedFacts Try.prog 7 Try.f7 Rows.fnExactShortestWaysSpec Rows.fnExactShortestWaysRow = true := by
  unfold joinedFacts
  rw [fnExactShortestWays_head.1, fnExactShortestWays_head.2.1, fnExactShortestWays_head.2.2]
  kernel_rfl

/-- The given statement. -/
theorem ShortestWays_holds : Rows.FnExactShortestWaysSaid :=
  OpenClaim.holds_of_wide 7 Try.f7 rfl rfl rfl rfl rfl rfl rfl ⟨rfl, rfl, rfl, rfl, rfl⟩ rfl rfl rfl rfl rfl fnExactShortestWays_named Try.func7 fnExactShortestWays_joined fnExactShortestWays_inst fnExactShortestWays_wrap
    (fun os started H enc _ => fnExactShortestWays_lifted os started H enc)
#print axioms ShortestWays_holds
end Go.Proofs.Ytfbkjgeaoafejaa
