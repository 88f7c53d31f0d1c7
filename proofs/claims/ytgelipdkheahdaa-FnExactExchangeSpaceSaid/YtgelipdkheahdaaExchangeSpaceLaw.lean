/- The program's ExchangeSpace returns what the reference's ExchangeSpace returns, and writes into none of what it was given: for all arguments, without any condition. -/
import Derived.Test.YtgelipdkheahdaaRows
import Derived.Test.YtgelipdkheahdaaExchangeSpaceGc
set_option linter.all false
namespace Go.Proofs.Ytgelipdkheahdaa
open Go Go.PV Go.ChangeShapes Go.WideShapes Go.ChangeAt Go.RowKit
theorem fnExactExchangeSpace_own : ownKnob Try.prog.godebug = none := by kernel_rfl
theorem fnExactExchangeSpace_laidOut : laidOutB Try.prog = true := by kernel_rfl
set_option maxRecDepth 100000 in
theorem fnExactExchangeSpace_lifted (os : Os) (started : os.Started) (H : Type) (enc : TypeId × Value → H) :
    ReturnsInHanded {} Try.checked os 4 .any (Rows.fnExactExchangeSpaceSpec.pre6 enc Try.prog Try.f4 Rows.fnExactExchangeSpaceRow.domain false) (Rows.fnExactExchangeSpaceSpec.post enc Try.prog Try.f4 false true false false) := by
  refine returnsInHanded_of_change (C := Try.checked) fnExactExchangeSpace_own started (by kernel_rfl) Try.func4
    (ChangeSpec.witness6 (enc := enc) (C := Try.checked) false ⟨#[], #[.agg #[.int .i64 0, .slice none 0 0], .int .i64 0, .int .i64 0], []⟩ 8 (by kernel_rfl) (by kernel_rfl) (by kernel_rfl) (by kernel_rfl)) ?_
  intro W base args ds gs before hval hW hcnd _
  exact law_contract (P := Try.prog) (τs := [24, 3, 3]) (ts := [QILQII, I, I]) (tb := 4) (n := 8) progOk.tab fnExactExchangeSpace_laidOut laws_FnExactExchangeSpace_pc ExchangeSpace_pureT Try.params4 rfl Try.underlying4 rfl (fun ds h => match ds, h with | [d0, d1, d2], _ => rfl) (by kernel_rfl) (by kernel_rfl) base args ds gs before hval hW

theorem fnExactExchangeSpace_named : Try.pinned.checked.prog.funcNamed Rows.fnExactExchangeSpaceRow.func = some 4 := by kernel_rfl
theorem fnExactExchangeSpace_inst : Try.f4.isInstance Try.prog Rows.fnExactExchangeSpaceRow.origin Rows.fnExactExchangeSpaceRow.targs := of_decide_eq_true (by kernel_rfl)
theorem fnExactExchangeSpace_wrap : Try.f4.isWrapper Try.prog Rows.fnExactExchangeSpaceRow.wrapper Rows.fnExactExchangeSpaceRow.mainSum := by
  unfold Func.isWrapper; first | (rw [if_pos (by decide +kernel)]; kernel_rfl) | (rw [if_neg (by decide +kernel)]; exact ⟨rfl, rfl⟩)
theorem fnExactExchangeSpace_head : Try.prog.mayEnter = true ∧ Try.prog.liftsFinal = Rows.fnExactExchangeSpaceRow.lifted ∧ Try.prog.make = some Rows.fnExactExchangeSpaceRow.make := ⟨by kernel_rfl, by kernel_rfl, by kernel_rfl⟩
theorem fnExactExchangeSpace_joined : joinedFacts Try.prog 4 Try.f4 Rows.fnExactExchangeSpaceSpec Rows.fnExactExchangeSpaceRow = true := by
  unfold joinedFacts
  rw [fnExactExchangeSpace_head.1, fnExactExchangeSpace_head.2.1, fnExactExchangeSpace_head.2.2]
  kernel_rfl

/-- The given statement. -/
theorem ExchangeSpace_holds : Rows.FnExactExchangeSpaceSaid :=
  OpenClaim.holds_of_wide 4 Try.f4 rfl rfl rfl rfl rfl rfl rfl ⟨rfl, rfl, rfl, rfl, rfl⟩ rfl rfl rfl rfl rfl fnExactExchangeSpace_named Try.func4 fnExactExchangeSpace_joined fnExactExchangeSpace_inst fnExactExchangeSpace_wrap
    (fun os started H enc _ => fnExactExchangeSpace_lifted os started H enc)
#print axioms ExchangeSpace_holds
end Go.Proofs.Ytgelipdkheahdaa
