/- The program's IsClosed returns what the reference's IsClosed returns, and writes into none of what it was given: for all arguments, without any condition. -/
import Derived.Test.YtfilchmabmfmaaaRows
import Derived.Test.YtfilchmabmfmaaaIsClosedGb
set_option linter.all false
namespace Go.Proofs.Ytfilchmabmfmaaa
open Go Go.PV Go.ChangeShapes Go.WideShapes Go.ChangeAt Go.RowKit
theorem fnExactIsClosed_own : ownKnob Try.prog.godebug = none := by kernel_rfl
theorem fnExactIsClosed_laidOut : laidOutB Try.prog = true := by kernel_rfl
set_option maxRecDepth 100000 in
theorem fnExactIsClosed_lifted (os : Os) (started : os.Started) (H : Type) (enc : TypeId × Value → H) :
    ReturnsInHanded {} Try.checked os 4 .any (Rows.fnExactIsClosedSpec.pre6 enc Try.prog Try.f4 Rows.fnExactIsClosedRow.domain false) (Rows.fnExactIsClosedSpec.post enc Try.prog Try.f4 false true false false) := by
  refine returnsInHanded_of_change (C := Try.checked) fnExactIsClosed_own started (by kernel_rfl) Try.func4
    (ChangeSpec.witness6 (enc := enc) (C := Try.checked) false ⟨#[], #[.agg #[.int .i64 0, .slice none 0 0], .int .i64 0], []⟩ 8 (by kernel_rfl) (by kernel_rfl) (by kernel_rfl) (by kernel_rfl)) ?_
  intro W base args ds gs before hval hW hcnd _
  exact law_contract (P := Try.prog) (τs := [34, 3]) (ts := [QILLI, I]) (tb := 4) (n := 8) progOk.tab fnExactIsClosed_laidOut Zq10_pc IsClosed_pureT Try.params4 rfl Try.underlying4 rfl (fun ds h => match ds, h with | [d0, d1], _ => rfl) (by kernel_rfl) (by kernel_rfl) base args ds gs before hval hW

theorem fnExactIsClosed_named : Try.pinned.checked.prog.funcNamed Rows.fnExactIsClosedRow.func = some 4 := by kernel_rfl
theorem fnExactIsClosed_inst : Try.f4.isInstance Try.prog Rows.fnExactIsClosedRow.origin Rows.fnExactIsClosedRow.targs := of_decide_eq_true (by kernel_rfl)
theorem fnExactIsClosed_wrap : Try.f4.isWrapper Try.prog Rows.fnExactIsClosedRow.wrapper Rows.fnExactIsClosedRow.mainSum := by
  unfold Func.isWrapper; first | (rw [if_pos (by decide +kernel)]; kernel_rfl) | (rw [if_neg (by decide +kernel)]; exact ⟨rfl, rfl⟩)
theorem fnExactIsClosed_head : Try.prog.mayEnter = true ∧ Try.prog.liftsFinal = Rows.fnExactIsClosedRow.lifted ∧ Try.prog.make = some Rows.fnExactIsClosedRow.make := ⟨by kernel_rfl, by kernel_rfl, by kernel_rfl⟩
theorem fnExactIsClosed_joined : joinedFacts Try.prog 4 Try.f4 Rows.fnExactIsClosedSpec Rows.fnExactIsClosedRow = true := by
  unfold joinedFacts
  rw [fnExactIsClosed_head.1, fnExactIsClosed_head.2.1, fnExactIsClosed_head.2.2]
  kernel_rfl

theorem IsClosed_holds : Rows.FnExactIsClosedSaid :=
  OpenClaim.holds_of_wide 4 Try.f4 rfl rfl rfl rfl rfl rfl rfl ⟨rfl, rfl, rfl, rfl, rfl⟩ rfl rfl rfl rfl rfl fnExactIsClosed_named Try.func4 fnExactIsClosed_joined fnExactIsClosed_inst fnExactIsClosed_wrap
    (fun os started H enc _ => fnExactIsClosed_lifted os started H enc)
#print axioms IsClosed_holds
end Go.Proofs.Ytfilchmabmfmaaa
