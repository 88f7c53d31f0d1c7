/- The program's IsTree returns what the reference's IsTree returns, and writes into none of what it was given: for all arguments, without any condition. -/
import Derived.Test.YthkejedgfhjdiaaRows
import Derived.Test.YthkejedgfhjdiaaIsTreeGb
set_option linter.all false
namespace Go.Proofs.Ythkejedgfhjdiaa
open Go Go.PV Go.ChangeShapes Go.WideShapes Go.ChangeAt Go.RowKit
theorem fnExactIsTree_own : ownKnob Try.prog.godebug = none := by kernel_rfl
theorem fnExactIsTree_laidOut : laidOutB Try.prog = true := by kernel_rfl
set_option maxRecDepth 100000 in
theorem fnExactIsTree_lifted (os : Os) (started : os.Started) (H : Type) (enc : TypeId × Value → H) :
    ReturnsInHanded {} Try.checked os 7 .any (Rows.fnExactIsTreeSpec.pre6 enc Try.prog Try.f7 Rows.fnExactIsTreeRow.domain false) (Rows.fnExactIsTreeSpec.post enc Try.prog Try.f7 false true false false) := by
  refine returnsInHanded_of_change (C := Try.checked) fnExactIsTree_own started (by kernel_rfl) Try.func7
    (ChangeSpec.witness6 (enc := enc) (C := Try.checked) false ⟨#[], #[.agg #[.int .i64 0, .slice none 0 0], .slice none 0 0], []⟩ 8 (by kernel_rfl) (by kernel_rfl) (by kernel_rfl) (by kernel_rfl)) ?_
  intro W base args ds gs before hval hW hcnd _
  exact law_contract (P := Try.prog) (τs := [45, 33]) (ts := [QILQII, LI]) (tb := 4) (n := 8) progOk.tab fnExactIsTree_laidOut laws_FnExactIsTree_pc IsTree_pureT Try.params7 rfl Try.underlying4 rfl (fun ds h => match ds, h with | [d0, d1], _ => rfl) (by kernel_rfl) (by kernel_rfl) base args ds gs before hval hW

theorem fnExactIsTree_named : Try.pinned.checked.prog.funcNamed Rows.fnExactIsTreeRow.func = some 7 := by kernel_rfl
theorem fnExactIsTree_inst : Try.f7.isInstance Try.prog Rows.fnExactIsTreeRow.origin Rows.fnExactIsTreeRow.targs := of_decide_eq_true (by kernel_rfl)
theorem fnExactIsTree_wrap : Try.f7.isWrapper Try.prog Rows.fnExactIsTreeRow.wrapper Rows.fnExactIsTreeRow.mainSum := by
  unfold Func.isWrapper; first | (rw [if_pos (by decide +kernel)]; kernel_rfl) | (rw [if_neg (by decide +kernel)]; exact ⟨rfl, rfl⟩)
theorem fnExactIsTree_head : Try.prog.mayEnter = true ∧ Try.prog.liftsFinal = Rows.fnExactIsTreeRow.lifted ∧ Try.prog.make = some Rows.fnExactIsTreeRow.make := ⟨by kernel_rfl, by kernel_rfl, by kernel_rfl⟩
theorem fnExactIsTree_joined : joinedFacts Try.prog 7 Try.f7 Rows.fnExactIsTreeSpec Rows.fnExactIsTreeRow = true := by
  unfold joinedFacts
  rw [fnExactIsTree_head.1, fnExactIsTree_head.2.1, fnExactIsTree_head.2.2]
  kernel_rfl

/-- The given statement. -/
theorem IsTree_holds : Rows.FnExactIsTreeSaid :=
  OpenClaim.holds_of_wide 7 Try.f7 rfl rfl rfl rfl rfl rfl rfl ⟨rfl, rfl, rfl, rfl, rfl⟩ rfl rfl rfl rfl rfl fnExactIsTree_named Try.func7 fnExactIsTree_joined fnExactIsTree_inst fnExactIsTree_wrap
    (fun os started H enc _ => fnExactIsTree_lifted os started H enc)
#print axioms IsTree_holds
end Go.Proofs.Ythkejedgfhjdiaa
