/- The program's TightSets returns what the reference's TightSets returns, and writes into none of what it was given: for all arguments, without any condition. -/
import Derived.Test.YtffeokcchabclaaRows
import Derived.Test.YtffeokcchabclaaTightSetsGc
set_option linter.all false
namespace Go.Proofs.Ytffeokcchabclaa
open Go Go.PV Go.ChangeShapes Go.WideShapes Go.ChangeAt Go.RowKit
theorem fnExactTightSets_own : ownKnob Try.prog.godebug = none := by kernel_rfl
theorem fnExactTightSets_laidOut : laidOutB Try.prog = true := by kernel_rfl
set_option maxRecDepth 100000 in
theorem fnExactTightSets_lifted (os : Os) (started : os.Started) (H : Type) (enc : TypeId × Value → H) :
    ReturnsInHanded {} Try.checked os 3 .any (Rows.fnExactTightSetsSpec.pre6 enc Try.prog Try.f3 Rows.fnExactTightSetsRow.domain false) (Rows.fnExactTightSetsSpec.post enc Try.prog Try.f3 false true false false) := by
  refine returnsInHanded_of_change (C := Try.checked) fnExactTightSets_own started (by kernel_rfl) Try.func3
    (ChangeSpec.witness6 (enc := enc) (C := Try.checked) false ⟨#[], #[.agg #[.int .i64 0, .slice none 0 0], .int .i64 0], []⟩ 8 (by kernel_rfl) (by kernel_rfl) (by kernel_rfl) (by kernel_rfl)) ?_
  intro W base args ds gs before hval hW hcnd _
  exact law_contract (P := Try.prog) (τs := [24, 3]) (ts := [QILQII, I]) (tb := 4) (n := 8) progOk.tab fnExactTightSets_laidOut Zq26_pc TightSets_pureT Try.params3 rfl Try.underlying4 rfl (fun ds h => match ds, h with | [d0, d1], _ => rfl) (by kernel_rfl) (by kernel_rfl) base args ds gs before hval hW

theorem fnExactTightSets_named : Try.pinned.checked.prog.funcNamed Rows.fnExactTightSetsRow.func = some 3 := by kernel_rfl
theorem fnExactTightSets_inst : Try.f3.isInstance Try.prog Rows.fnExactTightSetsRow.origin Rows.fnExactTightSetsRow.targs := of_decide_eq_true (by kernel_rfl)
theorem fnExactTightSets_wrap : Try.f3.isWrapper Try.prog Rows.fnExactTightSetsRow.wrapper Rows.fnExactTightSetsRow.mainSum := by
  unfold Func.isWrapper; first | (rw [if_pos (by decide +kernel)]; kernel_rfl) | (rw [if_neg (by decide +kernel)]; exact ⟨rfl, rfl⟩)
theorem fnExactTightSets_head : Try.prog.mayEnter = true ∧ Try.prog.liftsFinal = Rows.fnExactTightSetsRow.lifted ∧ Try.prog.make = some Rows.fnExactTightSetsRow.make := ⟨by kernel_rfl, by kernel_rfl, by kernel_rfl⟩
theorem fnExactTightSets_joined : joinedFacts Try.prog 3 Try.f3 Rows.fnExactTightSetsSpec Rows.fnExactTightSetsRow = true := by
  unfold joinedFacts
  rw [fnExactTightSets_head.1, fnExactTightSets_head.2.1, fnExactTightSets_head.2.2]
  kernel_rfl

theorem TightSets_holds : Rows.FnExactTightSetsSaid :=
  OpenClaim.holds_of_wide 3 Try.f3 rfl rfl rfl rfl rfl rfl rfl ⟨rfl, rfl, rfl, rfl, rfl⟩ rfl rfl rfl rfl rfl fnExactTightSets_named Try.func3 fnExactTightSets_joined fnExactTightSets_inst fnExactTightSets_wrap
    (fun os started H enc _ => fnExactTightSets_lifted os started H enc)
#print axioms TightSets_holds
end Go.Proofs.Ytffeokcchabclaa
