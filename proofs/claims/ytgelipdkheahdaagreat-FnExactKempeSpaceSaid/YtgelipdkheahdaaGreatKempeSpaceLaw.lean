/- The program's KempeSpace returns what the reference's KempeSpace returns, and writes into none of what it was given: for all arguments, without any condition. -/
import Derived.Test.YtgelipdkheahdaaGreatRows
import Derived.Test.YtgelipdkheahdaaGreatKempeSpaceGc
set_option linter.all false
namespace Go.Proofs.YtgelipdkheahdaaGreat
open Go Go.PV Go.ChangeShapes Go.WideShapes Go.ChangeAt Go.RowKit
theorem fnExactKempeSpace_own : ownKnob Tryz.prog.godebug = none := by kernel_rfl
theorem fnExactKempeSpace_laidOut : laidOutB Tryz.prog = true := by kernel_rfl
set_option maxRecDepth 100000 in
theorem fnExactKempeSpace_lifted (os : Os) (started : os.Started) (H : Type) (enc : TypeId × Value → H) :
    ReturnsInHanded {} Tryz.checked os 3 .any (Rows.fnExactKempeSpaceSpec.pre6 enc Tryz.prog Tryz.f3 Rows.fnExactKempeSpaceRow.domain false) (Rows.fnExactKempeSpaceSpec.post enc Tryz.prog Tryz.f3 false true false false) := by
  refine returnsInHanded_of_change (C := Tryz.checked) fnExactKempeSpace_own started (by kernel_rfl) Tryz.func3
    (ChangeSpec.witness6 (enc := enc) (C := Tryz.checked) false ⟨#[], #[.agg #[.int .i64 0, .slice none 0 0], .int .i64 0], []⟩ 8 (by kernel_rfl) (by kernel_rfl) (by kernel_rfl) (by kernel_rfl)) ?_
  intro W base args ds gs before hval hW hcnd _
  exact law_contract (P := Tryz.prog) (τs := [24, 3]) (ts := [QILQII, I]) (tb := 4) (n := 8) progOk.tab fnExactKempeSpace_laidOut laws_FnExactKempeSpace_pc KempeSpace_pureT Tryz.params3 rfl Tryz.underlying4 rfl (fun ds h => match ds, h with | [d0, d1], _ => rfl) (by kernel_rfl) (by kernel_rfl) base args ds gs before hval hW

theorem fnExactKempeSpace_named : Tryz.pinned.checked.prog.funcNamed Rows.fnExactKempeSpaceRow.func = some 3 := by kernel_rfl
theorem fnExactKempeSpace_inst : Tryz.f3.isInstance Tryz.prog Rows.fnExactKempeSpaceRow.origin Rows.fnExactKempeSpaceRow.targs := of_decide_eq_true (by kernel_rfl)
theorem fnExactKempeSpace_wrap : Tryz.f3.isWrapper Tryz.prog Rows.fnExactKempeSpaceRow.wrapper Rows.fnExactKempeSpaceRow.mainSum := by
  unfold Func.isWrapper; first | (rw [if_pos (by decide +kernel)]; kernel_rfl) | (rw [if_neg (by decide +kernel)]; exact ⟨rfl, rfl⟩)
theorem fnExactKempeSpace_head : Tryz.prog.mayEnter = true ∧ Tryz.prog.liftsFinal = Rows.fnExactKempeSpaceRow.lifted ∧ Tryz.prog.make = some Rows.fnExactKempeSpaceRow.make := ⟨by kernel_rfl, by kernel_rfl, by kernel_rfl⟩
theorem fnExactKempeSpace_joined : joinedFacts Tryz.prog 3 Tryz.f3 Rows.fnExactKempeSpaceSpec Rows.fnExactKempeSpaceRow = true := by
  unfold joinedFacts
  rw [fnExactKempeSpace_head.1, fnExactKempeSpace_head.2.1, fnExactKempeSpace_head.2.2]
  kernel_rfl

/-- The given statement. -/
theorem KempeSpace_holds : Rows.FnExactKempeSpaceSaid :=
  OpenClaim.holds_of_wide 3 Tryz.f3 rfl rfl rfl rfl rfl rfl rfl ⟨rfl, rfl, rfl, rfl, rfl⟩ rfl rfl rfl rfl rfl fnExactKempeSpace_named Tryz.func3 fnExactKempeSpace_joined fnExactKempeSpace_inst fnExactKempeSpace_wrap
    (fun os started H enc _ => fnExactKempeSpace_lifted os started H enc)
#print axioms KempeSpace_holds
end Go.Proofs.YtgelipdkheahdaaGreat
