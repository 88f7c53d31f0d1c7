/- The law FnKempe says yes to every code of bytes, without any condition: the Kempe change back is the same change, its chain has just the nodes that change, and chains have two colours. (P5) -/
import Derived.Test.YtbnjcjpnpidhmaaRows
import Derived.Test.YtbnjcjpnpidhmaaKempeGc
set_option linter.all false
namespace Go.Proofs.Ytbnjcjpnpidhmaa
open Go Go.PV Go.ChangeShapes Go.WideShapes Go.ChangeAt Go.RowKit
theorem fnKempe_own : ownKnob Try.prog.godebug = none := by kernel_rfl
theorem fnKempe_laidOut : laidOutB Try.prog = true := by kernel_rfl
set_option maxRecDepth 100000 in
theorem fnKempe_lifted (os : Os) (started : os.Started) (H : Type) (enc : TypeId × Value → H) :
    ReturnsInHanded {} Try.checked os 6 .any (Rows.fnKempeSpec.pre6 enc Try.prog Try.f6 Rows.fnKempeRow.domain false) (Rows.fnKempeSpec.post enc Try.prog Try.f6 false true false false) := by
  refine returnsInHanded_of_change (C := Try.checked) fnKempe_own started (by kernel_rfl) Try.func6
    (ChangeSpec.witness6 (enc := enc) (C := Try.checked) false ⟨#[], #[.slice none 0 0], []⟩ 8 (by kernel_rfl) (by kernel_rfl) (by kernel_rfl) (by kernel_rfl)) ?_
  intro W base args ds gs before hval hW hcnd _
  exact law_contract (P := Try.prog) (τs := [45]) (ts := [LU8]) (tb := 4) (n := 8) progOk.tab fnKempe_laidOut laws_FnKempe_pc Kempe_pureT Try.params6 rfl Try.underlying4 rfl (fun ds h => match ds, h with | [d0], _ => rfl) (by kernel_rfl) (by kernel_rfl) base args ds gs before hval hW

theorem fnKempe_named : Try.pinned.checked.prog.funcNamed Rows.fnKempeRow.func = some 6 := by kernel_rfl
theorem fnKempe_inst : Try.f6.isInstance Try.prog Rows.fnKempeRow.origin Rows.fnKempeRow.targs := of_decide_eq_true (by kernel_rfl)
theorem fnKempe_wrap : Try.f6.isWrapper Try.prog Rows.fnKempeRow.wrapper Rows.fnKempeRow.mainSum := by
  unfold Func.isWrapper; first | (rw [if_pos (by decide +kernel)]; kernel_rfl) | (rw [if_neg (by decide +kernel)]; exact ⟨rfl, rfl⟩)
theorem fnKempe_head : Try.prog.mayEnter = true ∧ Try.prog.liftsFinal = Rows.fnKempeRow.lifted ∧ Try.prog.make = some Rows.fnKempeRow.make := ⟨by kernel_rfl, by kernel_rfl, by kernel_rfl⟩
theorem fnKempe_joined : joinedFacts Try.prog 6 Try.f6 Rows.fnKempeSpec Rows.fnKempeRow = true := by
  unfold joinedFacts
  rw [fnKempe_head.1, fnKempe_head.2.1, fnKempe_head.2.2]
  kernel_rfl

/-- The given statement. -/
theorem Kempe_holds : Rows.FnKempeSaid :=
  OpenClaim.holds_of_wide 6 Try.f6 rfl rfl rfl rfl rfl rfl rfl ⟨rfl, rfl, rfl, rfl, rfl⟩ rfl rfl rfl rfl rfl fnKempe_named Try.func6 fnKempe_joined fnKempe_inst fnKempe_wrap
    (fun os started H enc _ => fnKempe_lifted os started H enc)
#print axioms Kempe_holds
end Go.Proofs.Ytbnjcjpnpidhmaa
