/- The law FnHorn says yes to every code of bytes, without any condition: Two solutions of a Horn Formula have a way between them exactly if they have the same lowest, those of a dual one exactly if they have the same highest. (P6) -/
import Derived.Test.YtaodifjegdpifaaGreatRows
import Derived.Test.YtaodifjegdpifaaGreatHornGd
set_option linter.all false
namespace Go.Proofs.YtaodifjegdpifaaGreat
open Go Go.PV Go.ChangeShapes Go.WideShapes Go.ChangeAt Go.RowKit
theorem fnHorn_own : ownKnob Tryz.prog.godebug = none := by kernel_rfl
theorem fnHorn_laidOut : laidOutB Tryz.prog = true := by kernel_rfl
set_option maxRecDepth 100000 in
theorem fnHorn_lifted (os : Os) (started : os.Started) (H : Type) (enc : TypeId × Value → H) :
    ReturnsInHanded {} Tryz.checked os 3 .any (Rows.fnHornSpec.pre6 enc Tryz.prog Tryz.f3 Rows.fnHornRow.domain false) (Rows.fnHornSpec.post enc Tryz.prog Tryz.f3 false true false false) := by
  refine returnsInHanded_of_change (C := Tryz.checked) fnHorn_own started (by kernel_rfl) Tryz.func3
    (ChangeSpec.witness6 (enc := enc) (C := Tryz.checked) false ⟨#[], #[.slice none 0 0], []⟩ 8 (by kernel_rfl) (by kernel_rfl) (by kernel_rfl) (by kernel_rfl)) ?_
  intro W base args ds gs before hval hW hcnd _
  exact law_contract (P := Tryz.prog) (τs := [22]) (ts := [LU8]) (tb := 4) (n := 8) progOk.tab fnHorn_laidOut laws_FnHorn_pc Horn_pureT Tryz.params3 rfl Tryz.underlying4 rfl (fun ds h => match ds, h with | [d0], _ => rfl) (by kernel_rfl) (by kernel_rfl) base args ds gs before hval hW

theorem fnHorn_named : Tryz.pinned.checked.prog.funcNamed Rows.fnHornRow.func = some 3 := by kernel_rfl
theorem fnHorn_inst : Tryz.f3.isInstance Tryz.prog Rows.fnHornRow.origin Rows.fnHornRow.targs := of_decide_eq_true (by kernel_rfl)
theorem fnHorn_wrap : Tryz.f3.isWrapper Tryz.prog Rows.fnHornRow.wrapper Rows.fnHornRow.mainSum := by
  unfold Func.isWrapper; first | (rw [if_pos (by decide +kernel)]; kernel_rfl) | (rw [if_neg (by decide +kernel)]; exact ⟨rfl, rfl⟩)
theorem fnHorn_head : Tryz.prog.mayEnter = true ∧ Tryz.prog.liftsFinal = Rows.fnHornRow.lifted ∧ Tryz.prog.make = some Rows.fnHornRow.make := ⟨by kernel_rfl, by kernel_rfl, by kernel_rfl⟩
theorem fnHorn_joined : joinedFacts Tryz.prog 3 Tryz.f3 Rows.fnHornSpec Rows.fnHornRow = true := by
  unfold joinedFacts
  rw [fnHorn_head.1, fnHorn_head.2.1, fnHorn_head.2.2]
  kernel_rfl

/-- The given statement. -/
theorem Horn_holds : Rows.FnHornSaid :=
  OpenClaim.holds_of_wide 3 Tryz.f3 rfl rfl rfl rfl rfl rfl rfl ⟨rfl, rfl, rfl, rfl, rfl⟩ rfl rfl rfl rfl rfl fnHorn_named Tryz.func3 fnHorn_joined fnHorn_inst fnHorn_wrap
    (fun os started H enc _ => fnHorn_lifted os started H enc)
#print axioms Horn_holds
end Go.Proofs.YtaodifjegdpifaaGreat
