/- The law FnClosures says yes to every code of bytes, without any condition: Solutions of a class are closed under its operation, negating all variables turns Horn into dual Horn, and the Formula of a list has just its solutions. (P6) -/
import Derived.Test.YtfilchmabmfmaaaGreatRows
import Derived.Test.YtfilchmabmfmaaaGreatClosuresGd
set_option linter.all false
namespace Go.Proofs.YtfilchmabmfmaaaGreat
open Go Go.PV Go.ChangeShapes Go.WideShapes Go.ChangeAt Go.RowKit
theorem fnClosures_own : ownKnob Tryz.prog.godebug = none := by kernel_rfl
theorem fnClosures_laidOut : laidOutB Tryz.prog = true := by kernel_rfl
set_option maxRecDepth 100000 in
theorem fnClosures_lifted (os : Os) (started : os.Started) (H : Type) (enc : TypeId × Value → H) :
    ReturnsInHanded {} Tryz.checked os 3 .any (Rows.fnClosuresSpec.pre6 enc Tryz.prog Tryz.f3 Rows.fnClosuresRow.domain false) (Rows.fnClosuresSpec.post enc Tryz.prog Tryz.f3 false true false false) := by
  refine returnsInHanded_of_change (C := Tryz.checked) fnClosures_own started (by kernel_rfl) Tryz.func3
    (ChangeSpec.witness6 (enc := enc) (C := Tryz.checked) false ⟨#[], #[.slice none 0 0], []⟩ 8 (by kernel_rfl) (by kernel_rfl) (by kernel_rfl) (by kernel_rfl)) ?_
  intro W base args ds gs before hval hW hcnd _
  exact law_contract (P := Tryz.prog) (τs := [22]) (ts := [LU8]) (tb := 4) (n := 8) progOk.tab fnClosures_laidOut Zq30_pc Closures_pureT Tryz.params3 rfl Tryz.underlying4 rfl (fun ds h => match ds, h with | [d0], _ => rfl) (by kernel_rfl) (by kernel_rfl) base args ds gs before hval hW

theorem fnClosures_named : Tryz.pinned.checked.prog.funcNamed Rows.fnClosuresRow.func = some 3 := by kernel_rfl
theorem fnClosures_inst : Tryz.f3.isInstance Tryz.prog Rows.fnClosuresRow.origin Rows.fnClosuresRow.targs := of_decide_eq_true (by kernel_rfl)
theorem fnClosures_wrap : Tryz.f3.isWrapper Tryz.prog Rows.fnClosuresRow.wrapper Rows.fnClosuresRow.mainSum := by
  unfold Func.isWrapper; first | (rw [if_pos (by decide +kernel)]; kernel_rfl) | (rw [if_neg (by decide +kernel)]; exact ⟨rfl, rfl⟩)
theorem fnClosures_head : Tryz.prog.mayEnter = true ∧ Tryz.prog.liftsFinal = Rows.fnClosuresRow.lifted ∧ Tryz.prog.make = some Rows.fnClosuresRow.make := ⟨by kernel_rfl, by kernel_rfl, by kernel_rfl⟩
theorem fnClosures_joined : joinedFacts Tryz.prog 3 Tryz.f3 Rows.fnClosuresSpec Rows.fnClosuresRow = true := by
  unfold joinedFacts
  rw [fnClosures_head.1, fnClosures_head.2.1, fnClosures_head.2.2]
  kernel_rfl

theorem Closures_holds : Rows.FnClosuresSaid :=
  OpenClaim.holds_of_wide 3 Tryz.f3 rfl rfl rfl rfl rfl rfl rfl ⟨rfl, rfl, rfl, rfl, rfl⟩ rfl rfl rfl rfl rfl fnClosures_named Tryz.func3 fnClosures_joined fnClosures_inst fnClosures_wrap
    (fun os started H enc _ => fnClosures_lifted os started H enc)
#print axioms Closures_holds
end Go.Proofs.YtfilchmabmfmaaaGreat
