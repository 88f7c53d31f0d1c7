/- The law FnExchanges says yes to every code of bytes, without any condition: A way of exchanges is there exactly if there is one in the threshold space with one more node, or one less for cliques, and slides are exchanges. (P4) -/
import Derived.Test.YtahehkidnfmfnaaGreatRows
import Derived.Test.YtahehkidnfmfnaaGreatExchangesGg
set_option linter.all false
namespace Go.Proofs.YtahehkidnfmfnaaGreat
open Go Go.PV Go.ChangeShapes Go.WideShapes Go.ChangeAt Go.RowKit
theorem fnExchanges_own : ownKnob Tryz.prog.godebug = none := by kernel_rfl
theorem fnExchanges_laidOut : laidOutB Tryz.prog = true := by kernel_rfl
set_option maxRecDepth 100000 in
theorem fnExchanges_lifted (os : Os) (started : os.Started) (H : Type) (enc : TypeId × Value → H) :
    ReturnsInHanded {} Tryz.checked os 3 .any (Rows.fnExchangesSpec.pre6 enc Tryz.prog Tryz.f3 Rows.fnExchangesRow.domain false) (Rows.fnExchangesSpec.post enc Tryz.prog Tryz.f3 false true false false) := by
  refine returnsInHanded_of_change (C := Tryz.checked) fnExchanges_own started (by kernel_rfl) Tryz.func3
    (ChangeSpec.witness6 (enc := enc) (C := Tryz.checked) false ⟨#[], #[.slice none 0 0], []⟩ 8 (by kernel_rfl) (by kernel_rfl) (by kernel_rfl) (by kernel_rfl)) ?_
  intro W base args ds gs before hval hW hcnd _
  exact law_contract (P := Tryz.prog) (τs := [22]) (ts := [LU8]) (tb := 4) (n := 8) progOk.tab fnExchanges_laidOut Zq51_pc Exchanges_pureT Tryz.params3 rfl Tryz.underlying4 rfl (fun ds h => match ds, h with | [d0], _ => rfl) (by kernel_rfl) (by kernel_rfl) base args ds gs before hval hW

theorem fnExchanges_named : Tryz.pinned.checked.prog.funcNamed Rows.fnExchangesRow.func = some 3 := by kernel_rfl
theorem fnExchanges_inst : Tryz.f3.isInstance Tryz.prog Rows.fnExchangesRow.origin Rows.fnExchangesRow.targs := of_decide_eq_true (by kernel_rfl)
theorem fnExchanges_wrap : Tryz.f3.isWrapper Tryz.prog Rows.fnExchangesRow.wrapper Rows.fnExchangesRow.mainSum := by
  unfold Func.isWrapper; first | (rw [if_pos (by decide +kernel)]; kernel_rfl) | (rw [if_neg (by decide +kernel)]; exact ⟨rfl, rfl⟩)
theorem fnExchanges_head : Tryz.prog.mayEnter = true ∧ Tryz.prog.liftsFinal = Rows.fnExchangesRow.lifted ∧ Tryz.prog.make = some Rows.fnExchangesRow.make := ⟨by kernel_rfl, by kernel_rfl, by kernel_rfl⟩
theorem fnExchanges_joined : joinedFacts Tryz.prog 3 Tryz.f3 Rows.fnExchangesSpec Rows.fnExchangesRow = true := by
  unfold joinedFacts
  rw [fnExchanges_head.1, fnExchanges_head.2.1, fnExchanges_head.2.2]
  kernel_rfl

theorem Exchanges_holds : Rows.FnExchangesSaid :=
  OpenClaim.holds_of_wide 3 Tryz.f3 rfl rfl rfl rfl rfl rfl rfl ⟨rfl, rfl, rfl, rfl, rfl⟩ rfl rfl rfl rfl rfl fnExchanges_named Tryz.func3 fnExchanges_joined fnExchanges_inst fnExchanges_wrap
    (fun os started H enc _ => fnExchanges_lifted os started H enc)
#print axioms Exchanges_holds
end Go.Proofs.YtahehkidnfmfnaaGreat
