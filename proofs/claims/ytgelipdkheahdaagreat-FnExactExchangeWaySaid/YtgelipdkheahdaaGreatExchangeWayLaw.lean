/- The program's ExchangeWay returns what the reference's ExchangeWay returns, and writes into none of what it was given: for all arguments, without any condition. -/
import Derived.Test.YtgelipdkheahdaaGreatRows
import Derived.Test.YtgelipdkheahdaaGreatExchangeWayGd
set_option linter.all false
namespace Go.Proofs.YtgelipdkheahdaaGreat
open Go Go.PV Go.ChangeShapes Go.WideShapes Go.ChangeAt Go.RowKit
theorem fnExactExchangeWay_own : ownKnob Tryz.prog.godebug = none := by kernel_rfl
theorem fnExactExchangeWay_laidOut : laidOutB Tryz.prog = true := by kernel_rfl
set_option maxRecDepth 100000 in
theorem fnExactExchangeWay_lifted (os : Os) (started : os.Started) (H : Type) (enc : TypeId × Value → H) :
    ReturnsInHanded {} Tryz.checked os 8 .any (Rows.fnExactExchangeWaySpec.pre6 enc Tryz.prog Tryz.f8 Rows.fnExactExchangeWayRow.domain false) (Rows.fnExactExchangeWaySpec.post enc Tryz.prog Tryz.f8 false true false false) := by
  refine returnsInHanded_of_change (C := Tryz.checked) fnExactExchangeWay_own started (by kernel_rfl) Tryz.func8
    (ChangeSpec.witness6 (enc := enc) (C := Tryz.checked) false ⟨#[], #[.agg #[.int .i64 0, .slice none 0 0], .int .i64 0, .slice none 0 0, .slice none 0 0], []⟩ 8 (by kernel_rfl) (by kernel_rfl) (by kernel_rfl) (by kernel_rfl)) ?_
  intro W base args ds gs before hval hW hcnd _
  exact law_contract (P := Tryz.prog) (τs := [24, 3, 40, 40]) (ts := [QILQII, I, LI, LI]) (tb := 4) (n := 8) progOk.tab fnExactExchangeWay_laidOut laws_FnExactExchangeWay_pc ExchangeWay_pureT Tryz.params8 rfl Tryz.underlying4 rfl (fun ds h => match ds, h with | [d0, d1, d2, d3], _ => rfl) (by kernel_rfl) (by kernel_rfl) base args ds gs before hval hW

theorem fnExactExchangeWay_named : Tryz.pinned.checked.prog.funcNamed Rows.fnExactExchangeWayRow.func = some 8 := by kernel_rfl
theorem fnExactExchangeWay_inst : Tryz.f8.isInstance Tryz.prog Rows.fnExactExchangeWayRow.origin Rows.fnExactExchangeWayRow.targs := of_decide_eq_true (by kernel_rfl)
theorem fnExactExchangeWay_wrap : Tryz.f8.isWrapper Tryz.prog Rows.fnExactExchangeWayRow.wrapper Rows.fnExactExchangeWayRow.mainSum := by
  unfold Func.isWrapper; first | (rw [if_pos (by decide +kernel)]; kernel_rfl) | (rw [if_neg (by decide +kernel)]; exact ⟨rfl, rfl⟩)
theorem fnExactExchangeWay_head : Tryz.prog.mayEnter = true ∧ Tryz.prog.liftsFinal = Rows.fnExactExchangeWayRow.lifted ∧ Tryz.prog.make = some Rows.fnExactExchangeWayRow.make := ⟨by kernel_rfl, by kernel_rfl, by kernel_rfl⟩
theorem fnExactExchangeWay_joined : joinedFacts Tryz.prog 8 Tryz.f8 Rows.fnExactExchangeWaySpec Rows.fnExactExchangeWayRow = true := by
  unfold joinedFacts
  rw [fnExactExchangeWay_head.1, fnExactExchangeWay_head.2.1, fnExactExchangeWay_head.2.2]
  kernel_rfl

/-- The given statement. -/
theorem ExchangeWay_holds : Rows.FnExactExchangeWaySaid :=
  OpenClaim.holds_of_wide 8 Tryz.f8 rfl rfl rfl rfl rfl rfl rfl ⟨rfl, rfl, rfl, rfl, rfl⟩ rfl rfl rfl rfl rfl fnExactExchangeWay_named Tryz.func8 fnExactExchangeWay_joined fnExactExchangeWay_inst fnExactExchangeWay_wrap
    (fun os started H enc _ => fnExactExchangeWay_lifted os started H enc)
#print axioms ExchangeWay_holds
end Go.Proofs.YtgelipdkheahdaaGreat
