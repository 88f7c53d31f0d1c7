/- Statements on data alone. -/
import Derived.Test.YthkejedgfhjdiaaPvPure
import Derived.Test.YthkejedgfhjdiaaFormulaOfGa
set_option linter.all false
set_option linter.all false
namespace Go.Proofs.Ythkejedgfhjdiaa
open Go Go.PV Classical
theorem FormulaOf_pure {N : Nat} (hNe : N = 1048577) {c : Int} {ss : List (List Int)} (hx : ss.length ≤ 9223372036854775807) (hs : ∀ s ∈ ss, s.length ≤ 9223372036854775807) : laws_FnExactFormulaOf N c ss = some ((true, ()), ()) := by
  have hN : 1048577 ≤ N := by omega
  unfold laws_FnExactFormulaOf
  obtain ⟨r, h1, h2⟩ := szIntSS_eq (left := 1048576) (by omega) hx hs hN
  simp only [h1, bind_some']
  by_cases h : 0 ≤ r
  · rw [ilt_f (by omega), br_f]
    obtain ⟨_, h3', h4'⟩ := h2 h
    have h3 : ss.length ≤ 1048576 := by omega
    have h4 : ∀ x ∈ ss, x.length ≤ 1048576 := fun x hx => by have := h4' x hx; omega
    obtain ⟨h5', h6⟩ := formV_small c h3 h4
    have h5 : (formV c ss).1.2.length ≤ 1048576 := by omega
    have s1 := sumL_le h4
    have s2 := sumL_le h6
    have k0 : (0 : Int) ≤ 1 ∧ (1 : Int) ≤ 1152921504606846976 := by omega
    simp only [toIntSS_eq h3 h4 hN, bind_some', spec_FormulaOf_eq hNe h3 h4, impl_FormulaOf_eq hNe h3 h4, eqIntSS_eq h3 h4 hN, eqFormula_eq h5 h6 hN, decide_true, Bool.not_true, br_f, markIntSS_eq k0 h3 h4 hN, markFormula_eq k0 h5 h6 hN, heldFormula_eq k0 h5 h6 hN, ilt_f (show ¬ 1 + sumL ss < 0 by omega), ilt_f (show ¬ 1 + sumL (formV c ss).1.2 < 0 by omega), ine_f (rfl : 1 + sumL (formV c ss).1.2 = 1 + sumL (formV c ss).1.2)]
    simp [br_ite]
  · rw [ilt_t (by omega), br_t]
theorem FormulaOf_pureT : ∀ x : argsT (psOf [I, LLI]), WfA [I, LLI] x → ∃ k m, (laws_FnExactFormulaOf_S k).f x = some ((true, ()), m) :=
  fun x h => ⟨1048577, (), FormulaOf_pure rfl (len_ok h.2.1.1) fun y hy => len_ok (h.2.1.2 y hy).1⟩
end Go.Proofs.Ythkejedgfhjdiaa
