/- Statements on data alone. -/
import Derived.Test.YtgelipdkheahdaaGreatPvPure
import Derived.Test.YtgelipdkheahdaaGreatFlipWayGc
set_option linter.all false
set_option linter.all false
namespace Go.Proofs.YtgelipdkheahdaaGreat
open Go Go.PV Classical
noncomputable def fwayS (f : Int × List (List Int)) (a b : List Int) : List (List Int) := wayS (solsL f) (stepsL isCh (solsL f)) a b
theorem fway_ok {f : Int × List (List Int)} {a b : List Int} (ha : isSol f a) (hb : isSol f b) : (fwayS f a b).length ≤ 64 ∧ (fwayS f a b).Nodup ∧ (∀ x ∈ fwayS f a b, x.length = f.1.toNat) ∧ f.1.toNat ≤ 6 := by
  have hg := ha.1.1.1
  have h6 : f.1.toNat ≤ 6 := by omega
  obtain ⟨s1, s2, s3, s4⟩ := sols_ok h6 (fun b => decide (solves b f.2))
  have s3 : (solsL f).length ≤ 64 := s3
  have ma := sol_mem ha
  have mb := sol_mem hb
  have hok := stepsL_ok (p := isCh) (xs := solsL f)
  exact ⟨Nat.le_trans (wayS_len (by omega) hok ma mb) s3, wayS_nodup s1 (by omega) hok ma mb, fun x hx => s2 x (wayS_in (by omega) hok ma mb x hx), h6⟩
theorem l6Way_eq {N : Nat} (hNe : N = 1048577) {f : Int × List (List Int)} {a b : List Int} (hl : f.2.length ≤ 1048576) (hc : ∀ c ∈ f.2, c.length ≤ 1048576) (ha : isSol f a) (hb : isSol f b) : spec_l6Way N f a b = some ((fwayS f a b, ()), ()) := by
  have hN : 1048577 ≤ N := by omega
  have hg := ha.1.1.1
  have h6 : f.1.toNat ≤ 6 := by omega
  obtain ⟨s1, s2, s3, s4⟩ := sols_ok h6 (fun b => decide (solves b f.2))
  obtain ⟨b1, _⟩ := space_both (N := N) h6 (fun b => decide (solves b f.2)) hN
  have ma := sol_mem ha
  have mb := sol_mem hb
  have hok := stepsL_ok (p := isCh) (xs := solsL f)
  have s3 : (solsL f).length ≤ 64 := s3
  have s2 : ∀ x ∈ solsL f, x.length ≤ 1048576 := fun x hx => by have := s2 x hx; omega
  have hst : (stepsL isCh (solsL f)).length ≤ 1048576 := by
    have h3 := stepsL_len isCh (solsL f)
    have h4 : (solsL f).length * (solsL f).length ≤ 64 * 64 := Nat.mul_le_mul s3 s3
    omega
  unfold spec_l6Way
  simp only [show ((f.1, f.2) : Int × List (List Int)) = f from rfl]
  rw [spec_sols_eq hNe ha.1.1 hl hc, bind_some']
  simp only []
  unfold solsL at *
  rw [b1, bind_some']
  simp only []
  rw [index_in (by omega) s2 ma hN, bind_some', index_in (by omega) s2 mb hN, bind_some']
  simp only []
  rw [l2Walk_eq (by omega) hst hok (idx_lt ma) (idx_lt mb) hN, bind_some']
  simp only []
  have hwl := wayI_len (by omega) hok (idx_lt ma) (idx_lt mb)
  rw [named_eq s2 (wayI_in (by omega) hok (idx_lt ma) (idx_lt mb)) (by omega) hN, bind_some']
  rfl
noncomputable def fwayV (f : Int × List (List Int)) (a b : List Int) : List Int × Bool := if isSol f a ∧ isSol f b then (diffsL (fwayS f a b), decide (fwayS f a b ≠ [])) else ([], false)
theorem fwayV_len (f : Int × List (List Int)) (a b : List Int) : (fwayV f a b).1.length ≤ 64 := by
  unfold fwayV
  split
  · rename_i h
    have := (fway_ok h.1 h.2).1
    rw [diffsL_len]
    omega
  · simp
theorem impl_FlipWay_eq {N : Nat} (hNe : N = 1048577) {f : Int × List (List Int)} {a b : List Int} (hl : f.2.length ≤ 1048576) (hc : ∀ c ∈ f.2, c.length ≤ 1048576) (ha : a.length ≤ 1048576) (hb : b.length ≤ 1048576) : impl_FlipWay N f a b = some (((fwayV f a b).1, (fwayV f a b).2, ()), ()) := by
  have hN : 1048577 ≤ N := by omega
  unfold impl_FlipWay fwayV
  simp only [show ((f.1, f.2) : Int × List (List Int)) = f from rfl]
  rw [impl_isSolution_eq hl hc ha hN, impl_isSolution_eq hl hc hb hN, bind_some', bind_some']
  by_cases h1 : isSol f a
  · rw [decide_eq_true h1]
    simp only [Bool.not_true, br_f]
    by_cases h2 : isSol f b
    · rw [decide_eq_true h2, if_pos ⟨h1, h2⟩]
      simp only [Bool.not_true, br_f]
      have hg := h1.1.1.1
      have h6 : f.1.toNat ≤ 6 := by omega
      obtain ⟨s1, s2, s3, s4⟩ := sols_ok h6 (fun b => decide (solves b f.2))
      obtain ⟨_, b2⟩ := space_both (N := N) h6 (fun b => decide (solves b f.2)) hN
      have ma := sol_mem h1
      have mb := sol_mem h2
      have hok := stepsL_ok (p := isCh) (xs := solsL f)
      have s3 : (solsL f).length ≤ 64 := s3
      have hst : (stepsL isCh (solsL f)).length ≤ 1048576 := by
        have h3 := stepsL_len isCh (solsL f)
        have h4 : (solsL f).length * (solsL f).length ≤ 64 * 64 := Nat.mul_le_mul s3 s3
        omega
      obtain ⟨w1, w2, w3, w4⟩ := fway_ok h1 h2
      unfold impl_Formula_flips
      simp only [show ((f.1, f.2) : Int × List (List Int)) = f from rfl]
      rw [impl_sols_eq h1.1.1 hl hc hN, bind_some']
      simp only []
      have b2' : impl_spaceOf N (solsL f) (fun y0 y1 => (impl_isChange N y0 y1).bind fun z => some z.1.1) = some (((solsL f, stepsL isCh (solsL f)), ()), ()) := b2
      rw [b2', bind_some', bind_some']
      simp only []
      rw [walk_eq (show lexSorted (solsL f) from s1) (fun x hx => by have := s2 x hx; omega) (by omega) hst hok ma mb hN, bind_some']
      simp only []
      show (br (!(decide (fwayS f a b ≠ []))) _ (impl_FlipWay_l0 N _ N 1 (fwayS f a b) [])) = _
      by_cases he : fwayS f a b = []
      · rw [decide_eq_false (not_not_intro he)]
        simp only [Bool.not_false, br_t]
        rw [he]
        rfl
      · rw [decide_eq_true he]
        simp only [Bool.not_true, br_f]
        rw [impl_diffs w2 (by omega) w3 (by omega) hN]
    · rw [decide_eq_false h2, if_neg (fun h => h2 h.2)]
      rfl
  · rw [decide_eq_false h1, if_neg (fun h => h1 h.1)]
    rfl
theorem spec_FlipWay_eq {N : Nat} (hNe : N = 1048577) {f : Int × List (List Int)} {a b : List Int} (hl : f.2.length ≤ 1048576) (hc : ∀ c ∈ f.2, c.length ≤ 1048576) (ha : a.length ≤ 1048576) (hb : b.length ≤ 1048576) : spec_FlipWay N f a b = some (((fwayV f a b).1, (fwayV f a b).2, ()), ()) := by
  have hN : 1048577 ≤ N := by omega
  unfold spec_FlipWay fwayV
  simp only [show ((f.1, f.2) : Int × List (List Int)) = f from rfl]
  rw [l6Two_ab hl hc ha hb hN, bind_some']
  by_cases h1 : isSol f a ∧ isSol f b
  · rw [decide_eq_true h1, if_pos h1]
    simp only [Bool.not_true, br_f]
    obtain ⟨w1, w2, w3, w4⟩ := fway_ok h1.1 h1.2
    rw [l6Way_eq hNe hl hc h1.1 h1.2, bind_some']
    simp only []
    rw [spec_diffs w2 (by omega) w3 (by omega) hN]
  · rw [decide_eq_false h1, if_neg h1]
    rfl
theorem FlipWay_pure {N : Nat} (hNe : N = 1048577) {f : Int × List (List Int)} {a b : List Int} (hx : f.2.length ≤ 9223372036854775807) (hxs : ∀ x ∈ f.2, x.length ≤ 9223372036854775807) : laws_FnExactFlipWay N f a b = some ((true, ()), ()) := by
  unfold laws_FnExactFlipWay
  have hN : 1048577 ≤ N := by omega
  rw [tLen_n, tLen_n]
  by_cases ha : a.length ≤ 1048576
  · rw [ilt_f (by omega), br_f]
    by_cases hb : b.length ≤ 1048576
    · rw [ilt_f (by omega), br_f]
      obtain ⟨r, h1, h2⟩ := szFormula_eq hx hxs hN
      simp only [h1, bind_some']
      by_cases h : 0 ≤ r
      · rw [ilt_f (by omega), br_f]
        obtain ⟨h3, h4⟩ := h2 h
        have e1 := spec_FlipWay_eq hNe (a := a) (b := b) h3 h4 ha hb
        have e2 := impl_FlipWay_eq hNe (a := a) (b := b) h3 h4 ha hb
        have c1 := fwayV_len f a b
        generalize fwayV f a b = cw at e1 e2 c1
        have k0 : (0 : Int) ≤ 1 ∧ (1 : Int) ≤ 1152921504606846976 := by omega
        have k3 : (0 : Int) ≤ 1 ∧ (1 : Int) ≤ 2305843009213693952 := by omega
        have hs := sumL_le h4
        have k1 : (0 : Int) ≤ 1 + sumL f.2 ∧ 1 + sumL f.2 ≤ 2305843009213693952 := by omega
        have k2 : (0 : Int) ≤ 1 + sumL f.2 + (a.length : Int) ∧ 1 + sumL f.2 + (a.length : Int) ≤ 2305843009213693952 := by omega
        simp only [toFormula_eq h3 h4 hN, toIntS_eq ha hN, toIntS_eq hb hN, bind_some', e1, e2, eqFormula_eq h3 h4 hN, eqIntS_eq (show a.length ≤ 1099511627776 by omega) (show a.length < N by omega), eqIntS_eq (show b.length ≤ 1099511627776 by omega) (show b.length < N by omega), eqIntS_eq (show cw.1.length ≤ 1099511627776 by omega) (show cw.1.length < N by omega), decide_true, Bool.not_true, br_f, markFormula_eq k0 h3 h4 hN,
          markIntS_eq k1 ha hN, markIntS_eq k2 hb hN, ilt_f (show ¬ 1 + sumL f.2 + (a.length : Int) + (b.length : Int) < 0 by omega),
          markIntS_eq k3 (show cw.1.length ≤ 1048576 by omega) hN, heldIntS_eq k3 (show cw.1.length ≤ 1048576 by omega) hN, ilt_f (show ¬ 1 + (cw.1.length : Int) < 0 by omega), ine_f (rfl : 1 + (cw.1.length : Int) = 1 + (cw.1.length : Int))]
        simp [br_ite]
      · rw [ilt_t (by omega), br_t]
    · rw [ilt_t (by omega), br_t]
  · rw [ilt_t (by omega), br_t]
theorem FlipWay_pureT : ∀ x : argsT (psOf [QILLI, LI, LI]), WfA [QILLI, LI, LI] x → ∃ k m, (laws_FnExactFlipWay_S k).f x = some ((true, ()), m) :=
  fun x h => ⟨1048577, (), FlipWay_pure rfl (len_ok h.1.2.1) fun y hy => len_ok (h.1.2.2 y hy).1⟩
end Go.Proofs.YtgelipdkheahdaaGreat
