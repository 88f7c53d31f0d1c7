/- Statements on data alone. -/
import Derived.Test.YthkejedgfhjdiaaPvPure
import Derived.Test.YthkejedgfhjdiaaNegateVarsGa
set_option linter.all false
set_option linter.all false
namespace Go.Proofs.Ythkejedgfhjdiaa
open Go Go.PV Classical
noncomputable def negF2 (f : Int × List (List Int)) (vs : List Int) : (Int × List (List Int)) × Bool := if goodF f ∧ rising 0 (f.1 - 1) vs then ((f.1, f.2.map (negC vs)), true) else ((0, []), false)
theorem negF2_small {f : Int × List (List Int)} {vs : List Int} (hl : f.2.length ≤ 1048576) (hc : ∀ c ∈ f.2, c.length ≤ 1048576) : (negF2 f vs).1.2.length ≤ 1048576 ∧ ∀ c ∈ (negF2 f vs).1.2, c.length ≤ 1048576 := by
  unfold negF2
  by_cases h : goodF f ∧ rising 0 (f.1 - 1) vs
  · rw [if_pos h]
    refine ⟨by simpa using hl, fun c h' => ?_⟩
    obtain ⟨d, hd, rfl⟩ := List.mem_map.1 h'
    rw [negC_len]
    exact hc d hd
  · rw [if_neg h]
    exact ⟨Nat.zero_le _, by simp⟩
theorem spec_NegateVars_eq {N : Nat} {f : Int × List (List Int)} {vs : List Int} (hl : f.2.length ≤ 1048576) (hc : ∀ c ∈ f.2, c.length ≤ 1048576) (hvs : vs.length ≤ 1048576) (hN : 1048577 ≤ N) : spec_NegateVars N f vs = some (((negF2 f vs).1, (negF2 f vs).2, ()), ()) := by
  unfold spec_NegateVars negF2
  simp only [spec_l6Good_eq hl hc hN, bind_some']
  by_cases hg : goodF f
  · have hm := hg.1
    rw [decide_eq_true hg, Bool.not_true, br_f, wrap_ok (by omega) (by omega), l1Rising_eq hvs hN]
    simp only [bind_some']
    by_cases hr : rising 0 (f.1 - 1) vs
    · rw [decide_eq_true hr, Bool.not_true, br_f, if_pos ⟨hg, hr⟩]
      obtain ⟨v, cs⟩ := f
      simp only at hl hc hm
      refine (loop_list (xs := cs) (L := fun K n o => spec_NegateVars_l0 N (fun o o1 o2 => some (((o1, o2), true, ()), ())) K vs n v cs 0 v o) (k := fun o => some (((v, o), true, ()), ())) (fun o c => o ++ [negC vs c]) (fun n o => o.length = n) (fun K n s hn _ => ?_) (fun K n s hn hs' => ?_) (fun n s hn h => ?_) (s := []) (K := N) (by omega) rfl).1.trans ?_
      · simp only [spec_NegateVars_l0, ilt_lenf hn, br_f]
      · simp only [spec_NegateVars_l0, ilt_len hn, br_t]
        rw [NegateVars_in_eq _ hm hvs hn (hg.2.2 n hn) hN, room_ok (by simp; omega), chk_t, wrap_succ (by omega), rdL_n hn]
        rfl
      · simp; omega
      · show some (((v, cs.foldl (fun o c => o ++ [negC vs c]) []), true, ()), ()) = _
        rw [← List.foldl_map (f := negC vs) (g := fun o c => o ++ [c]), foldl_snoc, List.nil_append]
    · rw [decide_eq_false hr, Bool.not_false, br_t, if_neg (fun h => hr h.2)]
  · rw [decide_eq_false hg, Bool.not_false, br_t, if_neg (fun h => hg h.1)]
theorem impl_NegateVars_eq {N : Nat} {f : Int × List (List Int)} {vs : List Int} (hl : f.2.length ≤ 1048576) (hc : ∀ c ∈ f.2, c.length ≤ 1048576) (hvs : vs.length ≤ 1048576) (hN : 1048577 ≤ N) : impl_NegateVars N f vs = some (((negF2 f vs).1, (negF2 f vs).2, ()), ()) := by
  unfold impl_NegateVars negF2
  simp only [impl_IsFormula_eq hl hc hN, bind_some']
  by_cases hg : goodF f
  · have hm := hg.1
    rw [decide_eq_true hg, Bool.not_true, br_f, isRising_eq hvs (by omega) hN]
    simp only [bind_some']
    by_cases hr : rising 0 (f.1 - 1) vs
    · rw [decide_eq_true hr, Bool.not_true, br_f, if_pos ⟨hg, hr⟩, copyLists_eq hl hc hN]
      simp only [bind_some', tLen_n]
      obtain ⟨v, cs⟩ := f
      simp only at hl hc hm
      have go : ∀ (d n K : Nat), n + d = cs.length → d < K → impl_NegateVars_l0 N (fun o o1 o2 => some (((o1, o2), true, ()), ())) K vs (cs.length : Int) n 0 v ((cs.map (negC vs)).take n ++ cs.drop n) = some (((v, cs.map (negC vs)), true, ()), ()) := by
        intro d
        induction d with
        | zero =>
          intro n K hd hK
          obtain ⟨k, rfl⟩ := succ_of hK
          simp only [impl_NegateVars_l0]
          rw [ilt_nf (by omega), br_f, List.take_of_length_le (by simp; omega), List.drop_of_length_le (by omega), List.append_nil]
        | succ d ih =>
          intro n K hd hK
          obtain ⟨k, rfl⟩ := succ_of hK
          have hn : n < cs.length := by omega
          have htl : ((cs.map (negC vs)).take n).length = n := by simp; omega
          have hol : n < ((cs.map (negC vs)).take n ++ cs.drop n).length := by simp; omega
          have hrow : rdL ((cs.map (negC vs)).take n ++ cs.drop n) n = cs[n] := by
            rw [rdL_n hol, List.getElem_append_right (by omega)]
            simp [htl]
          have hcl : clauseOk v cs[n] := by rw [← rdL_n hn]; exact hg.2.2 n hn
          have hsh := clause_short hm hcl
          simp only [impl_NegateVars_l0]
          rw [ilt_n hn, br_t, inb_n hol, chk_t, hrow, tLen_n]
          have e := impl_NegateVars_in_eq (N := N) (fun vars2 clause x2 x3 o3 o4 o5 => ((slices_Sort_LI_int N (rdL o5 clause)).bind fun r3 =>
        impl_NegateVars_l0 N (fun o o1 o2 => some (((o1, o2), true, ()), ())) k vars2 x2 (IntKind.i64.wrap (x3 + 1)) o3 o4 (tSet o5 clause r3.2.1))) (vs := vs) (i := n) (x2 := (cs.length : Int)) (x3 := (n : Int)) (o3 := 0) (o4 := v) hm hvs hcl hN cs[n].length 0 N ((cs.map (negC vs)).take n ++ cs.drop n) (by omega) (by omega) hol (by rw [hrow]; simp)
          rw [show ((0 : Nat) : Int) = 0 from rfl] at e
          rw [e, rdL_set hol, Sort_eq (by rw [List.length_map]; omega) hN]
          simp only [bind_some']
          rw [tSet_tSet, wrap_succ (by omega), ← ih (n + 1) k (by omega) (by omega)]
          congr 1
          rw [tSet_n, List.set_append_right _ _ (by omega), htl, Nat.sub_self]
          obtain ⟨y, r, e1, e2, e3⟩ := drop_split hn
          rw [e1, e2, e3, List.set_cons_zero, List.take_add_one, List.getElem?_eq_getElem (by simpa using hn)]
          simp [e2, negC]
      have := go cs.length 0 N (by omega) (by omega)
      simpa using this
    · rw [decide_eq_false hr, Bool.not_false, br_t, if_neg (fun h => hr h.2)]
  · rw [decide_eq_false hg, Bool.not_false, br_t, if_neg (fun h => hg h.1)]
theorem NegateVars_pure {f : Int × List (List Int)} {vs : List Int} (hx : f.2.length ≤ 9223372036854775807) (hxs : ∀ x ∈ f.2, x.length ≤ 9223372036854775807) : laws_FnExactNegateVars 1048577 f vs = some ((true, ()), ()) := by
  unfold laws_FnExactNegateVars
  have hN : 1048577 ≤ 1048577 := Nat.le_refl _
  rw [tLen_n]
  by_cases hb : vs.length ≤ 1048576
  · rw [ilt_f (by omega), br_f]
    obtain ⟨r, h1, h2⟩ := szFormula_eq hx hxs hN
    simp only [h1, bind_some']
    by_cases h : 0 ≤ r
    · rw [ilt_f (by omega), br_f]
      obtain ⟨h3, h4⟩ := h2 h
      obtain ⟨h5, h6⟩ := negF2_small (vs := vs) h3 h4
      have s1 := sumL_le h4
      have s2 := sumL_le h6
      have k0 : (0 : Int) ≤ 1 ∧ (1 : Int) ≤ 1152921504606846976 := by omega
      have k2 : (0 : Int) ≤ 1 + sumL f.2 ∧ 1 + sumL f.2 ≤ 2305843009213693952 := by omega
      simp only [toFormula_eq h3 h4 hN, toIntS_eq hb hN, bind_some', spec_NegateVars_eq h3 h4 hb hN, impl_NegateVars_eq h3 h4 hb hN, eqFormula_eq h3 h4 hN, eqIntS_eq (show vs.length ≤ 1099511627776 by omega) (show vs.length < 1048577 by omega), eqFormula_eq h5 h6 hN, decide_true, Bool.not_true, br_f, markFormula_eq k0 h3 h4 hN, markIntS_eq k2 hb hN, ilt_f (show ¬ 1 + sumL f.2 + (vs.length : Int) < 0 by omega), markFormula_eq k0 h5 h6 hN, heldFormula_eq k0 h5 h6 hN, ilt_f (show ¬ 1 + sumL (negF2 f vs).1.2 < 0 by omega), ine_f (rfl : 1 + sumL (negF2 f vs).1.2 = 1 + sumL (negF2 f vs).1.2)]
      simp [br_ite]
    · rw [ilt_t (by omega), br_t]
  · rw [ilt_t (by omega), br_t]
theorem NegateVars_pureT : ∀ x : argsT (psOf [QILLI, LI]), WfA [QILLI, LI] x → ∃ k m, (laws_FnExactNegateVars_S k).f x = some ((true, ()), m) :=
  fun x h => ⟨1048577, (), NegateVars_pure (len_ok h.1.2.1) fun y hy => len_ok (h.1.2.2 y hy).1⟩
end Go.Proofs.Ythkejedgfhjdiaa
