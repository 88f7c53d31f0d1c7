/- Statements on data alone. -/
import Derived.Test.YthkejedgfhjdiaaPvPure
import Derived.Test.YthkejedgfhjdiaaCircleOfGb
set_option linter.all false
set_option linter.all false
namespace Go.Proofs.Ythkejedgfhjdiaa
open Go Go.PV Classical
theorem treeE_snoc (es : List (Int × Int)) (L : List Int) (i : Int) : treeE es (L ++ [i]) = treeE es L ++ [rdP es i] := by simp [treeE]
theorem lessE_take {L : List Int} {e : Int} {n : Nat} (hn : n < L.length) : lessE (L.take (n + 1)) e = lessE (L.take n) e ++ if L[n] = e then [] else [L[n]] := by
  unfold lessE
  rw [List.take_add_one, List.getElem?_eq_getElem hn, List.filter_append]
  by_cases h : L[n] = e <;> simp [h]
theorem l7Two_eq {N : Nat} {g : Int × List (Int × Int)} {L : List Int} {e : Int} (hx : g.2.length ≤ 1048576) (hl : L.length ≤ 1048576) (hN : 1048577 ≤ N) : spec_l7Two N g L e = some ((decide ((goodG g ∧ 0 < g.1) ∧ treeP g.1.toNat g.2 L ∧ 0 ≤ e ∧ e ≤ (g.2.length : Int) - 1), ()), ()) := by
  obtain ⟨m', es⟩ := g
  unfold spec_l7Two
  simp only at hx
  rw [l7Some_eq hx hN, bind_some']
  by_cases h : goodG (m', es) ∧ 0 < m'
  · obtain ⟨m, rfl⟩ : ∃ m : Nat, m' = m := ⟨m'.toNat, by omega⟩
    rw [decide_eq_true h]
    simp only [br_t]
    rw [l7Tree_eq (by omega) h.1 hx hl hN, bind_some']
    simp only [Int.toNat_natCast]
    by_cases h2 : treeP m es L
    · rw [decide_eq_true h2]
      simp only [br_t]
      rw [tLen_n, wrap_ok (by omega) (by omega)]
      unfold spec_l1In
      by_cases h3 : 0 ≤ e
      · rw [ile_t h3, br_t, ile_d]
        simp [h, h2, h3]
        intro _
        have := h.2
        omega
      · rw [ile_f h3, br_f]
        simp [h3]
    · rw [decide_eq_false h2]
      simp [h2, br_f]
  · rw [decide_eq_false h]
    simp only [br_f]
    rw [decide_eq_false (fun h' => h h'.1)]
theorem isTreeCase_eq {N : Nat} {g : Int × List (Int × Int)} {L : List Int} {e : Int} (hx : g.2.length ≤ 1048576) (hl : L.length ≤ 1048576) (hN : 1048577 ≤ N) : impl_isTreeCase N g L e = some ((decide ((goodG g ∧ 0 < g.1) ∧ treeP g.1.toNat g.2 L ∧ 0 ≤ e ∧ e ≤ (g.2.length : Int) - 1), ()), ()) := by
  obtain ⟨m', es⟩ := g
  unfold impl_isTreeCase
  simp only at hx
  rw [impl_IsTree_eq hx hl hN, bind_some']
  unfold isTreeV
  by_cases h : goodG (m', es) ∧ 0 < m'
  · obtain ⟨m, rfl⟩ : ∃ m : Nat, m' = m := ⟨m'.toNat, by omega⟩
    rw [if_pos h]
    simp only [Int.toNat_natCast]
    by_cases h2 : treeP m es L
    · rw [decide_eq_true h2]
      simp only [br_t]
      rw [tLen_n, wrap_ok (by omega) (by omega)]
      unfold impl_between
      by_cases h3 : 0 ≤ e
      · rw [ile_t h3, br_t, ile_d]
        simp [h, h2, h3]
        intro _
        have := h.2
        omega
      · rw [ile_f h3, br_f]
        simp [h3]
    · rw [decide_eq_false h2]
      simp [h2, br_f]
  · rw [if_neg h]
    simp only [br_f]
    rw [decide_eq_false (fun h' => h h'.1)]
noncomputable def roundL (es : List (Int × Int)) (L : List Int) (e : Int) : List Int := L.filter fun t => decide (¬ Cn (treeE es (lessE L t)) (rdP es e).1 (rdP es e).2)
theorem foldl_filterP {p : Int → Prop} [DecidablePred p] : ∀ (xs o : List Int), xs.foldl (fun o x => if p x then o ++ [x] else o) o = o ++ xs.filter fun x => decide (p x) := by
  intro xs
  induction xs with
  | nil => intro o; simp
  | cons x xs ih =>
    intro o
    rw [List.foldl_cons, ih]
    by_cases h : p x <;> simp [h]
theorem rising_strict {lo hi : Int} : ∀ {L : List Int}, rising lo hi L → strict L := by
  intro L
  induction L with
  | nil => intro _; exact List.Pairwise.nil
  | cons x L ih =>
    intro h
    have h' : rising lo hi L := by
      intro i hi'
      have := h (i + 1) (by simp; omega)
      obtain ⟨h1, h2⟩ := this
      have e : ∀ k : Nat, rdI (x :: L) ((k + 1 : Nat) : Int) = rdI L (k : Int) := by intro k; simp [rdI]
      rw [e] at h1 h2
      refine ⟨h1, fun h0 => ?_⟩
      have := h2 (by omega)
      rw [show ((i + 1 - 1 : Nat) : Int) = ((i - 1 + 1 : Nat) : Int) by omega, e] at this
      exact this
    have hs := ih h'
    refine List.pairwise_cons.2 ⟨fun y hy => ?_, hs⟩
    cases L with
    | nil => exact absurd hy (by simp)
    | cons z L =>
      have h1 := (h 1 (by simp)).2 (by omega)
      have hxz : x < z := by simpa [rdI] using h1
      rcases List.mem_cons.1 hy with rfl | hy
      · exact hxz
      · have := (List.pairwise_cons.1 hs).1 y hy
        omega
theorem circle_in_eq {R : Type} {N : Nat} {m : Nat} {es : List (Int × Int)} {L : List Int} {e edge x4 x5 : Int} {tree2 x3 o5 : List Int} (k0 : List Int → Int → Int → List Int → Int → Int → Int → List (Int × Int) → List Int → List Int → Option R) (hg : goodG ((m : Int), es)) (hL : ∀ i ∈ L, 0 ≤ i ∧ i < (es.length : Int)) (hl : L.length ≤ 1048576) (hN : 1048577 ≤ N) :
    ∀ (d n K : Nat) (j : List Int), n + d = L.length → d < K → (∃ δ ρ, δ ≤ n ∧ UF m (treeE es (lessE (L.take n) e)) j δ ρ) →
      ∃ j', (∃ δ ρ, δ ≤ L.length ∧ UF m (treeE es (lessE L e)) j' δ ρ) ∧ impl_Graph_circle_l0_0 N k0 K tree2 edge e x3 x4 x5 L (L.length : Int) n (m : Int) es o5 j = k0 tree2 edge e x3 x4 x5 (m : Int) es o5 j' := by
  intro d
  induction d with
  | zero =>
    intro n K j hd hK hu
    obtain ⟨k, rfl⟩ := succ_of hK
    simp only [impl_Graph_circle_l0_0, ilt_nf (show ¬ n < L.length by omega), br_f]
    rw [List.take_of_length_le (by omega)] at hu
    obtain ⟨δ, ρ, h1, h2⟩ := hu
    exact ⟨j, ⟨δ, ρ, by omega, h2⟩, rfl⟩
  | succ d ih =>
    intro n K j hd hK hu
    obtain ⟨k, rfl⟩ := succ_of hK
    obtain ⟨δ, ρ, h1, h2⟩ := hu
    have hn : n < L.length := by omega
    have hi := hL _ (List.getElem_mem hn)
    have ht := lessE_take (e := e) hn
    simp only [impl_Graph_circle_l0_0, ilt_n hn, br_t, inb_n hn, chk_t, rdI_n hn]
    rw [wrap_succ (by omega)]
    by_cases hc : L[n] = e
    · rw [ine_f hc, br_f]
      rw [if_pos hc, List.append_nil] at ht
      rw [← ht] at h2
      exact ih (n + 1) k j (by omega) (by omega) ⟨δ, ρ, by omega, h2⟩
    · rw [if_neg hc] at ht
      have he := treeE_in hg hL _ (List.mem_map.2 ⟨_, List.getElem_mem hn, rfl⟩)
      obtain ⟨j', e1, e2⟩ := join_eq h2 (show δ < N by omega) he.1 he.2
      rw [ine_t hc, br_t, inb_i hi.1 hi.2, chk_t, e1, bind_some']
      rw [← treeE_snoc, ← ht] at e2
      exact ih (n + 1) k j' (by omega) (by omega) ⟨δ + 1, _, by omega, e2⟩
noncomputable def circV (g : Int × List (Int × Int)) (L : List Int) (e : Int) : List Int × Bool := if ((goodG g ∧ 0 < g.1) ∧ treeP g.1.toNat g.2 L ∧ 0 ≤ e ∧ e ≤ (g.2.length : Int) - 1) ∧ e ∉ L then (putI e (roundL g.2 L e), true) else ([], false)
theorem spec_round_eq {N : Nat} {m : Nat} {es : List (Int × Int)} {L : List Int} {e : Int} (hm : 1 ≤ m) (hg : goodG ((m : Int), es)) (hx : es.length ≤ 1048576) (h : treeP m es L) (he : InN es.length e) (hN : 1048577 ≤ N) : spec_l7Round N ((m : Int), es) L e = some ((putI e (roundL es L e), ()), ()) := by
  have hm8 : m ≤ 8 := by have := hg.1.2; simp only at this; omega
  have hl := h.1
  unfold spec_l7Round
  refine ((loop_list (xs := L) (L := fun K n out => spec_l7Round_l0 N (fun edge1 o => ((spec_l1Put N o edge1).bind fun r => some ((r.1.1, ()), ()))) K L e n (m : Int) es out) (k := fun out => ((spec_l1Put N out e).bind fun r => some ((r.1.1, ()), ()))) (fun out t => if ¬ Cn (treeE es (lessE L t)) (rdP es e).1 (rdP es e).2 then out ++ [t] else out) (fun n out => out.length ≤ n) (fun K n s hn _ => ?_) (fun K n s hn hs => ?_) (fun n s hn hs => ?_) (s := []) (K := N) (by omega) (Nat.zero_le _)).1).trans ?_
  · simp only [spec_l7Round_l0, ilt_lenf hn, br_f]
  · have hcl := cutL_len es L L[n]
    simp only [spec_l7Round_l0, ilt_len hn, br_t, inb_n hn, chk_t, rdI_n hn]
    rw [l7Cut_eq hm hg hx h (List.getElem_mem hn) hN, bind_some', l1Has_eq (by simp only []; omega) hN, bind_some', wrap_succ (by omega), room_ok (by simp; omega), chk_t, br_ite, tApp_d]
    by_cases hc : Cn (treeE es (lessE L L[n])) (rdP es e).1 (rdP es e).2
    · rw [decide_eq_false (fun h' => (mem_cutL.1 h').2 hc)]; simp [hc]
    · rw [decide_eq_true (mem_cutL.2 ⟨he, hc⟩)]; simp [hc]
  · by_cases hc : Cn (treeE es (lessE L L[n])) (rdP es e).1 (rdP es e).2
    · rw [if_neg (fun h => h hc)]; omega
    · rw [if_pos hc]; simp; omega
  · rw [foldl_filterP, List.nil_append]
    have : (roundL es L e).length ≤ L.length := List.length_filter_le ..
    show ((spec_l1Put N (roundL es L e) e).bind fun r => some ((r.1.1, ()), ())) = _
    rw [l1Put_eq (by omega) hN]
    rfl
theorem impl_circle_eq {N : Nat} {m : Nat} {es : List (Int × Int)} {L : List Int} {e : Int} (hm : 1 ≤ m) (hg : goodG ((m : Int), es)) (hx : es.length ≤ 1048576) (h : treeP m es L) (he : InN es.length e) (hel : e ∉ L) (hN : 1048577 ≤ N) : impl_Graph_circle N ((m : Int), es) L e = some ((putI e (roundL es L e), ()), ()) := by
  have hm8 : m ≤ 8 := by have := hg.1.2; simp only at this; omega
  have hl := h.1
  unfold impl_Graph_circle
  rw [tLen_n]
  obtain ⟨i, hi, rfl⟩ := nat_of he
  have heI := edge_in hg hi
  refine ((loop_list (xs := L) (L := fun K n out => impl_Graph_circle_l0 N (fun o => ((slices_Sort_LI_int N o).bind fun r => some ((r.2.1, ()), ()))) K L (i : Int) L (L.length : Int) n (m : Int) es out) (k := fun out => ((slices_Sort_LI_int N out).bind fun r => some ((r.2.1, ()), ()))) (fun out t => if ¬ Cn (treeE es (lessE L t)) (rdP es (i : Int)).1 (rdP es (i : Int)).2 then out ++ [t] else out) (fun n out => out.length ≤ n + 1) (fun K n s hn _ => ?_) (fun K n s hn hs => ?_) (fun n s hn hs => ?_) (s := [(i : Int)]) (K := N) (by omega) (by simp)).1).trans ?_
  · simp only [impl_Graph_circle_l0, ilt_nf hn, br_f]
  · obtain ⟨j, hj, hu⟩ := newJoiner_eq (N := N) (n := m) (by omega) hN
    simp only [impl_Graph_circle_l0, ilt_n hn, br_t, inb_n hn, chk_t, rdI_n hn]
    rw [hj, bind_some', tLen_n]
    obtain ⟨j', ⟨δ, ρ, hδ, hu'⟩, e1⟩ := circle_in_eq (N := N) (e := L[n]) (edge := (i : Int)) (x4 := (L.length : Int)) (x5 := (n : Int)) (tree2 := L) (x3 := L) (o5 := s) (fun tree2 edge2 e x3 x4 x5 o3 o4 o5 o6 => (chk (inb o4 edge2)
          ((impl_joiner_join N o6 (rdP o4 edge2)).bind fun r1 =>
          (br r1.1.1
            ((chk (room o5 [e])
              (impl_Graph_circle_l0 N (fun o => ((slices_Sort_LI_int N o).bind fun r => some ((r.2.1, ()), ()))) K tree2 edge2 x3 x4 (IntKind.i64.wrap (x5 + 1)) o3 o4 (tApp o5 [e]))))
            (impl_Graph_circle_l0 N (fun o => ((slices_Sort_LI_int N o).bind fun r => some ((r.2.1, ()), ()))) K tree2 edge2 x3 x4 (IntKind.i64.wrap (x5 + 1)) o3 o4 o5))))) hg (tree_in h) (by omega) hN L.length 0 N j (by omega) (by omega) ⟨0, _, Nat.le_refl _, hu⟩
    simp only [Int.natCast_zero] at e1
    rw [e1, inb_n hi, chk_t]
    obtain ⟨j'', e2, _⟩ := join_eq hu' (show δ < N by omega) heI.1 heI.2
    rw [e2, bind_some', wrap_succ (by omega), room_ok (by simp; omega), chk_t, tApp_d]
    by_cases hc : Cn (treeE es (lessE L L[n])) (rdP es (i : Int)).1 (rdP es (i : Int)).2
    · rw [decide_eq_false (not_not_intro hc), br_f]; simp [hc]
    · rw [decide_eq_true hc, br_t]; simp [hc]
  · by_cases hc : Cn (treeE es (lessE L L[n])) (rdP es (i : Int)).1 (rdP es (i : Int)).2
    · rw [if_neg (fun h => h hc)]; omega
    · rw [if_pos hc]; simp; omega
  · rw [foldl_filterP]
    have hlr : (roundL es L (i : Int)).length ≤ L.length := List.length_filter_le ..
    show ((slices_Sort_LI_int N ([(i : Int)] ++ roundL es L (i : Int))).bind fun r => some ((r.2.1, ()), ())) = _
    rw [Sort_eq (by simp; omega) hN, bind_some']
    have hst : strict (roundL es L (i : Int)) := List.Pairwise.filter _ (rising_strict h.2.1)
    have hnm : (i : Int) ∉ roundL es L (i : Int) := fun h' => hel (List.mem_filter.1 h').1
    have : sortI ([(i : Int)] ++ roundL es L (i : Int)) = putI (i : Int) (roundL es L (i : Int)) := by
      refine strict_ext (sortI_strict (List.nodup_cons.2 ⟨hnm, strict_nodup hst⟩)) (putI_strict hst) fun x => ?_
      rw [sortI_mem, putI_mem]
      simp
    rw [this]
theorem CircleOf_both {N : Nat} {g : Int × List (Int × Int)} {L : List Int} {e : Int} (hx : g.2.length ≤ 1048576) (hl : L.length ≤ 1048576) (hN : 1048577 ≤ N) : (circV g L e).1.length ≤ 1048576 ∧ spec_CircleOf N g L e = some (((circV g L e).1, (circV g L e).2, ()), ()) ∧ impl_CircleOf N g L e = some (((circV g L e).1, (circV g L e).2, ()), ()) := by
  unfold spec_CircleOf impl_CircleOf circV
  rw [l7Two_eq hx hl hN, isTreeCase_eq hx hl hN, l1Has_eq hl hN, Contains_eq hl hN]
  simp only [bind_some']
  by_cases h : (goodG g ∧ 0 < g.1) ∧ treeP g.1.toNat g.2 L ∧ 0 ≤ e ∧ e ≤ (g.2.length : Int) - 1
  · rw [decide_eq_true h, Bool.not_true, br_f, br_f]
    by_cases he : e ∈ L
    · rw [decide_eq_true he, br_t, br_t, if_neg (fun h' => h'.2 he)]
      exact ⟨Nat.zero_le _, rfl, rfl⟩
    · rw [decide_eq_false he, br_f, br_f, if_pos ⟨h, he⟩]
      obtain ⟨m', es⟩ := g
      simp only at hx h
      obtain ⟨m, rfl⟩ : ∃ m : Nat, m' = m := ⟨m'.toNat, by omega⟩
      rw [Int.toNat_natCast] at h
      have ht := h.2.1
      have hg := h.1.1
      have hm8 : m ≤ 8 := by have := hg.1.2; simp only at this; omega
      have hlr : (roundL es L e).length ≤ L.length := List.length_filter_le ..
      have htl := ht.1
      have hei : InN es.length e := ⟨h.2.2.1, by omega⟩
      refine ⟨?_, by simp only []; rw [spec_round_eq (by omega) hg hx ht hei hN]; rfl, by simp only []; rw [impl_circle_eq (by omega) hg hx ht hei he hN]; rfl⟩
      have hnm : e ∉ roundL es L e := fun h' => he (List.mem_filter.1 h').1
      simp only []
      rw [putI_len_new hnm]
      omega
  · rw [decide_eq_false h, Bool.not_false, br_t, br_t, if_neg (fun h' => h h'.1)]
    exact ⟨Nat.zero_le _, rfl, rfl⟩
theorem CircleOf_pure {g : Int × List (Int × Int)} {e : Int} {cs : List Int} (hx : g.2.length ≤ 9223372036854775807) : laws_FnExactCircleOf 1048577 g cs e = some ((true, ()), ()) := by
  unfold laws_FnExactCircleOf
  have hN : 1048577 ≤ 1048577 := Nat.le_refl _
  rw [tLen_n]
  by_cases hb : cs.length ≤ 1048576
  · rw [ilt_f (by omega), br_f]
    obtain ⟨r, h1, h2⟩ := szGraph_eq (N := 1048577) hx
    simp only [h1, bind_some']
    by_cases h : 0 ≤ r
    · rw [ilt_f (by omega), br_f]
      have h3 := h2 h
      obtain ⟨hr, e1, e2⟩ := CircleOf_both (N := 1048577) (e := e) h3 hb hN
      have k0 : (0 : Int) ≤ 1 ∧ (1 : Int) ≤ 1152921504606846976 := by omega
      have k1 : (0 : Int) ≤ 1 ∧ (1 : Int) ≤ 2305843009213693952 := by omega
      obtain ⟨g', hmk⟩ := markGraph_eq (N := 1048577) k0 h3 hN
      have k2 : (0 : Int) ≤ 1 + 2 * (g.2.length : Int) ∧ 1 + 2 * (g.2.length : Int) ≤ 2305843009213693952 := by omega
      simp only [toGraph_eq h3 hN, toIntS_eq hb hN, bind_some', e1, e2, eqGraph_eq h3 hN, eqIntS_eq (show cs.length ≤ 1099511627776 by omega) (show cs.length < 1048577 by omega), eqIntS_eq (show (circV g cs e).1.length ≤ 1099511627776 by omega) (show (circV g cs e).1.length < 1048577 by omega), decide_true, Bool.not_true, br_f, hmk, markIntS_eq k2 hb hN, ilt_f (show ¬ 1 + 2 * (g.2.length : Int) + (cs.length : Int) < 0 by omega), markIntS_eq k1 (show (circV g cs e).1.length ≤ 1048576 by omega) hN, heldIntS_eq k1 (show (circV g cs e).1.length ≤ 1048576 by omega) hN, ilt_f (show ¬ 1 + ((circV g cs e).1.length : Int) < 0 by omega), ine_f (rfl : 1 + ((circV g cs e).1.length : Int) = 1 + ((circV g cs e).1.length : Int))]
      simp [br_ite]
    · rw [ilt_t (by omega), br_t]
  · rw [ilt_t (by omega), br_t]
theorem CircleOf_pureT : ∀ x : argsT (psOf [QILQII, LI, I]), WfA [QILQII, LI, I] x → ∃ k m, (laws_FnExactCircleOf_S k).f x = some ((true, ()), m) :=
  fun x h => ⟨1048577, (), CircleOf_pure (len_ok h.1.2.1)⟩
end Go.Proofs.Ythkejedgfhjdiaa
