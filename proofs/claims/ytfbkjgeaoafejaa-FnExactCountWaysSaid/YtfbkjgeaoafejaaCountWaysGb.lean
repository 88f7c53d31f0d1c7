/- Statements on data alone. -/
import Derived.Test.YtfbkjgeaoafejaaPvPure
import Derived.Test.YtfbkjgeaoafejaaCountWaysGa
set_option linter.all false
set_option linter.all false
namespace Go.Proofs.Ytfbkjgeaoafejaa
open Go Go.PV Classical
noncomputable def nextW (L : List (List Int)) (F : List Int) (x : Int) : List Int := (rdL L x).filter fun y => decide (rdI F y = rdI F x - 1)
noncomputable def waysF (L : List (List Int)) (F : List Int) : Nat → Int → List Int → List (List Int)
  | 0, x, b => if rdI F x = 0 then [b] else []
  | d + 1, x, b => if rdI F x = 0 then [b] else (nextW L F x).flatMap fun y => waysF L F d y (b ++ [y])
noncomputable def cntF (L : List (List Int)) (F : List Int) : Nat → Int → Nat
  | 0, x => if rdI F x = 0 then 1 else 0
  | d + 1, x => if rdI F x = 0 then 1 else ((nextW L F x).map fun y => cntF L F d y).sum
theorem ways_cnt {L : List (List Int)} {F : List Int} : ∀ (d : Nat) (x : Int) (b : List Int), (waysF L F d x b).length = cntF L F d x := by
  intro d
  induction d with
  | zero => intro x b; unfold waysF cntF; by_cases h : rdI F x = 0 <;> simp [h]
  | succ d ih =>
    intro x b
    unfold waysF cntF
    by_cases h : rdI F x = 0
    · simp [h]
    · rw [if_neg h, if_neg h, List.length_flatMap]
      congr 1
      exact List.map_congr_left fun y _ => ih y _
theorem ways_len {L : List (List Int)} {F : List Int} : ∀ (d : Nat) (x : Int) (b : List Int), ∀ w ∈ waysF L F d x b, w.length ≤ b.length + d := by
  intro d
  induction d with
  | zero => intro x b w hw; unfold waysF at hw; split at hw <;> simp at hw; rw [hw]; omega
  | succ d ih =>
    intro x b w hw
    unfold waysF at hw
    by_cases h : rdI F x = 0
    · rw [if_pos h] at hw; simp at hw; rw [hw]; omega
    · rw [if_neg h] at hw
      obtain ⟨y, _, hy⟩ := List.mem_flatMap.1 hw
      have := ih y _ w hy
      simp at this
      omega
theorem sum_le {α : Type} {f : α → Nat} {b : Nat} : ∀ {xs : List α}, (∀ x ∈ xs, f x ≤ b) → (xs.map f).sum ≤ xs.length * b := by
  intro xs
  induction xs with
  | nil => intro _; simp
  | cons x xs ih =>
    intro h
    have h1 := h x (List.mem_cons_self ..)
    have h2 := ih fun y hy => h y (List.mem_cons_of_mem _ hy)
    rw [List.map_cons, List.sum_cons, List.length_cons, Nat.add_mul]
    omega
theorem cnt_le {L : List (List Int)} {F : List Int} (hL : ∀ l ∈ L, l.length ≤ 8) : ∀ (d : Nat) (x : Int), cntF L F d x ≤ 8 ^ d := by
  intro d
  induction d with
  | zero => intro x; unfold cntF; split <;> omega
  | succ d ih =>
    intro x
    unfold cntF
    have hp : 1 ≤ 8 ^ (d + 1) := Nat.one_le_pow _ _ (by omega)
    split
    · exact hp
    · refine Nat.le_trans (sum_le fun y _ => ih y) ?_
      have h1 : (nextW L F x).length ≤ (rdL L x).length := List.length_filter_le ..
      have h2 := rdL_len hL x
      rw [Nat.pow_succ, Nat.mul_comm (8 ^ d)]
      exact Nat.mul_le_mul_right _ (by omega)
theorem roads_eq {N : Nat} {m : Nat} {es : List (Int × Int)} (hm : m ≤ 8) (hg : goodG ((m : Int), es)) (hx : es.length ≤ 1048576) (hN : 1048577 ≤ N) : impl_Graph_roads N ((m : Int), es) = some ((nbrs m es, ()), ()) := by
  unfold impl_Graph_roads
  have go : ∀ (d n K : Nat), n + d = m → d < K → impl_Graph_roads_l0 N (fun o => some ((o, ()), ())) K (m : Int) n (m : Int) es ((List.range n).map fun i : Nat => nbr m es (i : Int)) = some ((nbrs m es, ()), ()) := by
    intro d
    induction d with
    | zero =>
      intro n K hd hK
      obtain ⟨k, rfl⟩ := succ_of hK
      have : n = m := by omega
      subst this
      simp only [impl_Graph_roads_l0, ilt_nf (Nat.lt_irrefl n), br_f]
      rfl
    | succ d ih =>
      intro n K hd hK
      obtain ⟨k, rfl⟩ := succ_of hK
      simp only [impl_Graph_roads_l0, ilt_n (show n < m by omega), br_t]
      rw [neighbors_eq hg hx hN, bind_some', room_ok (by simp; omega), chk_t, wrap_succ (by omega), ← ih (n + 1) k (by omega) (by omega), List.range_succ, List.map_append]
      rfl
  exact go m 0 N (by omega) (by omega)
/-- What holds of distances to an end. -/
structure FarOk (m : Nat) (es : List (Int × Int)) (t : Int) (F : List Int) : Prop where
  len : F.length = m
  zero : rdI F t = 0
  one : ∀ y, InN m y → rdI F y = 0 → y = t
  lt : ∀ y, InN m y → rdI F y < m
theorem far_ok {m : Nat} {es : List (Int × Int)} {t : Int} (hm : m ≤ 8) (ht : InN m t) : FarOk m es t (bfsD (nbrs m es) m t) := by
  obtain ⟨h1, h2, h3, h4, _⟩ := bfsD_spec (nbrs_ok (es := es) hm) ht
  exact ⟨h1, h2, h4, h3⟩
theorem count_eq {N : Nat} {m : Nat} {es : List (Int × Int)} {t : Int} {F : List Int} (hm : m ≤ 8) (hx : es.length ≤ 1048576) (hF : FarOk m es t F) (hN : 1048577 ≤ N) : ∀ (d fu : Nat) (x : Int), d < fu → InN m x → rdI F x = d → spec_l7Count_r N fu ((m : Int), es) F x = some (((cntF (nbrs m es) F d x : Int), ()), ()) := by
  have hrow : ∀ l ∈ nbrs m es, l.length ≤ 8 := fun l hl => by
    obtain ⟨i, _, rfl⟩ := List.mem_map.1 hl
    have := nbr_len m es (i : Int)
    omega
  intro d
  induction d with
  | zero =>
    intro fu x hfu hxm hd
    obtain ⟨fu, rfl⟩ := succ_of hfu
    unfold spec_l7Count_r spec_l7Count_b cntF
    rw [inb_i hxm.1 (by rw [hF.len]; exact hxm.2), chk_t, ieq_t (by omega), br_t, if_pos (by omega)]
    rfl
  | succ d ih =>
    intro fu x hfu hxm hd
    obtain ⟨fu, rfl⟩ := succ_of hfu
    have hlt := hF.lt x hxm
    unfold spec_l7Count_r spec_l7Count_b cntF
    rw [inb_i hxm.1 (by rw [hF.len]; exact hxm.2), chk_t, ieq_f (by omega), br_f, if_neg (by omega), l2Neighbors_eq hm hx hN, bind_some']
    simp only []
    have hnl := nbr_len m es x
    obtain ⟨c, hc1, hc2⟩ : ∃ c : Nat, 8 ^ d ≤ c ∧ c ≤ 2097152 := ⟨2097152, Nat.le_trans (Nat.pow_le_pow_right (by omega) (show d ≤ 7 by omega)) (by decide), Nat.le_refl _⟩
    have hin : ∀ y ∈ nbr m es x, InN m y := fun y hy => by
      obtain ⟨i, hi, _, rfl⟩ := mem_nbr.1 hy
      exact in_nat hi
    have go : ∀ (j n K s : Nat), n + j = (nbr m es x).length → j < K → s ≤ n * c →
        spec_l7Count_l0 N (spec_l7Count_r N fu) (fun sum => some ((sum, ()), ())) K F x (s : Int) n (m : Int) es (nbr m es x) = some ((((s + ((((nbr m es x).drop n).filter fun y => decide (rdI F y = rdI F x - 1)).map fun y => cntF (nbrs m es) F d y).sum : Nat) : Int), ()), ()) := by
      intro j
      induction j with
      | zero =>
        intro n K s hj hK hs
        obtain ⟨k, rfl⟩ := succ_of hK
        simp only [spec_l7Count_l0, ilt_lenf (show ¬ n < (nbr m es x).length by omega), br_f]
        rw [List.drop_of_length_le (by omega)]
        simp
      | succ j ihj =>
        intro n K s hj hK hs
        obtain ⟨k, rfl⟩ := succ_of hK
        have hn : n < (nbr m es x).length := by omega
        have hy := hin _ (List.getElem_mem hn)
        simp only [spec_l7Count_l0, ilt_len hn, br_t]
        rw [inb_i hxm.1 (by rw [hF.len]; exact hxm.2), chk_t, ilt_t (by omega), br_t, inb_n hn, chk_t, rdI_n hn, inb_i hy.1 (by rw [hF.len]; exact hy.2), chk_t, chk_t, wrap_ok (n := rdI F x - 1) (by omega) (by omega), wrap_succ (by omega), chk_t, drop_cons hn, List.filter_cons]
        by_cases hc : rdI F (nbr m es x)[n] = rdI F x - 1
        · rw [ieq_t hc, br_t, ih fu _ (by omega) hy (by omega), bind_some', if_pos (decide_eq_true hc)]
          simp only []
          have hcl := cnt_le (F := F) hrow d (nbr m es x)[n]
          have hnc : n * c ≤ 8 * 2097152 := Nat.mul_le_mul (by omega) hc2
          rw [wrap_ok (by omega) (by omega), show (s : Int) + (cntF (nbrs m es) F d (nbr m es x)[n] : Int) = ((s + cntF (nbrs m es) F d (nbr m es x)[n] : Nat) : Int) by omega, ihj (n + 1) k _ (by omega) (by omega) (by rw [Nat.add_mul, Nat.one_mul]; omega)]
          rw [List.map_cons, List.sum_cons, Nat.add_assoc]
        · rw [ieq_f hc, br_f, if_neg (by simpa using hc)]
          exact ihj (n + 1) k s (by omega) (by omega) (by rw [Nat.add_mul, Nat.one_mul]; omega)
    have := go (nbr m es x).length 0 N 0 (by omega) (by omega) (Nat.zero_le _)
    simp only [Int.natCast_zero, List.drop_zero, Nat.zero_add] at this
    rw [this]
    unfold nextW
    rw [rd_nbrs hxm]
theorem from_ways_eq {N : Nat} {m : Nat} {es : List (Int × Int)} {t : Int} {F : List Int} (hm : m ≤ 8) (hF : FarOk m es t F) (ht : InN m t) (hN : 1048577 ≤ N) : ∀ (d fu : Nat) (x : Int) (b : List Int) (o : List (List Int)), d < fu → InN m x → rdI F x = d → b.length + d ≤ 1048575 → o.length + (waysF (nbrs m es) F d x b).length ≤ 1099511627776 →
    impl_Graph_ways_c1_r N fu x t o b (nbrs m es) F () = some ((), (o ++ waysF (nbrs m es) F d x b, (b, ()))) := by
  intro d
  induction d with
  | zero =>
    intro fu x b o hfu hxm hd hb ho
    obtain ⟨fu, rfl⟩ := succ_of hfu
    have hxt := hF.one x hxm (by omega)
    have hw : waysF (nbrs m es) F 0 x b = [b] := by unfold waysF; rw [if_pos (by omega)]
    rw [hw] at ho ⊢
    unfold impl_Graph_ways_c1_r impl_Graph_ways_c1_b
    rw [ieq_t hxt, br_t, Clone_eq (by omega), bind_some']
    simp only []
    rw [room_ok ho, chk_t]
    rfl
  | succ d ih =>
    intro fu x b o hfu hxm hd hb ho
    obtain ⟨fu, rfl⟩ := succ_of hfu
    have hxt : x ≠ t := fun h => by rw [h, hF.zero] at hd; omega
    have hw : waysF (nbrs m es) F (d + 1) x b = (nextW (nbrs m es) F x).flatMap fun y => waysF (nbrs m es) F d y (b ++ [y]) := by
      rw [waysF, if_neg (by omega)]
    rw [hw] at ho ⊢
    unfold impl_Graph_ways_c1_r impl_Graph_ways_c1_b
    rw [ieq_f hxt, br_f, inb_i hxm.1 (by simp [nbrs]; exact hxm.2), chk_t, rd_nbrs hxm, tLen_n]
    unfold nextW at ho ⊢
    rw [rd_nbrs hxm] at ho ⊢
    have hnl := nbr_len m es x
    have hlt := hF.lt x hxm
    have hin : ∀ y ∈ nbr m es x, InN m y := fun y hy => by
      obtain ⟨i, hi, _, rfl⟩ := mem_nbr.1 hy
      exact in_nat hi
    have go : ∀ (j n K : Nat) (o : List (List Int)), n + j = (nbr m es x).length → j < K → o.length + ((((nbr m es x).drop n).filter fun y => decide (rdI F y = rdI F x - 1)).flatMap fun y => waysF (nbrs m es) F d y (b ++ [y])).length ≤ 1099511627776 →
        impl_Graph_ways_c1_l0 N (impl_Graph_ways_c1_r N fu) (fun o o1 => some ((), (o, o1, ()))) K x F t (nbrs m es) F (nbr m es x) ((nbr m es x).length : Int) n o b = some ((), (o ++ (((nbr m es x).drop n).filter fun y => decide (rdI F y = rdI F x - 1)).flatMap fun y => waysF (nbrs m es) F d y (b ++ [y]), (b, ()))) := by
      intro j
      induction j with
      | zero =>
        intro n K o hj hK ho
        obtain ⟨k, rfl⟩ := succ_of hK
        simp only [impl_Graph_ways_c1_l0, ilt_nf (show ¬ n < (nbr m es x).length by omega), br_f]
        rw [List.drop_of_length_le (by omega)]
        simp
      | succ j ihj =>
        intro n K o hj hK ho
        obtain ⟨k, rfl⟩ := succ_of hK
        have hn : n < (nbr m es x).length := by omega
        have hy := hin _ (List.getElem_mem hn)
        simp only [impl_Graph_ways_c1_l0, ilt_n hn, br_t, inb_n hn, chk_t, rdI_n hn]
        rw [inb_i hy.1 (by rw [hF.len]; exact hy.2), chk_t, inb_i hxm.1 (by rw [hF.len]; exact hxm.2), chk_t, wrap_ok (n := rdI F x - 1) (by omega) (by omega), wrap_succ (by omega)]
        rw [drop_cons hn, List.filter_cons] at ho ⊢
        by_cases hc : rdI F (nbr m es x)[n] = rdI F x - 1
        · rw [if_pos (decide_eq_true hc), List.flatMap_cons, List.length_append] at ho
          rw [ieq_t hc, br_t, room_ok (by simp; omega), chk_t, tApp_d, ih fu _ (b ++ [(nbr m es x)[n]]) o (by omega) hy (by omega) (by simp; omega) (by omega), bind_some', if_pos (decide_eq_true hc), List.flatMap_cons]
          have hcut : tCut (b ++ [(nbr m es x)[n]]) 0 (b.length : Int) = b := by
            rw [show (0 : Int) = ((0 : Nat) : Int) from rfl, tCut_n]
            simp
          have hwl : IntKind.i64.wrap (((b ++ [(nbr m es x)[n]]).length : Int) - 1) = (b.length : Int) := by
            rw [List.length_append, List.length_singleton, wrap_ok (by omega) (by omega)]; omega
          simp only [tLen_n]
          rw [hwl, hcut, ile_t (by omega), ile_t (by omega), ile_t (by rw [List.length_append]; omega)]
          simp only [Bool.and_self, chk_t]
          rw [ihj (n + 1) k _ (by omega) (by omega) (by rw [List.length_append]; omega), List.append_assoc]
        · rw [if_neg (by simpa using hc)] at ho ⊢
          rw [ieq_f hc, br_f]
          exact ihj (n + 1) k o (by omega) (by omega) ho
    have := go (nbr m es x).length 0 N o (by omega) (by omega) ho
    simp only [Int.natCast_zero, List.drop_zero] at this
    exact this
noncomputable def waysL (m : Nat) (es : List (Int × Int)) (s t : Int) : List (List Int) :=
  if rdI (bfsD (nbrs m es) m t) s < 0 then [] else waysF (nbrs m es) (bfsD (nbrs m es) m t) (rdI (bfsD (nbrs m es) m t) s).toNat s [s]
theorem waysL_len {m : Nat} {es : List (Int × Int)} {s t : Int} (hm : m ≤ 8) (hs : InN m s) (ht : InN m t) : (waysL m es s t).length ≤ 2097152 ∧ ∀ w ∈ waysL m es s t, w.length ≤ 8 := by
  have hF := far_ok (es := es) hm ht
  have hlt := hF.lt s hs
  unfold waysL
  by_cases h : rdI (bfsD (nbrs m es) m t) s < 0
  · rw [if_pos h]; simp
  · rw [if_neg h]
    have hrow : ∀ l ∈ nbrs m es, l.length ≤ 8 := fun l hl => by
      obtain ⟨i, _, rfl⟩ := List.mem_map.1 hl
      have := nbr_len m es (i : Int)
      omega
    refine ⟨?_, fun w hw => ?_⟩
    · rw [ways_cnt]
      refine Nat.le_trans (cnt_le hrow _ _) ?_
      exact Nat.le_trans (Nat.pow_le_pow_right (by omega) (show _ ≤ 7 by omega)) (by decide)
    · have := ways_len _ _ _ w hw
      simp at this
      omega
theorem impl_ways_eq {N : Nat} {m : Nat} {es : List (Int × Int)} {s t : Int} (hm : m ≤ 8) (hg : goodG ((m : Int), es)) (hx : es.length ≤ 1048576) (hs : InN m s) (ht : InN m t) (hN : 1048577 ≤ N) : impl_Graph_ways N ((m : Int), es) s t = some ((waysL m es s t, ()), ()) := by
  have hF := far_ok (es := es) hm ht
  have hlt := hF.lt s hs
  obtain ⟨hl1, hl2⟩ := waysL_len (es := es) hm hs ht
  unfold impl_Graph_ways
  simp only []
  rw [roads_eq hm hg hx hN, bind_some']
  simp only []
  rw [spread_eq (nbrs_ok hm) (by omega) ht hN, bind_some']
  simp only []
  rw [inb_i hs.1 (by rw [hF.len]; exact hs.2), chk_t]
  unfold waysL at hl1 ⊢
  by_cases h : rdI (bfsD (nbrs m es) m t) s < 0
  · rw [ilt_t h, br_t, if_pos h]
  · rw [if_neg h] at hl1
    rw [ilt_f h, br_f, if_neg h]
    unfold impl_Graph_ways_c1
    rw [from_ways_eq hm hF ht hN _ N s [s] [] (show (rdI (bfsD (nbrs m es) m t) s).toNat < N by omega) hs (by omega) (by simp; omega) (by rw [List.length_nil]; omega), bind_some']
    rfl
theorem ends_eq {N : Nat} {g : Int × List (Int × Int)} {s t : Int} (hx : g.2.length ≤ 1048576) (hN : 1048577 ≤ N) : spec_l7Ends N g s t = some ((decide (goodG g ∧ (0 ≤ s ∧ s ≤ g.1 - 1) ∧ 0 ≤ t ∧ t ≤ g.1 - 1), ()), ()) ∧ impl_isTwoNodes N g s t = some ((decide (goodG g ∧ (0 ≤ s ∧ s ≤ g.1 - 1) ∧ 0 ≤ t ∧ t ≤ g.1 - 1), ()), ()) := by
  unfold spec_l7Ends impl_isTwoNodes spec_l1In impl_between
  rw [l2Good_eq hx hN, IsGraph_eq hx hN]
  refine (and_self _).mpr ?_
  simp only [bind_some']
  by_cases h : goodG g
  · have h0 := h.1
    rw [decide_eq_true h, br_t, wrap_ok (by omega) (by omega)]
    by_cases h1 : 0 ≤ s
    · rw [ile_t h1, br_t, bind_some', ile_d]
      by_cases h2 : s ≤ g.1 - 1
      · rw [decide_eq_true h2, br_t]
        by_cases h3 : 0 ≤ t
        · rw [ile_t h3, br_t, ile_d]
          simp [h, h1, h2, h3]
        · rw [ile_f h3, br_f]
          simp [h3]
      · rw [decide_eq_false h2]
        simp [h2, br_f]
    · rw [ile_f h1, br_f]
      simp [h1, br_f]
  · rw [decide_eq_false h, br_f]
    simp [h]
theorem spec_count_eq {N : Nat} {m : Nat} {es : List (Int × Int)} {s t : Int} (hm : m ≤ 8) (hx : es.length ≤ 1048576) (hs : InN m s) (ht : InN m t) (hN : 1048577 ≤ N) : spec_l7Count N ((m : Int), es) (bfsD (nbrs m es) m t) s = some ((((waysL m es s t).length : Int), ()), ()) := by
  have hF := far_ok (es := es) hm ht
  have hlt := hF.lt s hs
  unfold spec_l7Count waysL
  by_cases h : rdI (bfsD (nbrs m es) m t) s < 0
  · rw [if_pos h]
    obtain ⟨fu, rfl⟩ : ∃ fu, N = fu + 1 := ⟨N - 1, by omega⟩
    unfold spec_l7Count_r spec_l7Count_b
    rw [inb_i hs.1 (by rw [hF.len]; exact hs.2), chk_t, ieq_f (by omega), br_f, l2Neighbors_eq hm hx hN, bind_some']
    simp only []
    have hnl := nbr_len m es s
    have go : ∀ (j n K : Nat), n + j = (nbr m es s).length → j < K → spec_l7Count_l0 (fu + 1) (spec_l7Count_r (fu + 1) fu) (fun sum => some ((sum, ()), ())) K (bfsD (nbrs m es) m t) s 0 n (m : Int) es (nbr m es s) = some ((0, ()), ()) := by
      intro j
      induction j with
      | zero =>
        intro n K hj hK
        obtain ⟨k, rfl⟩ := succ_of hK
        simp only [spec_l7Count_l0, ilt_lenf (show ¬ n < (nbr m es s).length by omega), br_f]
      | succ j ihj =>
        intro n K hj hK
        obtain ⟨k, rfl⟩ := succ_of hK
        have hn : n < (nbr m es s).length := by omega
        simp only [spec_l7Count_l0, ilt_len hn, br_t]
        rw [inb_i hs.1 (by rw [hF.len]; exact hs.2), chk_t, ilt_f (by omega), br_f, wrap_succ (by omega)]
        exact ihj (n + 1) k (by omega) (by omega)
    have := go (nbr m es s).length 0 (fu + 1) (by omega) (by omega)
    exact this
  · rw [if_neg h, count_eq hm hx hF hN (rdI (bfsD (nbrs m es) m t) s).toNat N s (by omega) hs (by omega), ways_cnt]
theorem CountWays_both {N : Nat} {g : Int × List (Int × Int)} {s t : Int} (hx : g.2.length ≤ 1048576) (hN : 1048577 ≤ N) : ∃ (r : Int) (ok : Bool), spec_CountWays N g s t = some ((r, ok, ()), ()) ∧ impl_CountWays N g s t = some ((r, ok, ()), ()) := by
  obtain ⟨e1, e2⟩ := ends_eq (s := s) (t := t) hx hN
  unfold spec_CountWays impl_CountWays
  rw [e1, e2, bind_some', bind_some']
  by_cases h : goodG g ∧ (0 ≤ s ∧ s ≤ g.1 - 1) ∧ 0 ≤ t ∧ t ≤ g.1 - 1
  · obtain ⟨m', es⟩ := g
    have h0 := h.1.1
    simp only at hx h h0
    obtain ⟨m, rfl⟩ : ∃ m : Nat, m' = m := ⟨m'.toNat, by omega⟩
    have hs : InN m s := ⟨h.2.1.1, by omega⟩
    have ht : InN m t := ⟨h.2.2.1, by omega⟩
    rw [decide_eq_true h]
    simp only [Bool.not_true, br_f]
    rw [l3Far_bfs (by omega) hx ht hN, bind_some']
    simp only []
    rw [spec_count_eq (by omega) hx hs ht hN, impl_ways_eq (by omega) h.1 hx hs ht hN]
    exact ⟨_, _, rfl, rfl⟩
  · rw [decide_eq_false h]
    exact ⟨0, false, rfl, rfl⟩
theorem CountWays_pure {g : Int × List (Int × Int)} {s t : Int} (hx : g.2.length ≤ 9223372036854775807) : laws_FnExactCountWays 1048577 g s t = some ((true, ()), ()) := by
  unfold laws_FnExactCountWays
  have hN : 1048577 ≤ 1048577 := Nat.le_refl _
  obtain ⟨r, h1, h2⟩ := szGraph_eq (N := 1048577) hx
  simp only [h1, bind_some']
  by_cases h : 0 ≤ r
  · rw [ilt_f (by omega), br_f]
    have h3 := h2 h
    obtain ⟨v, ok, e1, e2⟩ := CountWays_both (N := 1048577) (s := s) (t := t) h3 hN
    simp only [toGraph_eq h3 hN, bind_some', e1, e2, eqGraph_eq h3 hN, ine_f (rfl : v = v)]
    simp [br_ite]
  · rw [ilt_t (by omega), br_t]
theorem CountWays_pureT : ∀ x : argsT (psOf [QILQII, I, I]), WfA [QILQII, I, I] x → ∃ k m, (laws_FnExactCountWays_S k).f x = some ((true, ()), m) :=
  fun x h => ⟨1048577, (), CountWays_pure (len_ok h.1.2.1)⟩
end Go.Proofs.Ytfbkjgeaoafejaa
