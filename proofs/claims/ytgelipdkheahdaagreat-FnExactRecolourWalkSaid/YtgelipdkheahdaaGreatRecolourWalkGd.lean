/- Statements on data alone. -/
import Derived.Test.YtgelipdkheahdaaGreatPvPure
import Derived.Test.YtgelipdkheahdaaGreatRecolourWalkGc
set_option linter.all false
set_option linter.all false
namespace Go.Proofs.YtgelipdkheahdaaGreat
open Go Go.PV Classical
theorem idx_lt {xs : List (List Int)} {a : List Int} (h : a ∈ xs) : xs.idxOf a < xs.length := List.idxOf_lt_length_iff.2 h
theorem idx_rd {xs : List (List Int)} {a : List Int} (h : a ∈ xs) : rdL xs ((xs.idxOf a : Nat) : Int) = a := by
  rw [rdL_n (idx_lt h)]
  exact List.getElem_idxOf (idx_lt h)
theorem place_in {N : Nat} {xs : List (List Int)} {st : List (Int × Int)} {a : List Int} (hs : lexSorted xs) (hx : xs.length ≤ 1048576) (hl : ∀ x ∈ xs, x.length ≤ 1048576) (ha : a ∈ xs) (hN : 1048577 ≤ N) :
    impl_Space_place N (xs, st) a = some ((((xs.idxOf a : Nat) : Int), true, ()), ()) := by
  have hp := List.pairwise_iff_getElem.1 hs
  have hi := idx_lt ha
  have ht : xs[xs.idxOf a] = a := List.getElem_idxOf hi
  have hal := hl a ha
  unfold impl_Space_place slices_BinarySearchFunc_LLI_LI_LI
  simp only []
  have := bin_eq (N := N) (len := tLen xs) (t := xs.idxOf a) (k0 := fun x1 target1 cmp1 n i => (br (ilt i n) ((chk (inb x1 i) ((cmp1 (rdL x1 i) target1).bind fun v => some ((i, (ieq v 0), ()), ())))) (some ((i, false, ()), ())))) hx hl hal hN (fun k hk hkx => by
    have := hp k _ hkx hi hk
    rwa [ht, ← rdL_n hkx] at this) (fun k hk hkx hc => by
    by_cases he : k = xs.idxOf a
    · subst he
      rw [rdL_n hkx, ht, lexC_self] at hc
      omega
    · have := hp _ k hi hkx (by omega)
      rw [ht, ← rdL_n hkx] at this
      have e := lexC_anti a (rdL xs (k : Int))
      omega) xs.length 0 xs.length N (by omega) (by omega) (Nat.zero_le _) (by omega) (Nat.le_refl _)
  simp only [Int.natCast_zero] at this
  rw [tLen_n] at this ⊢
  rw [this, ilt_n hi, br_t, inb_n hi, chk_t, Compare_lex (by rw [idx_rd ha]; exact hal) hal hN, bind_some', bind_some', bind_some', idx_rd ha, lexC_self]
  rfl
theorem index_in {N : Nat} {xs : List (List Int)} {st : List (Int × Int)} {a : List Int} (hx : xs.length ≤ 1048576) (hl : ∀ x ∈ xs, x.length ≤ 1048576) (ha : a ∈ xs) (hN : 1048577 ≤ N) :
    spec_l2Index N (xs, st) a = some ((((xs.idxOf a : Nat) : Int), ()), ()) := by
  unfold spec_l2Index
  simp only []
  have go : ∀ (d n K : Nat), n + d = xs.idxOf a → d < K → spec_l2Index_l0 N (fun x1 => some ((x1, ()), ())) (fun (_ : Unit) => some (((-1), ()), ())) K a (n : Int) xs st = some ((((xs.idxOf a : Nat) : Int), ()), ()) := by
    intro d
    induction d with
    | zero =>
      intro n K hd hK
      obtain ⟨k, rfl⟩ := succ_of hK
      have : n = xs.idxOf a := by omega
      subst this
      simp only [spec_l2Index_l0, ilt_len (idx_lt ha), br_t, inb_n (idx_lt ha), chk_t, idx_rd ha]
      rw [l1Same_eq (hl a ha) hN, bind_some', decide_eq_true rfl, br_t]
    | succ d ih =>
      intro n K hd hK
      obtain ⟨k, rfl⟩ := succ_of hK
      have hi := idx_lt ha
      have hn : n < xs.length := by omega
      have hne : ¬ rdL xs (n : Int) = a := by
        rw [rdL_n hn]
        intro e
        have := List.not_of_lt_findIdx (p := (· == a)) (xs := xs) (i := n) (by show n < xs.idxOf a; omega)
        simp [e] at this
      simp only [spec_l2Index_l0, ilt_len hn, br_t, inb_n hn, chk_t]
      rw [l1Same_eq (hl _ (by rw [rdL_n hn]; exact List.getElem_mem hn)) hN, bind_some', decide_eq_false hne, br_f, wrap_succ (by omega)]
      exact ih (n + 1) k (by omega) (by omega)
  have hi := idx_lt ha
  exact go (xs.idxOf a) 0 N (by omega) (by omega)
/-! ### The first way -/
noncomputable def fwdL (L : List (List Int)) (F : List Int) : Nat → Int → List Int
  | 0, _ => []
  | d + 1, x => ((nextW L F x).headD x) :: fwdL L F d ((nextW L F x).headD x)
theorem fwdL_len {L : List (List Int)} {F : List Int} : ∀ (d : Nat) (x : Int), (fwdL L F d x).length = d := by
  intro d
  induction d with
  | zero => intro x; rfl
  | succ d ih => intro x; simp [fwdL, ih]
theorem nbL_sym {n : Nat} {st : List (Int × Int)} (h : okSt n st) {y z : Int} (hy : InN n y) (hz : InN n z) (hm : z ∈ rdL (nbL n st) y) : y ∈ rdL (nbL n st) z := by
  rw [nbL_rd hy] at hm
  rw [nbL_rd hz]
  exact (mem_nbS h).2 ((mem_nbS h).1 hm).symm
theorem wl_in {L : List (List Int)} {m : Nat} {x : Int} (hl : okLists L m) (hx : InN m x) {k : Nat} {y : Int} (h : Wl L x k y) : InN m y := by
  induction h with
  | base => exact hx
  | step _ hz ih => exact (okL_row hl ih).2 _ hz
theorem next_some {n : Nat} {st : List (Int × Int)} (hn : n ≤ 1048576) (h : okSt n st) {t x : Int} (ht : InN n t) (hx : InN n x) {d : Nat} (hd : rdI (bfsD (nbL n st) n t) x = ((d + 1 : Nat) : Int)) :
    ∃ z q, nextW (nbL n st) (bfsD (nbL n st) n t) x = z :: q ∧ InN n z ∧ rdI (bfsD (nbL n st) n t) z = (d : Int) := by
  have hl := nbL_ok hn h
  obtain ⟨_, s2, s3, s4, s5, s6⟩ := bfsD_spec hl ht
  have hw := s5 x hx (by omega)
  have e1 : (rdI (bfsD (nbL n st) n t) x).toNat = d + 1 := by omega
  rw [e1] at hw
  have key : ∃ u, u ∈ nextW (nbL n st) (bfsD (nbL n st) n t) x := by
    cases hw with
    | @step _ u _ hu hz =>
      have hui := wl_in hl ht hu
      obtain ⟨_, u1, u2⟩ := s6 _ _ hu
      have hw2 := s5 u hui u1
      have := (s6 _ _ (Wl.step hw2 hz)).2.2
      refine ⟨u, List.mem_filter.2 ⟨nbL_sym h hui hx hz, decide_eq_true ?_⟩⟩
      omega
  obtain ⟨u, hu⟩ := key
  cases hq : nextW (nbL n st) (bfsD (nbL n st) n t) x with
  | nil => rw [hq] at hu; cases hu
  | cons z q =>
    have hz : z ∈ nextW (nbL n st) (bfsD (nbL n st) n t) x := by rw [hq]; exact List.mem_cons_self ..
    obtain ⟨z1, z2⟩ := List.mem_filter.1 hz
    have z2 := of_decide_eq_true z2
    exact ⟨z, q, rfl, (okL_row hl hx).2 _ z1, by omega⟩
theorem fwd_in {n : Nat} {st : List (Int × Int)} (hn : n ≤ 1048576) (h : okSt n st) {t : Int} (ht : InN n t) : ∀ (d : Nat) (x : Int), InN n x → rdI (bfsD (nbL n st) n t) x = (d : Int) → ∀ z ∈ fwdL (nbL n st) (bfsD (nbL n st) n t) d x, InN n z := by
  intro d
  induction d with
  | zero => intro x _ _ z hz; cases hz
  | succ d ih =>
    intro x hx hd z hz
    obtain ⟨u, q, h1, h2, h3⟩ := next_some hn h ht hx hd
    unfold fwdL at hz
    rw [h1] at hz
    rcases List.mem_cons.1 hz with rfl | hz
    · exact h2
    · exact ih _ h2 h3 z hz
theorem firstWay_in {R : Type} {N : Nat} {L : List (List Int)} {F : List Int} {x j y : Int} {q o : List Int} {kk : Int → Int → List (List Int) → List Int → List Int → Option R} {m : Nat} (hl : okLists L m) (hF : F.length = m) (hx : InN m x) (hb : 0 < rdI F x ∧ rdI F x < 1048576) (hm : m ≤ 1048576)
    (hq : nextW L F x = y :: q) (hN : 1048577 ≤ N) : impl_Space_firstWay_l0_0 N kk N x j x (tLen (rdL L x)) 0 L F o = kk y j L F o := by
  obtain ⟨hr1, hr2⟩ := okL_row hl hx
  have go : ∀ (r n K : Nat), n + r = (rdL L x).length → r < K → (((rdL L x).drop n).filter fun y => decide (rdI F y = rdI F x - 1)) = y :: q →
      impl_Space_firstWay_l0_0 N kk K x j x (tLen (rdL L x)) (n : Int) L F o = kk y j L F o := by
    intro r
    induction r with
    | zero =>
      intro n K hr hK hf
      rw [List.drop_of_length_le (by omega)] at hf
      cases hf
    | succ r ih =>
      intro n K hr hK hf
      obtain ⟨k, rfl⟩ := succ_of hK
      have hn : n < (rdL L x).length := by omega
      rw [drop_cons hn, List.filter_cons] at hf
      have hz := hr2 _ (List.getElem_mem hn)
      simp only [impl_Space_firstWay_l0_0, ilt_len hn, br_t, inb_n hn, chk_t, rdI_n hn]
      rw [inb_i hz.1 (by have := hz.2; omega), chk_t, inb_i hx.1 (by have := hx.2; omega), chk_t, wrap_ok (n := rdI F x - 1) (by omega) (by omega)]
      by_cases hc : rdI F (rdL L x)[n] = rdI F x - 1
      · rw [if_pos (by simp [hc])] at hf
        injection hf with h1 h2
        rw [ieq_t hc, br_t, h1]
      · rw [if_neg (by simp [hc])] at hf
        rw [ieq_f hc, br_f, wrap_succ (by omega)]
        exact ih (n + 1) k (by omega) (by omega) hf
  exact go (rdL L x).length 0 N (by omega) (by omega) hq
theorem wlk2_in {R : Type} {N : Nat} {L : List (List Int)} {F : List Int} {x j y : Int} {q o : List Int} {kk : Int → Int → Int → List (List Int) → List Int → List Int → Option R} {m : Nat} (hl : okLists L m) (hF : F.length = m) (hx : InN m x) (hb : 0 < rdI F x ∧ rdI F x < 1048576) (hm : m ≤ 1048576)
    (hq : nextW L F x = y :: q) (hN : 1048577 ≤ N) : ∃ v : Nat, v < (rdL L x).length ∧ rdI (rdL L x) (v : Int) = y ∧ spec_l2Walk_l0_0 N kk N x j 0 L F o = kk x j (v : Int) L F o := by
  obtain ⟨hr1, hr2⟩ := okL_row hl hx
  have go : ∀ (r n K : Nat), n + r = (rdL L x).length → r < K → (((rdL L x).drop n).filter fun y => decide (rdI F y = rdI F x - 1)) = y :: q →
      ∃ v : Nat, v < (rdL L x).length ∧ rdI (rdL L x) (v : Int) = y ∧ spec_l2Walk_l0_0 N kk K x j (n : Int) L F o = kk x j (v : Int) L F o := by
    intro r
    induction r with
    | zero =>
      intro n K hr hK hf
      rw [List.drop_of_length_le (by omega)] at hf
      cases hf
    | succ r ih =>
      intro n K hr hK hf
      obtain ⟨k, rfl⟩ := succ_of hK
      have hn : n < (rdL L x).length := by omega
      rw [drop_cons hn, List.filter_cons] at hf
      have hz := hr2 _ (List.getElem_mem hn)
      have hL : L.length = m := hl.1
      simp only [spec_l2Walk_l0_0, inb_n hn, rdI_n hn]
      rw [inb_i hx.1 (by have := hx.2; omega), chk_t, chk_t, inb_i hz.1 (by have := hz.2; omega), chk_t, inb_i hx.1 (by have := hx.2; omega), chk_t, wrap_ok (n := rdI F x - 1) (by omega) (by omega)]
      by_cases hc : rdI F (rdL L x)[n] = rdI F x - 1
      · rw [if_pos (by simp [hc])] at hf
        injection hf with h1 h2
        rw [ine_f hc, br_f]
        exact ⟨n, hn, by rw [rdI_n hn, h1], rfl⟩
      · rw [if_neg (by simp [hc])] at hf
        rw [ine_t hc, br_t, wrap_succ (by omega)]
        exact ih (n + 1) k (by omega) (by omega) hf
  exact go (rdL L x).length 0 N (by omega) (by omega) hq
noncomputable def wayI (xs : List (List Int)) (st : List (Int × Int)) (i j : Nat) : List Int :=
  if rdI (bfsD (nbL xs.length st) xs.length (j : Int)) (i : Int) < 0 then [] else (i : Int) :: fwdL (nbL xs.length st) (bfsD (nbL xs.length st) xs.length (j : Int)) (rdI (bfsD (nbL xs.length st) xs.length (j : Int)) (i : Int)).toNat (i : Int)
theorem wayI_in {xs : List (List Int)} {st : List (Int × Int)} {i j : Nat} (hn : xs.length ≤ 1048576) (h : okSt xs.length st) (hi : i < xs.length) (hj : j < xs.length) : ∀ z ∈ wayI xs st i j, InN xs.length z := by
  intro z hz
  unfold wayI at hz
  split at hz
  · cases hz
  · rename_i h0
    rcases List.mem_cons.1 hz with rfl | hz
    · exact in_nat hi
    · exact fwd_in hn h (in_nat hj) _ _ (in_nat hi) (by omega) z hz
theorem wayI_len {xs : List (List Int)} {st : List (Int × Int)} {i j : Nat} (hn : xs.length ≤ 1048576) (h : okSt xs.length st) (hi : i < xs.length) (hj : j < xs.length) : (wayI xs st i j).length ≤ xs.length := by
  have hl := nbL_ok hn h
  have := (bfsD_spec hl (in_nat hj)).2.2.1 (i : Int) (in_nat hi)
  unfold wayI
  split
  · simp
  · rw [List.length_cons, fwdL_len]
    omega
theorem firstWay_eq {N : Nat} {xs : List (List Int)} {st : List (Int × Int)} {i j : Nat} (hx : xs.length < 1024) (hs : st.length ≤ 1048576) (h : okSt xs.length st) (hi : i < xs.length) (hj : j < xs.length) (hN : 1048577 ≤ N) :
    impl_Space_firstWay N (xs, st) (i : Int) (j : Int) = some ((wayI xs st i j, decide (wayI xs st i j ≠ []), ()), ()) := by
  have hl := nbL_ok (n := xs.length) (by omega) h
  obtain ⟨s1, s2, s3, s4, s5, s6⟩ := bfsD_spec hl (in_nat hj)
  unfold impl_Space_firstWay wayI
  simp only []
  rw [sroads_eq hx hs h hN, bind_some']
  simp only []
  rw [spread_eq hl (by omega) (in_nat hj) hN, bind_some']
  simp only []
  rw [inb_n (by omega), chk_t]
  by_cases h0 : rdI (bfsD (nbL xs.length st) xs.length (j : Int)) (i : Int) < 0
  · rw [ilt_t h0, br_t, if_pos h0]
    rfl
  · rw [ilt_f h0, br_f, if_neg h0]
    have go : ∀ (d K : Nat) (x : Int) (o : List Int), d < K → InN xs.length x → rdI (bfsD (nbL xs.length st) xs.length (j : Int)) x = (d : Int) → o.length + d ≤ 1048576 →
        impl_Space_firstWay_l0 N (fun o => some ((o, true, ()), ())) K x (j : Int) (nbL xs.length st) (bfsD (nbL xs.length st) xs.length (j : Int)) o = some ((o ++ fwdL (nbL xs.length st) (bfsD (nbL xs.length st) xs.length (j : Int)) d x, true, ()), ()) := by
      intro d
      induction d with
      | zero =>
        intro K x o hK hxi hd ho
        obtain ⟨k, rfl⟩ := succ_of hK
        have := s4 x hxi hd
        simp only [impl_Space_firstWay_l0, ine_f this, br_f, fwdL, List.append_nil]
      | succ d ih =>
        intro K x o hK hxi hd ho
        obtain ⟨k, rfl⟩ := succ_of hK
        have hne : x ≠ (j : Int) := by rintro rfl; omega
        obtain ⟨z, q, h1, h2, h3⟩ := next_some (by omega) h (in_nat hj) hxi hd
        have h4 := s3 x hxi
        have h5 : (nbL xs.length st).length = xs.length := hl.1
        simp only [impl_Space_firstWay_l0, ine_t hne, br_t]
        rw [inb_i hxi.1 (by have := hxi.2; omega), chk_t, firstWay_in hl s1 hxi (by omega) (by omega) h1 hN, room_ok (by simp; omega), chk_t, tApp_d, ih k z _ (by omega) h2 h3 (by simp; omega), fwdL, h1, List.append_assoc]
        rfl
    have hlt := s3 (i : Int) (in_nat hi)
    have := go (rdI (bfsD (nbL xs.length st) xs.length (j : Int)) (i : Int)).toNat N (i : Int) [(i : Int)] (by omega) (in_nat hi) (by omega) (by simp; omega)
    rw [this]
    rfl
theorem l2Walk_eq {N : Nat} {xs : List (List Int)} {st : List (Int × Int)} {i j : Nat} (hx : xs.length < 1024) (hs : st.length ≤ 1048576) (h : okSt xs.length st) (hi : i < xs.length) (hj : j < xs.length) (hN : 1048577 ≤ N) :
    spec_l2Walk N (xs, st) (i : Int) (j : Int) = some ((wayI xs st i j, ()), ()) := by
  have hl := nbL_ok (n := xs.length) (by omega) h
  obtain ⟨s1, s2, s3, s4, s5, s6⟩ := bfsD_spec hl (in_nat hj)
  unfold spec_l2Walk wayI
  simp only []
  rw [l2Lists_eq (by omega) hs h hN, bind_some']
  simp only []
  rw [l2Spread_bfs hl (by omega) (in_nat hj) hN, bind_some']
  simp only []
  rw [inb_n (by omega), chk_t]
  by_cases h0 : rdI (bfsD (nbL xs.length st) xs.length (j : Int)) (i : Int) < 0
  · rw [ilt_t h0, br_t, if_pos h0]
  · rw [ilt_f h0, br_f, if_neg h0]
    have go : ∀ (d K : Nat) (x : Int) (o : List Int), d < K → InN xs.length x → rdI (bfsD (nbL xs.length st) xs.length (j : Int)) x = (d : Int) → o.length + d ≤ 1048576 →
        spec_l2Walk_l0 N (fun o => some ((o, ()), ())) K x (j : Int) (nbL xs.length st) (bfsD (nbL xs.length st) xs.length (j : Int)) o = some ((o ++ fwdL (nbL xs.length st) (bfsD (nbL xs.length st) xs.length (j : Int)) d x, ()), ()) := by
      intro d
      induction d with
      | zero =>
        intro K x o hK hxi hd ho
        obtain ⟨k, rfl⟩ := succ_of hK
        have := s4 x hxi hd
        simp only [spec_l2Walk_l0, ine_f this, br_f, fwdL, List.append_nil]
      | succ d ih =>
        intro K x o hK hxi hd ho
        obtain ⟨k, rfl⟩ := succ_of hK
        have hne : x ≠ (j : Int) := by rintro rfl; omega
        obtain ⟨z, q, h1, h2, h3⟩ := next_some (by omega) h (in_nat hj) hxi hd
        have h4 := s3 x hxi
        have h5 : (nbL xs.length st).length = xs.length := hl.1
        simp only [spec_l2Walk_l0, ine_t hne, br_t]
        obtain ⟨v, v1, v2, v3⟩ := wlk2_in (R := (List Int × Unit) × Unit) (o := o) (j := (j : Int)) (kk := fun i2 j2 kv o3 o4 o5 => (chk (inb o3 i2) (chk (inb (rdL o3 i2) kv) (chk (room o5 [(rdI (rdL o3 i2) kv)]) (spec_l2Walk_l0 N (fun o => some ((o, ()), ())) k (rdI (rdL o3 i2) kv) j2 o3 o4 (tApp o5 [(rdI (rdL o3 i2) kv)])))))) hl s1 hxi (by omega) (by omega) h1 hN
        rw [v3, inb_i hxi.1 (by have := hxi.2; omega), chk_t, inb_n v1, chk_t, v2, room_ok (by simp; omega), chk_t, tApp_d, ih k z _ (by omega) h2 h3 (by simp; omega), fwdL, h1, List.append_assoc]
        rfl
    have hlt := s3 (i : Int) (in_nat hi)
    have := go (rdI (bfsD (nbL xs.length st) xs.length (j : Int)) (i : Int)).toNat N (i : Int) [(i : Int)] (by omega) (in_nat hi) (by omega) (by simp; omega)
    rw [this]
    rfl
noncomputable def wayS (xs : List (List Int)) (st : List (Int × Int)) (a b : List Int) : List (List Int) := (wayI xs st (xs.idxOf a) (xs.idxOf b)).map (rdL xs)
theorem wayS_len {xs : List (List Int)} {st : List (Int × Int)} {a b : List Int} (hn : xs.length ≤ 1048576) (h : okSt xs.length st) (ha : a ∈ xs) (hb : b ∈ xs) : (wayS xs st a b).length ≤ xs.length := by
  unfold wayS
  rw [List.length_map]
  exact wayI_len hn h (idx_lt ha) (idx_lt hb)
theorem wayS_in {xs : List (List Int)} {st : List (Int × Int)} {a b : List Int} (hn : xs.length ≤ 1048576) (h : okSt xs.length st) (ha : a ∈ xs) (hb : b ∈ xs) : ∀ s ∈ wayS xs st a b, s ∈ xs := by
  intro s hs
  obtain ⟨z, hz, rfl⟩ := List.mem_map.1 hs
  obtain ⟨k, hk, rfl⟩ := nat_of (wayI_in hn h (idx_lt ha) (idx_lt hb) z hz)
  rw [rdL_n hk]
  exact List.getElem_mem hk
theorem walk_eq {N : Nat} {xs : List (List Int)} {st : List (Int × Int)} {a b : List Int} (hs : lexSorted xs) (hl : ∀ x ∈ xs, x.length ≤ 1048576) (hx : xs.length < 1024) (hst : st.length ≤ 1048576) (h : okSt xs.length st) (ha : a ∈ xs) (hb : b ∈ xs) (hN : 1048577 ≤ N) :
    impl_Space_walk N (xs, st) a b = some ((wayS xs st a b, decide (wayS xs st a b ≠ []), ()), ()) := by
  have hne : decide (wayS xs st a b ≠ []) = decide (wayI xs st (xs.idxOf a) (xs.idxOf b) ≠ []) := by
    unfold wayS
    cases wayI xs st (xs.idxOf a) (xs.idxOf b) <;> simp
  have hin := wayI_in (by omega) h (idx_lt ha) (idx_lt hb)
  have hlen := wayI_len (by omega) h (idx_lt ha) (idx_lt hb)
  unfold impl_Space_walk
  rw [place_in hs (by omega) hl ha hN, place_in hs (by omega) hl hb hN, bind_some', bind_some']
  simp only [Bool.not_true, br_f]
  rw [firstWay_eq hx hst h (idx_lt ha) (idx_lt hb) hN, bind_some', hne]
  simp only []
  generalize decide (wayI xs st (xs.idxOf a) (xs.idxOf b) ≠ []) = ok
  unfold wayS
  generalize wayI xs st (xs.idxOf a) (xs.idxOf b) = w at hin hlen
  have go : ∀ (d n K : Nat) (o : List (List Int)), n + d = w.length → d < K → o.length ≤ n →
      impl_Space_walk_l0 N (fun ok o => some ((o, ok, ()), ())) K ok (tLen w) (n : Int) xs st o w = some ((o ++ (w.drop n).map (rdL xs), ok, ()), ()) := by
    intro d
    induction d with
    | zero =>
      intro n K o hd hK ho
      obtain ⟨k, rfl⟩ := succ_of hK
      simp only [impl_Space_walk_l0, ilt_lenf (show ¬ n < w.length by omega), br_f]
      rw [List.drop_of_length_le (by omega)]
      simp
    | succ d ih =>
      intro n K o hd hK ho
      obtain ⟨k, rfl⟩ := succ_of hK
      have hn : n < w.length := by omega
      have hz := hin _ (List.getElem_mem hn)
      obtain ⟨z, hz1, hz2⟩ := nat_of hz
      simp only [impl_Space_walk_l0, ilt_len hn, br_t, inb_n hn, chk_t, rdI_n hn]
      rw [hz2, inb_n hz1, chk_t, Clone_eq (hl _ (by rw [rdL_n hz1]; exact List.getElem_mem hz1)), bind_some', room_ok (by simp; omega), chk_t, wrap_succ (by omega), tApp_d, ih (n + 1) k _ (by omega) (by omega) (by simp; omega), drop_cons hn, List.map_cons, hz2, List.append_assoc]
      rfl
  have := go w.length 0 N [] (by omega) (by omega) (Nat.zero_le _)
  simpa using this
theorem l3Walk_eq {N : Nat} {xs : List (List Int)} {st : List (Int × Int)} {a b : List Int} (hl : ∀ x ∈ xs, x.length ≤ 1048576) (hx : xs.length < 1024) (hst : st.length ≤ 1048576) (h : okSt xs.length st) (ha : a ∈ xs) (hb : b ∈ xs) (hN : 1048577 ≤ N) :
    spec_l3Walk N (xs, st) a b = some ((wayS xs st a b, ()), ()) := by
  have hin := wayI_in (by omega) h (idx_lt ha) (idx_lt hb)
  have hlen := wayI_len (by omega) h (idx_lt ha) (idx_lt hb)
  unfold spec_l3Walk
  rw [index_in (by omega) hl ha hN, index_in (by omega) hl hb hN, bind_some', bind_some']
  simp only []
  rw [ilt_f (by omega), br_f, ilt_f (by omega), br_f, l2Walk_eq hx hst h (idx_lt ha) (idx_lt hb) hN, bind_some']
  simp only []
  unfold wayS
  generalize wayI xs st (xs.idxOf a) (xs.idxOf b) = w at hin hlen
  have go : ∀ (d n K : Nat) (o : List (List Int)), n + d = w.length → d < K → o.length ≤ n →
      spec_l3Walk_l0 N (fun o => some ((o, ()), ())) K (n : Int) xs st o w = some ((o ++ (w.drop n).map (rdL xs), ()), ()) := by
    intro d
    induction d with
    | zero =>
      intro n K o hd hK ho
      obtain ⟨k, rfl⟩ := succ_of hK
      simp only [spec_l3Walk_l0, ilt_lenf (show ¬ n < w.length by omega), br_f]
      rw [List.drop_of_length_le (by omega)]
      simp
    | succ d ih =>
      intro n K o hd hK ho
      obtain ⟨k, rfl⟩ := succ_of hK
      have hn : n < w.length := by omega
      have hz := hin _ (List.getElem_mem hn)
      obtain ⟨z, hz1, hz2⟩ := nat_of hz
      simp only [spec_l3Walk_l0, ilt_len hn, br_t, inb_n hn, chk_t, rdI_n hn]
      rw [hz2, inb_n hz1, chk_t, l1Own_eq (hl _ (by rw [rdL_n hz1]; exact List.getElem_mem hz1)), bind_some', room_ok (by simp; omega), chk_t, wrap_succ (by omega), tApp_d, ih (n + 1) k _ (by omega) (by omega) (by simp; omega), drop_cons hn, List.map_cons, hz2, List.append_assoc]
      rfl
  have := go w.length 0 N [] (by omega) (by omega) (Nat.zero_le _)
  simpa using this
theorem moreC_pre {k : Nat} {es : List (Int × Int)} : ∀ (d : Nat) (b : List Int) (l : List (List Int)), ∃ t, moreC k es d b l = l ++ t := by
  intro d
  induction d with
  | zero => intro b l; exact ⟨[b], rfl⟩
  | succ d ih =>
    intro b l
    unfold moreC
    refine stepsC_inv (p := fun l' => ∃ t, l' = l ++ t) (fun c l' _ ⟨t, ht⟩ => ?_) k 0 l ⟨[], by simp⟩
    by_cases hf : freeC es b (c : Int)
    · rw [if_pos hf]
      obtain ⟨t2, h2⟩ := ih (b ++ [(c : Int)]) l'
      exact ⟨t ++ t2, by rw [h2, ht, List.append_assoc]⟩
    · rw [if_neg hf]; exact ⟨t, ht⟩
theorem stepsC_mem {f : Nat → List (List Int) → List (List Int)} (hf : ∀ c l, ∃ t, f c l = l ++ t) {x : List Int} {c0 : Nat} (hx : ∀ l, (f c0 l).length ≤ 300 → x ∈ f c0 l) : ∀ (r c : Nat) (l : List (List Int)), c ≤ c0 → c0 < c + r → (stepsC f r c l).length ≤ 300 → x ∈ stepsC f r c l := by
  have mono : ∀ (r c : Nat) (l : List (List Int)), ∃ t, stepsC f r c l = l ++ t := fun r c l =>
    stepsC_inv (p := fun l' => ∃ t, l' = l ++ t) (fun c l' _ ⟨t, ht⟩ => by
      obtain ⟨t2, h2⟩ := hf c l'
      exact ⟨t ++ t2, by rw [h2, ht, List.append_assoc]⟩) r c l ⟨[], by simp⟩
  intro r
  induction r with
  | zero => intro c l h1 h2; omega
  | succ r ih =>
    intro c l h1 h2 h3
    have hl : l.length ≤ 300 := by
      obtain ⟨t, ht⟩ := mono (r + 1) c l
      rw [ht] at h3
      simp at h3
      omega
    unfold stepsC at h3 ⊢
    rw [if_pos hl] at h3 ⊢
    by_cases hc : c = c0
    · subst hc
      obtain ⟨t, ht⟩ := mono r (c + 1) (f c l)
      rw [ht] at h3 ⊢
      rw [List.length_append] at h3
      exact List.mem_append_left _ (hx l (by omega))
    · exact ih (c + 1) (f c l) (by omega) (by omega) h3
theorem moreC_mem {k : Nat} {es : List (Int × Int)} {a : List Int} (ha : ∀ z ∈ a, 0 ≤ z ∧ z < (k : Int)) (hp : ∀ i : Nat, i < a.length → freeC es (a.take i) (rdI a (i : Int))) : ∀ (d i : Nat) (l : List (List Int)), i + d = a.length → (moreC k es d (a.take i) l).length ≤ 300 → a ∈ moreC k es d (a.take i) l := by
  intro d
  induction d with
  | zero =>
    intro i l hi _
    unfold moreC
    rw [List.take_of_length_le (by omega)]
    simp
  | succ d ih =>
    intro i l hi hl
    unfold moreC at hl ⊢
    have hil : i < a.length := by omega
    have hz := ha a[i] (List.getElem_mem hil)
    have hri : rdI a (i : Int) = a[i] := rdI_n hil
    obtain ⟨c0, hc0⟩ : ∃ c0 : Nat, a[i] = (c0 : Int) := ⟨a[i].toNat, by omega⟩
    have hfree := hp i hil
    rw [hri, hc0] at hfree
    refine stepsC_mem (c0 := c0) (fun c l => ?_) (fun l' hl' => ?_) k 0 l (Nat.zero_le _) (by omega) hl
    · by_cases hf : freeC es (a.take i) (c : Int)
      · simp only [if_pos hf]; exact moreC_pre ..
      · simp only [if_neg hf]; exact ⟨[], by simp⟩
    · simp only [if_pos hfree] at hl' ⊢
      have e : a.take i ++ [(c0 : Int)] = a.take (i + 1) := by rw [List.take_add_one, List.getElem?_eq_getElem hil, hc0]; rfl
      rw [e] at hl' ⊢
      exact ih (i + 1) l' (by omega) hl'
theorem mem_allC {g : Int × List (Int × Int)} {k : Int} {a : List Int} (hk : colCase g k) (hl : (allC g k).length ≤ 300) (h : proper g k a) : a ∈ allC g k := by
  obtain ⟨h1, h2, h3⟩ := h
  have hk2 := hk.2
  have hg := hk.1.1
  unfold allC at hl ⊢
  have := moreC_mem (k := k.toNat) (es := g.2) (a := a) (fun z hz => by have := h2 z hz; omega) (fun i hi y hy hc => by
    have hy' : y < i := by simp at hy; omega
    obtain ⟨e1, e2⟩ := hc
    rw [rdI_take hy' (by omega)] at e1
    have hlen : (a.take i).length = i := by simp; omega
    rw [hlen] at e2
    rcases e2 with e2 | e2
    · exact h3 _ e2 e1
    · exact h3 _ e2 e1.symm) g.1.toNat 0 [] (by omega) hl
  exact this
theorem isColoured_eq {N : Nat} {g : Int × List (Int × Int)} {k : Int} {ls : List (List Int)} (hx : g.2.length ≤ 1048576) (hls : ∀ l ∈ ls, l.length ≤ 1048576) (hl : ls.length ≤ 1000) (hN : 1048577 ≤ N) : impl_isColoured N g k ls = some ((decide (colCase g k ∧ ∀ l ∈ ls, proper g k l), ()), ()) := by
  unfold impl_isColoured
  simp only [isColourCase_eq hx hN, bind_some']
  by_cases h1 : colCase g k
  · rw [decide_eq_true h1, br_t, ContainsFunc_LLI_LI_eq (g := fun c => !decide (proper g k c)) (fun c h => by
      have := impl_isColouring_eq h1 hx (hls c h) hN
      simp only [impl_isColoured_c1, this, bind_some']) (by omega) (by omega)]
    simp only [bind_some']
    congr 3
    rw [not_any]
    refine decide_eq_decide.2 ⟨fun h => ⟨h1, fun l hl => ?_⟩, fun h l hl => ?_⟩
    · have := h l hl
      simpa using this
    · have := h.2 l hl
      simpa using this
  · rw [decide_eq_false h1, br_f, decide_eq_false (fun h => h1 h.1)]
theorem l5Given_eq {N : Nat} {g : Int × List (Int × Int)} {k : Int} {a : List Int} (hx : g.2.length ≤ 1048576) (ha : a.length ≤ 1048576) (hN : 1048577 ≤ N) : spec_l5Given N g k a = some ((decide (colCase g k ∧ proper g k a), ()), ()) := by
  unfold spec_l5Given
  simp only [l5Ask_eq hx hN, bind_some']
  by_cases h1 : colCase g k
  · rw [decide_eq_true h1, br_t, l5Proper_eq h1 hx ha hN, bind_some']
    congr 3
    exact decide_eq_decide.2 ⟨fun h => ⟨h1, h⟩, fun h => h.2⟩
  · rw [decide_eq_false h1, br_f, decide_eq_false (fun h => h1 h.1)]
theorem l5Space_ch {N : Nat} {g : Int × List (Int × Int)} {k : Int} (hx : g.2.length ≤ 1048576) (hN : 1048577 ≤ N) : spec_l5Space N g k false = some (((colSpV g k).1, (colSpV g k).2, ()), ()) := by
  unfold spec_l5Space colSpV
  simp only [show ((g.1, g.2) : Int × List (Int × Int)) = g from rfl]
  rw [l5All_eq hx hN, bind_some']
  unfold colsR
  by_cases h : colCase g k ∧ (allC g k).length ≤ 300
  · rw [if_pos h, if_pos h]
    have hr := allC_rows (g := g) (k := k)
    have hg := h.1.1.1
    simp only [Bool.not_true, br_f]
    rw [l5Space_loop (p := isCh) (fun a ha b hb => ?_) (by omega) hN]
    have e1 := hr a ha
    have e2 := hr b hb
    unfold spec_l5Step
    rw [l5Changed_ap (by omega) (by omega) hN, bind_some']
    rw [Bool.not_false, br_t]
    congr 3
    unfold isCh
    by_cases h1 : (apartL a b).length = 1
    · rw [decide_eq_true h1]; exact ieq_t (by simp only [tLen_n]; omega)
    · rw [decide_eq_false h1]; exact ieq_f (by simp only [tLen_n]; omega)
  · rw [if_neg h, if_neg h]
    rfl
theorem impl_ColSp {N : Nat} {g : Int × List (Int × Int)} {k : Int} (hx : g.2.length ≤ 1048576) (hN : 1048577 ≤ N) : impl_ColourSpace N g k = some (((colSpV g k).1, (colSpV g k).2, ()), ()) := by
  unfold impl_ColourSpace colSpV
  simp only [show ((g.1, g.2) : Int × List (Int × Int)) = g from rfl]
  rw [colourings_eq hx hN, bind_some']
  unfold colsR
  by_cases h : colCase g k ∧ (allC g k).length ≤ 300
  · rw [if_pos h, if_pos h]
    obtain ⟨s1, s2⟩ := allC_sorted g k
    have hr := allC_rows (g := g) (k := k)
    have hg := h.1.1.1
    have hst := colSteps_le h.1 h.2
    have hr8 : ∀ x ∈ allC g k, x.length ≤ 8 := fun x hx => by have := hr x hx; omega
    simp only [Bool.not_true, br_f]
    rw [spaceOf_eq (p := isCh) s1 (fun x hx => by have := hr8 x hx; omega) (by omega) (fun a ha b hb => ?_) hN, bind_some']
    · simp only []
      rw [orNone_eq (by simp only []; omega) (by simp only []; omega), bind_some']
    · have e1 := hr a ha
      have e2 := hr b hb
      show (impl_isChange N a b).bind _ = _
      rw [isChange_eq (by omega) (by omega) hN]
      rfl
  · rw [if_neg h, if_neg h]
    rfl
noncomputable def cwalkV (p : List Int → List Int → Bool) (g : Int × List (Int × Int)) (k : Int) (a b : List Int) : List (List Int) × Bool :=
  if (colCase g k ∧ proper g k a ∧ proper g k b) ∧ (allC g k).length ≤ 300 then (wayS (allC g k) (stepsL p (allC g k)) a b, decide (wayS (allC g k) (stepsL p (allC g k)) a b ≠ [])) else ([], false)
theorem cwalkV_ok (p : List Int → List Int → Bool) (g : Int × List (Int × Int)) (k : Int) (a b : List Int) : (cwalkV p g k a b).1.length ≤ 300 ∧ ∀ x ∈ (cwalkV p g k a b).1, x.length ≤ 8 := by
  unfold cwalkV
  split
  · rename_i h
    obtain ⟨⟨h1, h2, h3⟩, h4⟩ := h
    have ha := mem_allC h1 h4 h2
    have hb := mem_allC h1 h4 h3
    have hg := h1.1.1
    refine ⟨Nat.le_trans (wayS_len (by omega) stepsL_ok ha hb) h4, fun x hx => ?_⟩
    have := allC_rows x (wayS_in (by omega) stepsL_ok ha hb x hx)
    omega
  · simp
theorem l5Walk_eq {N : Nat} {g : Int × List (Int × Int)} {k : Int} {a b : List Int} {kempe : Bool} {p : List Int → List Int → Bool} (hx : g.2.length ≤ 1048576) (ha : a.length ≤ 1048576) (hb : b.length ≤ 1048576) (hN : 1048577 ≤ N)
    (hsp : spec_l5Space N g k kempe = some ((if colCase g k ∧ (allC g k).length ≤ 300 then ((allC g k, stepsL p (allC g k)), true, ()) else (([], []), false, ())), ())) (hst : colCase g k → (allC g k).length ≤ 300 → (stepsL p (allC g k)).length ≤ 1048576) :
    spec_l5Walk N g k kempe a b = some (((cwalkV p g k a b).1, (cwalkV p g k a b).2, ()), ()) := by
  unfold spec_l5Walk cwalkV
  simp only [show ((g.1, g.2) : Int × List (Int × Int)) = g from rfl]
  rw [l5Given_eq hx ha hN, bind_some']
  by_cases h1 : colCase g k ∧ proper g k a
  · rw [decide_eq_true h1]
    simp only [Bool.not_true, br_f]
    rw [l5Proper_eq h1.1 hx hb hN, bind_some']
    by_cases h2 : proper g k b
    · rw [decide_eq_true h2]
      simp only [Bool.not_true, br_f]
      rw [hsp, bind_some']
      by_cases h3 : (allC g k).length ≤ 300
      · rw [if_pos ⟨h1.1, h3⟩, if_pos ⟨⟨h1.1, h1.2, h2⟩, h3⟩]
        simp only [Bool.not_true, br_f]
        have hg := h1.1.1.1
        rw [l3Walk_eq (fun x hx => by have := allC_rows x hx; omega) (by omega) (hst h1.1 h3) stepsL_ok (mem_allC h1.1 h3 h1.2) (mem_allC h1.1 h3 h2) hN, bind_some']
        simp only [spec_l3Told, bind_some']
        congr 3
        rw [tLen_n]
        cases wayS (allC g k) (stepsL p (allC g k)) a b with
        | nil => rfl
        | cons z l => rw [ilt_t (by rw [List.length_cons]; omega)]; simp
      · rw [if_neg (fun h => h3 h.2), if_neg (fun h => h3 h.2)]
        rfl
    · rw [decide_eq_false h2, if_neg (fun h => h2 h.1.2.2)]
      rfl
  · rw [decide_eq_false h1, if_neg (fun h => h1 ⟨h.1.1, h.1.2.1⟩)]
    rfl
theorem impl_cwalk {N : Nat} {g : Int × List (Int × Int)} {k : Int} {a b : List Int} {p : List Int → List Int → Bool} (hx : g.2.length ≤ 1048576) (ha : a.length ≤ 1048576) (hb : b.length ≤ 1048576) (hN : 1048577 ≤ N) (hst : colCase g k → (allC g k).length ≤ 300 → (stepsL p (allC g k)).length ≤ 1048576) :
    (br (!(if colCase g k ∧ (allC g k).length ≤ 300 then ((allC g k, stepsL p (allC g k)), true) else (([], []), false)).2) (some (([], false, ()), ()))
      (((impl_isColoured N g k [a, b]).bind fun r1 => (br (!r1.1.1) (some (([], false, ()), ()))
          (((impl_Space_walk N (if colCase g k ∧ (allC g k).length ≤ 300 then ((allC g k, stepsL p (allC g k)), true) else (([], []), false)).1 a b).bind fun r2 =>
            some ((r2.1.1, r2.1.2.1, ()), ()))))))) = some (((cwalkV p g k a b).1, (cwalkV p g k a b).2, ()), ()) := by
  unfold cwalkV
  by_cases h3 : colCase g k ∧ (allC g k).length ≤ 300
  · rw [if_pos h3]
    simp only [Bool.not_true, br_f]
    rw [isColoured_eq hx (fun l hl => by simp at hl; rcases hl with rfl | rfl <;> assumption) (by simp) hN, bind_some']
    by_cases h1 : proper g k a ∧ proper g k b
    · rw [decide_eq_true (show colCase g k ∧ ∀ l ∈ [a, b], proper g k l from ⟨h3.1, fun l hl => by simp at hl; rcases hl with rfl | rfl <;> simp [h1]⟩), if_pos ⟨⟨h3.1, h1.1, h1.2⟩, h3.2⟩]
      simp only [Bool.not_true, br_f]
      have hg := h3.1.1.1
      rw [walk_eq (allC_sorted g k).1 (fun x hx => by have := allC_rows x hx; omega) (by omega) (hst h3.1 h3.2) stepsL_ok (mem_allC h3.1 h3.2 h1.1) (mem_allC h3.1 h3.2 h1.2) hN, bind_some']
    · rw [decide_eq_false (show ¬ (colCase g k ∧ ∀ l ∈ [a, b], proper g k l) from fun h => h1 ⟨h.2 a (by simp), h.2 b (by simp)⟩), if_neg (fun h => h1 ⟨h.1.2.1, h.1.2.2⟩)]
      rfl
  · rw [if_neg h3, if_neg (fun h => h3 ⟨h.1.1, h.2⟩)]
    rfl
theorem Recolour_both {N : Nat} {g : Int × List (Int × Int)} {k : Int} {a b : List Int} (hx : g.2.length ≤ 1048576) (ha : a.length ≤ 1048576) (hb : b.length ≤ 1048576) (hN : 1048577 ≤ N) :
    spec_RecolourWalk N g k a b = some (((cwalkV isCh g k a b).1, (cwalkV isCh g k a b).2, ()), ()) ∧ impl_RecolourWalk N g k a b = some (((cwalkV isCh g k a b).1, (cwalkV isCh g k a b).2, ()), ()) := by
  have hst : colCase g k → (allC g k).length ≤ 300 → (stepsL isCh (allC g k)).length ≤ 1048576 := fun h1 h2 => by have := colSteps_le h1 h2; omega
  constructor
  · unfold spec_RecolourWalk
    simp only [show ((g.1, g.2) : Int × List (Int × Int)) = g from rfl]
    rw [l5Walk_eq (p := isCh) hx ha hb hN (by rw [l5Space_ch hx hN]; unfold colSpV; split <;> rfl) hst, bind_some']
  · unfold impl_RecolourWalk
    simp only [show ((g.1, g.2) : Int × List (Int × Int)) = g from rfl]
    rw [impl_ColSp hx hN, bind_some']
    exact impl_cwalk hx ha hb hN hst
theorem RecolourWalk_pure {g : Int × List (Int × Int)} {k : Int} {a b : List Int} (hx : g.2.length ≤ 9223372036854775807) : laws_FnExactRecolourWalk 1048577 g k a b = some ((true, ()), ()) := by
  unfold laws_FnExactRecolourWalk
  have hN : 1048577 ≤ 1048577 := Nat.le_refl _
  rw [tLen_n, tLen_n]
  by_cases ha : a.length ≤ 1048576
  · rw [ilt_f (by omega), br_f]
    by_cases hb : b.length ≤ 1048576
    · rw [ilt_f (by omega), br_f]
      obtain ⟨r, h1, h2⟩ := szGraph_eq (N := 1048577) hx
      simp only [h1, bind_some']
      by_cases h : 0 ≤ r
      · rw [ilt_f (by omega), br_f]
        have h3 := h2 h
        obtain ⟨e1, e2⟩ := Recolour_both (N := 1048577) (k := k) h3 ha hb hN
        obtain ⟨c1, c2⟩ := cwalkV_ok isCh g k a b
        have k0 : (0 : Int) ≤ 1 ∧ (1 : Int) ≤ 1152921504606846976 := by omega
        have c3 : ∀ x ∈ (cwalkV isCh g k a b).1, x.length ≤ 1048576 := fun x hx => by have := c2 x hx; omega
        have c4 := sumL_le c3
        obtain ⟨g', hmk⟩ := markGraph_eq (N := 1048577) k0 h3 hN
        have k1 : (0 : Int) ≤ 1 + 2 * (g.2.length : Int) ∧ 1 + 2 * (g.2.length : Int) ≤ 2305843009213693952 := by omega
        have k2 : (0 : Int) ≤ 1 + 2 * (g.2.length : Int) + (a.length : Int) ∧ 1 + 2 * (g.2.length : Int) + (a.length : Int) ≤ 2305843009213693952 := by omega
        simp only [toGraph_eq h3 hN, toIntS_eq ha hN, toIntS_eq hb hN, bind_some', e1, e2, eqGraph_eq h3 hN, eqIntS_eq (show a.length ≤ 1099511627776 by omega) (show a.length < 1048577 by omega), eqIntS_eq (show b.length ≤ 1099511627776 by omega) (show b.length < 1048577 by omega), eqIntSS_eq (show (cwalkV isCh g k a b).1.length ≤ 1048576 by omega) c3 hN, decide_true, Bool.not_true, br_f, hmk,
          markIntS_eq k1 ha hN, markIntS_eq k2 hb hN, ilt_f (show ¬ 1 + 2 * (g.2.length : Int) + (a.length : Int) + (b.length : Int) < 0 by omega),
          markIntSS_eq k0 (show (cwalkV isCh g k a b).1.length ≤ 1048576 by omega) c3 hN, heldIntSS_eq k0 (show (cwalkV isCh g k a b).1.length ≤ 1048576 by omega) c3 hN, ilt_f (show ¬ 1 + sumL (cwalkV isCh g k a b).1 < 0 by omega), ine_f (rfl : 1 + sumL (cwalkV isCh g k a b).1 = 1 + sumL (cwalkV isCh g k a b).1)]
        simp [br_ite]
      · rw [ilt_t (by omega), br_t]
    · rw [ilt_t (by omega), br_t]
  · rw [ilt_t (by omega), br_t]
theorem RecolourWalk_pureT : ∀ x : argsT (psOf [QILQII, I, LI, LI]), WfA [QILQII, I, LI, LI] x → ∃ k m, (laws_FnExactRecolourWalk_S k).f x = some ((true, ()), m) :=
  fun x h => ⟨1048577, (), RecolourWalk_pure (len_ok h.1.2.1)⟩
end Go.Proofs.YtgelipdkheahdaaGreat
