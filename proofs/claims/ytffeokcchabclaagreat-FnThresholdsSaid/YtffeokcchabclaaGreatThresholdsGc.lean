/- Statements on data alone. -/
import Derived.Test.YtffeokcchabclaaGreatPvPure
import Derived.Test.YtffeokcchabclaaGreatThresholdsGb
set_option linter.all false
set_option linter.all false
namespace Go.Proofs.YtffeokcchabclaaGreat
open Go Go.PV Classical
theorem mid_eq {i j : Nat} (h : i + j < 4611686018427387904) : IntKind.i64.wrap (shrI .u64 (IntKind.u64.wrap (IntKind.i64.wrap ((i : Int) + (j : Int)))) 1) = (((i + j) / 2 : Nat) : Int) := by
  have e : (i : Int) + (j : Int) = ((i + j : Nat) : Int) := by omega
  rw [e, wrap_ok (n := ((i + j : Nat) : Int)) (by omega) (by omega), wrap64 (by omega)]
  have e2 : shrI .u64 ((i + j : Nat) : Int) 1 = (((i + j) / 2 : Nat) : Int) := by
    show ((i + j : Nat) : Int).fdiv (2 ^ (min 1 64)) = _
    rw [Int.fdiv_eq_ediv_of_nonneg _ (by decide)]
    show ((i + j : Nat) : Int) / 2 = _
    omega
  rw [e2, wrap_ok (by omega) (by omega)]
theorem bin_eq {R : Type} {N : Nat} {xs : List (List Int)} {a : List Int} {t : Nat} {len : Int} {k0 : List (List Int) → List Int → (List Int → List Int → Option Int) → Int → Int → Option R} (hx : xs.length ≤ 1048576) (hl : ∀ x ∈ xs, x.length ≤ 1048576) (ha : a.length ≤ 1048576) (hN : 1048577 ≤ N)
    (hlo : ∀ k : Nat, k < t → k < xs.length → lexC (rdL xs (k : Int)) a < 0) (hhi : ∀ k : Nat, t ≤ k → k < xs.length → ¬ lexC (rdL xs (k : Int)) a < 0) : ∀ (d i j K : Nat), j - i ≤ d → d < K → i ≤ t → t ≤ j → j ≤ xs.length →
      Zq65_l0 N k0 K xs a (fun y0 y1 => (Zq67 N y0 y1).bind fun z => some z.1.1) len (i : Int) (j : Int) = k0 xs a (fun y0 y1 => (Zq67 N y0 y1).bind fun z => some z.1.1) len (t : Int) := by
  intro d
  induction d with
  | zero =>
    intro i j K hd hK hi hj hjx
    obtain ⟨k, rfl⟩ := succ_of hK
    have : i = t := by omega
    subst this
    simp only [Zq65_l0, ilt_nf (show ¬ i < j by omega), br_f]
  | succ d ih =>
    intro i j K hd hK hi hj hjx
    obtain ⟨k, rfl⟩ := succ_of hK
    by_cases hij : i < j
    · have hm : (i + j) / 2 < xs.length := by omega
      simp only [Zq65_l0, ilt_n hij, br_t, mid_eq (show i + j < 4611686018427387904 by omega), inb_n hm, chk_t]
      rw [Compare_lex (hl _ (by rw [rdL_n hm]; exact List.getElem_mem hm)) ha hN, bind_some', bind_some']
      simp only []
      by_cases hc : lexC (rdL xs (((i + j) / 2 : Nat) : Int)) a < 0
      · rw [ilt_t hc, br_t, wrap_succ (by omega)]
        refine ih ((i + j) / 2 + 1) j k (by omega) (by omega) ?_ hj hjx
        by_cases h : t ≤ (i + j) / 2
        · exact absurd hc (hhi _ h hm)
        · omega
      · rw [ilt_f hc, br_f]
        refine ih i ((i + j) / 2) k (by omega) (by omega) hi ?_ (by omega)
        by_cases h : (i + j) / 2 < t
        · exact absurd (hlo _ h hm) hc
        · omega
    · have : i = t := by omega
      subst this
      simp only [Zq65_l0, ilt_nf hij, br_f]
theorem idx_lt {xs : List (List Int)} {a : List Int} (h : a ∈ xs) : xs.idxOf a < xs.length := List.idxOf_lt_length_iff.2 h
theorem idx_rd {xs : List (List Int)} {a : List Int} (h : a ∈ xs) : rdL xs ((xs.idxOf a : Nat) : Int) = a := by
  rw [rdL_n (idx_lt h)]
  exact List.getElem_idxOf (idx_lt h)
theorem place_in {N : Nat} {xs : List (List Int)} {st : List (Int × Int)} {a : List Int} (hs : lexSorted xs) (hx : xs.length ≤ 1048576) (hl : ∀ x ∈ xs, x.length ≤ 1048576) (ha : a ∈ xs) (hN : 1048577 ≤ N) :
    Zq27 N (xs, st) a = some ((((xs.idxOf a : Nat) : Int), true, ()), ()) := by
  have hp := List.pairwise_iff_getElem.1 hs
  have hi := idx_lt ha
  have ht : xs[xs.idxOf a] = a := List.getElem_idxOf hi
  have hal := hl a ha
  unfold Zq27 Zq65
  simp only []
  have := bin_eq (N := N) (len := tLen xs) (t := xs.idxOf a) (k0 := fun x1 target1 cmp1 n i => (br (ilt i n) ((chk (inb x1 i) ((cmp1 (rdL x1 i) target1).bind fun v => some ((i, (ieq v 0), ()), ())))) (some ((i, false, ()), ())))) hx hl hal hN (fun k hk hkx => by
    have := hp k _ hkx hi hk
    rwa [ht, ← rdL_n hkx] at this) (fun k hk hkx hc => by
    by_cases he : k = xs.idxOf a
    · subst he
      rw [rdL_n hkx, ht, lexC_self] at hc
      omega
    · have := hp _ k hi hkx (by omega)
      rw [ht, ← rdL_n hkx] at this
      have e := lexC_anti a (rdL xs (k : Int))
      omega) xs.length 0 xs.length N (by omega) (by omega) (Nat.zero_le _) (by omega) (Nat.le_refl _)
  simp only [Int.natCast_zero] at this
  rw [tLen_n] at this ⊢
  rw [this, ilt_n hi, br_t, inb_n hi, chk_t, Compare_lex (by rw [idx_rd ha]; exact hal) hal hN, bind_some', bind_some', bind_some', idx_rd ha, lexC_self]
  rfl
theorem index_in {N : Nat} {xs : List (List Int)} {st : List (Int × Int)} {a : List Int} (hx : xs.length ≤ 1048576) (hl : ∀ x ∈ xs, x.length ≤ 1048576) (ha : a ∈ xs) (hN : 1048577 ≤ N) :
    Zq111 N (xs, st) a = some ((((xs.idxOf a : Nat) : Int), ()), ()) := by
  unfold Zq111
  simp only []
  have go : ∀ (d n K : Nat), n + d = xs.idxOf a → d < K → Zq111_l0 N (fun x1 => some ((x1, ()), ())) (fun (_ : Unit) => some (((-1), ()), ())) K a (n : Int) xs st = some ((((xs.idxOf a : Nat) : Int), ()), ()) := by
    intro d
    induction d with
    | zero =>
      intro n K hd hK
      obtain ⟨k, rfl⟩ := succ_of hK
      have : n = xs.idxOf a := by omega
      subst this
      simp only [Zq111_l0, ilt_len (idx_lt ha), br_t, inb_n (idx_lt ha), chk_t, idx_rd ha]
      rw [l1Same_eq (hl a ha) hN, bind_some', decide_eq_true rfl, br_t]
    | succ d ih =>
      intro n K hd hK
      obtain ⟨k, rfl⟩ := succ_of hK
      have hi := idx_lt ha
      have hn : n < xs.length := by omega
      have hne : ¬ rdL xs (n : Int) = a := by
        rw [rdL_n hn]
        intro e
        have := List.not_of_lt_findIdx (p := (· == a)) (xs := xs) (i := n) (by show n < xs.idxOf a; omega)
        simp [e] at this
      simp only [Zq111_l0, ilt_len hn, br_t, inb_n hn, chk_t]
      rw [l1Same_eq (hl _ (by rw [rdL_n hn]; exact List.getElem_mem hn)) hN, bind_some', decide_eq_false hne, br_f, wrap_succ (by omega)]
      exact ih (n + 1) k (by omega) (by omega)
  have hi := idx_lt ha
  exact go (xs.idxOf a) 0 N (by omega) (by omega)
noncomputable def fwdL (L : List (List Int)) (F : List Int) : Nat → Int → List Int
  | 0, _ => []
  | d + 1, x => ((nextW L F x).headD x) :: fwdL L F d ((nextW L F x).headD x)
theorem fwdL_len {L : List (List Int)} {F : List Int} : ∀ (d : Nat) (x : Int), (fwdL L F d x).length = d := by
  intro d
  induction d with
  | zero => intro x; rfl
  | succ d ih => intro x; simp [fwdL, ih]
theorem nbL_sym {n : Nat} {st : List (Int × Int)} (h : okSt n st) {y z : Int} (hy : InN n y) (hz : InN n z) (hm : z ∈ rdL (nbL n st) y) : y ∈ rdL (nbL n st) z := by
  rw [nbL_rd hy] at hm
  rw [nbL_rd hz]
  exact (mem_nbS h).2 ((mem_nbS h).1 hm).symm
theorem wl_in {L : List (List Int)} {m : Nat} {x : Int} (hl : okLists L m) (hx : InN m x) {k : Nat} {y : Int} (h : Wl L x k y) : InN m y := by
  induction h with
  | base => exact hx
  | step _ hz ih => exact (okL_row hl ih).2 _ hz
theorem next_some {n : Nat} {st : List (Int × Int)} (hn : n ≤ 1048576) (h : okSt n st) {t x : Int} (ht : InN n t) (hx : InN n x) {d : Nat} (hd : rdI (bfsD (nbL n st) n t) x = ((d + 1 : Nat) : Int)) :
    ∃ z q, nextW (nbL n st) (bfsD (nbL n st) n t) x = z :: q ∧ InN n z ∧ rdI (bfsD (nbL n st) n t) z = (d : Int) := by
  have hl := nbL_ok hn h
  obtain ⟨_, s2, s3, s4, s5, s6⟩ := bfsD_spec hl ht
  have hw := s5 x hx (by omega)
  have e1 : (rdI (bfsD (nbL n st) n t) x).toNat = d + 1 := by omega
  rw [e1] at hw
  have key : ∃ u, u ∈ nextW (nbL n st) (bfsD (nbL n st) n t) x := by
    cases hw with
    | @step _ u _ hu hz =>
      have hui := wl_in hl ht hu
      obtain ⟨_, u1, u2⟩ := s6 _ _ hu
      have hw2 := s5 u hui u1
      have := (s6 _ _ (Wl.step hw2 hz)).2.2
      refine ⟨u, List.mem_filter.2 ⟨nbL_sym h hui hx hz, decide_eq_true ?_⟩⟩
      omega
  obtain ⟨u, hu⟩ := key
  cases hq : nextW (nbL n st) (bfsD (nbL n st) n t) x with
  | nil => rw [hq] at hu; cases hu
  | cons z q =>
    have hz : z ∈ nextW (nbL n st) (bfsD (nbL n st) n t) x := by rw [hq]; exact List.mem_cons_self ..
    obtain ⟨z1, z2⟩ := List.mem_filter.1 hz
    have z2 := of_decide_eq_true z2
    exact ⟨z, q, rfl, (okL_row hl hx).2 _ z1, by omega⟩
theorem fwd_in {n : Nat} {st : List (Int × Int)} (hn : n ≤ 1048576) (h : okSt n st) {t : Int} (ht : InN n t) : ∀ (d : Nat) (x : Int), InN n x → rdI (bfsD (nbL n st) n t) x = (d : Int) → ∀ z ∈ fwdL (nbL n st) (bfsD (nbL n st) n t) d x, InN n z := by
  intro d
  induction d with
  | zero => intro x _ _ z hz; cases hz
  | succ d ih =>
    intro x hx hd z hz
    obtain ⟨u, q, h1, h2, h3⟩ := next_some hn h ht hx hd
    unfold fwdL at hz
    rw [h1] at hz
    rcases List.mem_cons.1 hz with rfl | hz
    · exact h2
    · exact ih _ h2 h3 z hz
theorem firstWay_in {R : Type} {N : Nat} {L : List (List Int)} {F : List Int} {x j y : Int} {q o : List Int} {kk : Int → Int → List (List Int) → List Int → List Int → Option R} {m : Nat} (hl : okLists L m) (hF : F.length = m) (hx : InN m x) (hb : 0 < rdI F x ∧ rdI F x < 1048576) (hm : m ≤ 1048576)
    (hq : nextW L F x = y :: q) (hN : 1048577 ≤ N) : Zq25_l0_0 N kk N x j x (tLen (rdL L x)) 0 L F o = kk y j L F o := by
  obtain ⟨hr1, hr2⟩ := okL_row hl hx
  have go : ∀ (r n K : Nat), n + r = (rdL L x).length → r < K → (((rdL L x).drop n).filter fun y => decide (rdI F y = rdI F x - 1)) = y :: q →
      Zq25_l0_0 N kk K x j x (tLen (rdL L x)) (n : Int) L F o = kk y j L F o := by
    intro r
    induction r with
    | zero =>
      intro n K hr hK hf
      rw [List.drop_of_length_le (by omega)] at hf
      cases hf
    | succ r ih =>
      intro n K hr hK hf
      obtain ⟨k, rfl⟩ := succ_of hK
      have hn : n < (rdL L x).length := by omega
      rw [drop_cons hn, List.filter_cons] at hf
      have hz := hr2 _ (List.getElem_mem hn)
      simp only [Zq25_l0_0, ilt_len hn, br_t, inb_n hn, chk_t, rdI_n hn]
      rw [inb_i hz.1 (by have := hz.2; omega), chk_t, inb_i hx.1 (by have := hx.2; omega), chk_t, wrap_ok (n := rdI F x - 1) (by omega) (by omega)]
      by_cases hc : rdI F (rdL L x)[n] = rdI F x - 1
      · rw [if_pos (by simp [hc])] at hf
        injection hf with h1 h2
        rw [ieq_t hc, br_t, h1]
      · rw [if_neg (by simp [hc])] at hf
        rw [ieq_f hc, br_f, wrap_succ (by omega)]
        exact ih (n + 1) k (by omega) (by omega) hf
  exact go (rdL L x).length 0 N (by omega) (by omega) hq
theorem wlk2_in {R : Type} {N : Nat} {L : List (List Int)} {F : List Int} {x j y : Int} {q o : List Int} {kk : Int → Int → Int → List (List Int) → List Int → List Int → Option R} {m : Nat} (hl : okLists L m) (hF : F.length = m) (hx : InN m x) (hb : 0 < rdI F x ∧ rdI F x < 1048576) (hm : m ≤ 1048576)
    (hq : nextW L F x = y :: q) (hN : 1048577 ≤ N) : ∃ v : Nat, v < (rdL L x).length ∧ rdI (rdL L x) (v : Int) = y ∧ Zq119_l0_0 N kk N x j 0 L F o = kk x j (v : Int) L F o := by
  obtain ⟨hr1, hr2⟩ := okL_row hl hx
  have go : ∀ (r n K : Nat), n + r = (rdL L x).length → r < K → (((rdL L x).drop n).filter fun y => decide (rdI F y = rdI F x - 1)) = y :: q →
      ∃ v : Nat, v < (rdL L x).length ∧ rdI (rdL L x) (v : Int) = y ∧ Zq119_l0_0 N kk K x j (n : Int) L F o = kk x j (v : Int) L F o := by
    intro r
    induction r with
    | zero =>
      intro n K hr hK hf
      rw [List.drop_of_length_le (by omega)] at hf
      cases hf
    | succ r ih =>
      intro n K hr hK hf
      obtain ⟨k, rfl⟩ := succ_of hK
      have hn : n < (rdL L x).length := by omega
      rw [drop_cons hn, List.filter_cons] at hf
      have hz := hr2 _ (List.getElem_mem hn)
      have hL : L.length = m := hl.1
      simp only [Zq119_l0_0, inb_n hn, rdI_n hn]
      rw [inb_i hx.1 (by have := hx.2; omega), chk_t, chk_t, inb_i hz.1 (by have := hz.2; omega), chk_t, inb_i hx.1 (by have := hx.2; omega), chk_t, wrap_ok (n := rdI F x - 1) (by omega) (by omega)]
      by_cases hc : rdI F (rdL L x)[n] = rdI F x - 1
      · rw [if_pos (by simp [hc])] at hf
        injection hf with h1 h2
        rw [ine_f hc, br_f]
        exact ⟨n, hn, by rw [rdI_n hn, h1], rfl⟩
      · rw [if_neg (by simp [hc])] at hf
        rw [ine_t hc, br_t, wrap_succ (by omega)]
        exact ih (n + 1) k (by omega) (by omega) hf
  exact go (rdL L x).length 0 N (by omega) (by omega) hq
noncomputable def wayI (xs : List (List Int)) (st : List (Int × Int)) (i j : Nat) : List Int :=
  if rdI (bfsD (nbL xs.length st) xs.length (j : Int)) (i : Int) < 0 then [] else (i : Int) :: fwdL (nbL xs.length st) (bfsD (nbL xs.length st) xs.length (j : Int)) (rdI (bfsD (nbL xs.length st) xs.length (j : Int)) (i : Int)).toNat (i : Int)
theorem wayI_in {xs : List (List Int)} {st : List (Int × Int)} {i j : Nat} (hn : xs.length ≤ 1048576) (h : okSt xs.length st) (hi : i < xs.length) (hj : j < xs.length) : ∀ z ∈ wayI xs st i j, InN xs.length z := by
  intro z hz
  unfold wayI at hz
  split at hz
  · cases hz
  · rename_i h0
    rcases List.mem_cons.1 hz with rfl | hz
    · exact in_nat hi
    · exact fwd_in hn h (in_nat hj) _ _ (in_nat hi) (by omega) z hz
theorem wayI_len {xs : List (List Int)} {st : List (Int × Int)} {i j : Nat} (hn : xs.length ≤ 1048576) (h : okSt xs.length st) (hi : i < xs.length) (hj : j < xs.length) : (wayI xs st i j).length ≤ xs.length := by
  have hl := nbL_ok hn h
  have := (bfsD_spec hl (in_nat hj)).2.2.1 (i : Int) (in_nat hi)
  unfold wayI
  split
  · simp
  · rw [List.length_cons, fwdL_len]
    omega
theorem firstWay_eq {N : Nat} {xs : List (List Int)} {st : List (Int × Int)} {i j : Nat} (hx : xs.length < 1024) (hs : st.length ≤ 1048576) (h : okSt xs.length st) (hi : i < xs.length) (hj : j < xs.length) (hN : 1048577 ≤ N) :
    Zq25 N (xs, st) (i : Int) (j : Int) = some ((wayI xs st i j, decide (wayI xs st i j ≠ []), ()), ()) := by
  have hl := nbL_ok (n := xs.length) (by omega) h
  obtain ⟨s1, s2, s3, s4, s5, s6⟩ := bfsD_spec hl (in_nat hj)
  unfold Zq25 wayI
  simp only []
  rw [sroads_eq hx hs h hN, bind_some']
  simp only []
  rw [spread_eq hl (by omega) (in_nat hj) hN, bind_some']
  simp only []
  rw [inb_n (by omega), chk_t]
  by_cases h0 : rdI (bfsD (nbL xs.length st) xs.length (j : Int)) (i : Int) < 0
  · rw [ilt_t h0, br_t, if_pos h0]
    rfl
  · rw [ilt_f h0, br_f, if_neg h0]
    have go : ∀ (d K : Nat) (x : Int) (o : List Int), d < K → InN xs.length x → rdI (bfsD (nbL xs.length st) xs.length (j : Int)) x = (d : Int) → o.length + d ≤ 1048576 →
        Zq25_l0 N (fun o => some ((o, true, ()), ())) K x (j : Int) (nbL xs.length st) (bfsD (nbL xs.length st) xs.length (j : Int)) o = some ((o ++ fwdL (nbL xs.length st) (bfsD (nbL xs.length st) xs.length (j : Int)) d x, true, ()), ()) := by
      intro d
      induction d with
      | zero =>
        intro K x o hK hxi hd ho
        obtain ⟨k, rfl⟩ := succ_of hK
        have := s4 x hxi hd
        simp only [Zq25_l0, ine_f this, br_f, fwdL, List.append_nil]
      | succ d ih =>
        intro K x o hK hxi hd ho
        obtain ⟨k, rfl⟩ := succ_of hK
        have hne : x ≠ (j : Int) := by rintro rfl; omega
        obtain ⟨z, q, h1, h2, h3⟩ := next_some (by omega) h (in_nat hj) hxi hd
        have h4 := s3 x hxi
        have h5 : (nbL xs.length st).length = xs.length := hl.1
        simp only [Zq25_l0, ine_t hne, br_t]
        rw [inb_i hxi.1 (by have := hxi.2; omega), chk_t, firstWay_in hl s1 hxi (by omega) (by omega) h1 hN, room_ok (by simp; omega), chk_t, tApp_d, ih k z _ (by omega) h2 h3 (by simp; omega), fwdL, h1, List.append_assoc]
        rfl
    have hlt := s3 (i : Int) (in_nat hi)
    have := go (rdI (bfsD (nbL xs.length st) xs.length (j : Int)) (i : Int)).toNat N (i : Int) [(i : Int)] (by omega) (in_nat hi) (by omega) (by simp; omega)
    rw [this]
    rfl
theorem l2Walk_eq {N : Nat} {xs : List (List Int)} {st : List (Int × Int)} {i j : Nat} (hx : xs.length < 1024) (hs : st.length ≤ 1048576) (h : okSt xs.length st) (hi : i < xs.length) (hj : j < xs.length) (hN : 1048577 ≤ N) :
    Zq119 N (xs, st) (i : Int) (j : Int) = some ((wayI xs st i j, ()), ()) := by
  have hl := nbL_ok (n := xs.length) (by omega) h
  obtain ⟨s1, s2, s3, s4, s5, s6⟩ := bfsD_spec hl (in_nat hj)
  unfold Zq119 wayI
  simp only []
  rw [l2Lists_eq (by omega) hs h hN, bind_some']
  simp only []
  rw [l2Spread_bfs hl (by omega) (in_nat hj) hN, bind_some']
  simp only []
  rw [inb_n (by omega), chk_t]
  by_cases h0 : rdI (bfsD (nbL xs.length st) xs.length (j : Int)) (i : Int) < 0
  · rw [ilt_t h0, br_t, if_pos h0]
  · rw [ilt_f h0, br_f, if_neg h0]
    have go : ∀ (d K : Nat) (x : Int) (o : List Int), d < K → InN xs.length x → rdI (bfsD (nbL xs.length st) xs.length (j : Int)) x = (d : Int) → o.length + d ≤ 1048576 →
        Zq119_l0 N (fun o => some ((o, ()), ())) K x (j : Int) (nbL xs.length st) (bfsD (nbL xs.length st) xs.length (j : Int)) o = some ((o ++ fwdL (nbL xs.length st) (bfsD (nbL xs.length st) xs.length (j : Int)) d x, ()), ()) := by
      intro d
      induction d with
      | zero =>
        intro K x o hK hxi hd ho
        obtain ⟨k, rfl⟩ := succ_of hK
        have := s4 x hxi hd
        simp only [Zq119_l0, ine_f this, br_f, fwdL, List.append_nil]
      | succ d ih =>
        intro K x o hK hxi hd ho
        obtain ⟨k, rfl⟩ := succ_of hK
        have hne : x ≠ (j : Int) := by rintro rfl; omega
        obtain ⟨z, q, h1, h2, h3⟩ := next_some (by omega) h (in_nat hj) hxi hd
        have h4 := s3 x hxi
        have h5 : (nbL xs.length st).length = xs.length := hl.1
        simp only [Zq119_l0, ine_t hne, br_t]
        obtain ⟨v, v1, v2, v3⟩ := wlk2_in (R := (List Int × Unit) × Unit) (o := o) (j := (j : Int)) (kk := fun i2 j2 kv o3 o4 o5 => (chk (inb o3 i2) (chk (inb (rdL o3 i2) kv) (chk (room o5 [(rdI (rdL o3 i2) kv)]) (Zq119_l0 N (fun o => some ((o, ()), ())) k (rdI (rdL o3 i2) kv) j2 o3 o4 (tApp o5 [(rdI (rdL o3 i2) kv)])))))) hl s1 hxi (by omega) (by omega) h1 hN
        rw [v3, inb_i hxi.1 (by have := hxi.2; omega), chk_t, inb_n v1, chk_t, v2, room_ok (by simp; omega), chk_t, tApp_d, ih k z _ (by omega) h2 h3 (by simp; omega), fwdL, h1, List.append_assoc]
        rfl
    have hlt := s3 (i : Int) (in_nat hi)
    have := go (rdI (bfsD (nbL xs.length st) xs.length (j : Int)) (i : Int)).toNat N (i : Int) [(i : Int)] (by omega) (in_nat hi) (by omega) (by simp; omega)
    rw [this]
    rfl
noncomputable def wayS (xs : List (List Int)) (st : List (Int × Int)) (a b : List Int) : List (List Int) := (wayI xs st (xs.idxOf a) (xs.idxOf b)).map (rdL xs)
theorem wayS_len {xs : List (List Int)} {st : List (Int × Int)} {a b : List Int} (hn : xs.length ≤ 1048576) (h : okSt xs.length st) (ha : a ∈ xs) (hb : b ∈ xs) : (wayS xs st a b).length ≤ xs.length := by
  unfold wayS
  rw [List.length_map]
  exact wayI_len hn h (idx_lt ha) (idx_lt hb)
theorem wayS_in {xs : List (List Int)} {st : List (Int × Int)} {a b : List Int} (hn : xs.length ≤ 1048576) (h : okSt xs.length st) (ha : a ∈ xs) (hb : b ∈ xs) : ∀ s ∈ wayS xs st a b, s ∈ xs := by
  intro s hs
  obtain ⟨z, hz, rfl⟩ := List.mem_map.1 hs
  obtain ⟨k, hk, rfl⟩ := nat_of (wayI_in hn h (idx_lt ha) (idx_lt hb) z hz)
  rw [rdL_n hk]
  exact List.getElem_mem hk
theorem walk_eq {N : Nat} {xs : List (List Int)} {st : List (Int × Int)} {a b : List Int} (hs : lexSorted xs) (hl : ∀ x ∈ xs, x.length ≤ 1048576) (hx : xs.length < 1024) (hst : st.length ≤ 1048576) (h : okSt xs.length st) (ha : a ∈ xs) (hb : b ∈ xs) (hN : 1048577 ≤ N) :
    Zq29 N (xs, st) a b = some ((wayS xs st a b, decide (wayS xs st a b ≠ []), ()), ()) := by
  have hne : decide (wayS xs st a b ≠ []) = decide (wayI xs st (xs.idxOf a) (xs.idxOf b) ≠ []) := by
    unfold wayS
    cases wayI xs st (xs.idxOf a) (xs.idxOf b) <;> simp
  have hin := wayI_in (by omega) h (idx_lt ha) (idx_lt hb)
  have hlen := wayI_len (by omega) h (idx_lt ha) (idx_lt hb)
  unfold Zq29
  rw [place_in hs (by omega) hl ha hN, place_in hs (by omega) hl hb hN, bind_some', bind_some']
  simp only [Bool.not_true, br_f]
  rw [firstWay_eq hx hst h (idx_lt ha) (idx_lt hb) hN, bind_some', hne]
  simp only []
  generalize decide (wayI xs st (xs.idxOf a) (xs.idxOf b) ≠ []) = ok
  unfold wayS
  generalize wayI xs st (xs.idxOf a) (xs.idxOf b) = w at hin hlen
  have go : ∀ (d n K : Nat) (o : List (List Int)), n + d = w.length → d < K → o.length ≤ n →
      Zq29_l0 N (fun ok o => some ((o, ok, ()), ())) K ok (tLen w) (n : Int) xs st o w = some ((o ++ (w.drop n).map (rdL xs), ok, ()), ()) := by
    intro d
    induction d with
    | zero =>
      intro n K o hd hK ho
      obtain ⟨k, rfl⟩ := succ_of hK
      simp only [Zq29_l0, ilt_lenf (show ¬ n < w.length by omega), br_f]
      rw [List.drop_of_length_le (by omega)]
      simp
    | succ d ih =>
      intro n K o hd hK ho
      obtain ⟨k, rfl⟩ := succ_of hK
      have hn : n < w.length := by omega
      have hz := hin _ (List.getElem_mem hn)
      obtain ⟨z, hz1, hz2⟩ := nat_of hz
      simp only [Zq29_l0, ilt_len hn, br_t, inb_n hn, chk_t, rdI_n hn]
      rw [hz2, inb_n hz1, chk_t, Clone_eq (hl _ (by rw [rdL_n hz1]; exact List.getElem_mem hz1)), bind_some', room_ok (by simp; omega), chk_t, wrap_succ (by omega), tApp_d, ih (n + 1) k _ (by omega) (by omega) (by simp; omega), drop_cons hn, List.map_cons, hz2, List.append_assoc]
      rfl
  have := go w.length 0 N [] (by omega) (by omega) (Nat.zero_le _)
  simpa using this
theorem named_eq {N : Nat} {xs : List (List Int)} {st : List (Int × Int)} {w : List Int} (hl : ∀ x ∈ xs, x.length ≤ 1048576) (hin : ∀ z ∈ w, InN xs.length z) (hw : w.length ≤ 1048576) (hN : 1048577 ≤ N) :
    Zq127 N (xs, st) w = some ((w.map (rdL xs), ()), ()) := by
  unfold Zq127
  have go : ∀ (d n K : Nat) (o : List (List Int)), n + d = w.length → d < K → o.length ≤ n →
      Zq127_l0 N (fun o => some ((o, ()), ())) K w (n : Int) xs st o = some ((o ++ (w.drop n).map (rdL xs), ()), ()) := by
    intro d
    induction d with
    | zero =>
      intro n K o hd hK ho
      obtain ⟨k, rfl⟩ := succ_of hK
      simp only [Zq127_l0, ilt_lenf (show ¬ n < w.length by omega), br_f]
      rw [List.drop_of_length_le (by omega)]
      simp
    | succ d ih =>
      intro n K o hd hK ho
      obtain ⟨k, rfl⟩ := succ_of hK
      have hn : n < w.length := by omega
      have hz := hin _ (List.getElem_mem hn)
      obtain ⟨z, hz1, hz2⟩ := nat_of hz
      simp only [Zq127_l0, ilt_len hn, br_t, inb_n hn, chk_t, rdI_n hn]
      rw [hz2, inb_n hz1, chk_t, l1Own_eq (hl _ (by rw [rdL_n hz1]; exact List.getElem_mem hz1)), bind_some', room_ok (by simp; omega), chk_t, wrap_succ (by omega), tApp_d, ih (n + 1) k _ (by omega) (by omega) (by simp; omega), drop_cons hn, List.map_cons, hz2, List.append_assoc]
      rfl
  have := go w.length 0 N [] (by omega) (by omega) (Nat.zero_le _)
  simpa using this
theorem lessN {a b : Nat} (ha : a < 256) (hb : b < 256) : ∃ c : Nat, bitop .andNot .u64 (a : Int) (b : Int) = (c : Int) ∧ c < 256 ∧ ∀ i, c.testBit i = (a.testBit i && !b.testBit i) := by
  have e1 := ofInt64 (n := a) (by omega)
  have e2 := ofInt64 (n := b) (by omega)
  have key : ∀ i, (BitVec.ofInt 64 (a : Int) &&& ~~~(BitVec.ofInt 64 (b : Int))).toNat.testBit i = (a.testBit i && !b.testBit i) := by
    intro i
    rw [BitVec.testBit_toNat, BitVec.getLsbD_and, BitVec.getLsbD_not, ← BitVec.testBit_toNat, ← BitVec.testBit_toNat, e1, e2]
    by_cases hi : i < 64
    · rw [decide_eq_true hi, Bool.true_and]
    · have : a.testBit i = false := Nat.testBit_lt_two_pow (Nat.lt_of_lt_of_le ha (Nat.pow_le_pow_right (n := 2) (i := 8) (by omega) (by omega)))
      rw [this]
      rfl
  have hlt : (BitVec.ofInt 64 (a : Int) &&& ~~~(BitVec.ofInt 64 (b : Int))).toNat < 2 ^ 8 := by
    refine Nat.lt_pow_two_of_testBit _ fun i hi => ?_
    have : a.testBit i = false := Nat.testBit_lt_two_pow (Nat.lt_of_lt_of_le ha (Nat.pow_le_pow_right (n := 2) (i := 8) (by omega) hi))
    rw [key i, this]
    rfl
  refine ⟨_, ?_, hlt, key⟩
  show IntKind.u64.wrap (((BitVec.ofInt 64 (a : Int) &&& ~~~(BitVec.ofInt 64 (b : Int))).toNat : Nat) : Int) = _
  exact wrap64 (by omega)
noncomputable def setOf (m a : Nat) : List Int := ((List.range' 0 m).filter fun i : Nat => a.testBit i).map fun i : Nat => (i : Int)
theorem mem_setOf {m a : Nat} {z : Int} : z ∈ setOf m a ↔ ∃ i : Nat, i < m ∧ a.testBit i = true ∧ z = (i : Int) := by
  unfold setOf
  rw [List.mem_map]
  constructor
  · rintro ⟨i, hi, rfl⟩
    obtain ⟨h1, h2⟩ := List.mem_filter.1 hi
    exact ⟨i, by have := List.mem_range'_1.1 h1; omega, h2, rfl⟩
  · rintro ⟨i, h1, h2, rfl⟩
    exact ⟨i, List.mem_filter.2 ⟨List.mem_range'_1.2 (by omega), h2⟩, rfl⟩
theorem mem_setN {m a i : Nat} : (i : Int) ∈ setOf m a ↔ i < m ∧ a.testBit i = true := by
  rw [mem_setOf]
  constructor
  · rintro ⟨j, h1, h2, h3⟩
    have : i = j := by omega
    subst this
    exact ⟨h1, h2⟩
  · rintro ⟨h1, h2⟩
    exact ⟨i, h1, h2, rfl⟩
theorem setOf_in {m a : Nat} : ∀ z ∈ setOf m a, InN m z := fun z hz => by
  obtain ⟨i, h1, _, rfl⟩ := mem_setOf.1 hz
  exact in_nat h1
theorem setOf_len (m a : Nat) : (setOf m a).length ≤ m := by
  unfold setOf
  rw [List.length_map]
  exact Nat.le_trans (List.length_filter_le ..) (by simp)
theorem setOf_strict (m a : Nat) : (setOf m a).Pairwise (· < ·) := by
  unfold setOf
  refine List.pairwise_map.2 (List.Pairwise.filter _ ?_)
  exact (List.pairwise_lt_range' (step := 1) (by omega)).imp fun {a b} h => by omega
theorem bit_out {m a i : Nat} (ha : a < 2 ^ m) (hi : m ≤ i) : a.testBit i = false := Nat.testBit_lt_two_pow (Nat.lt_of_lt_of_le ha (Nat.pow_le_pow_right (by omega) hi))
theorem setOf_inj {m a b : Nat} (ha : a < 2 ^ m) (hb : b < 2 ^ m) (h : setOf m a = setOf m b) : a = b := by
  refine Nat.eq_of_testBit_eq fun i => ?_
  by_cases hi : i < m
  · have : (i : Int) ∈ setOf m a ↔ (i : Int) ∈ setOf m b := by rw [h]
    rw [mem_setN, mem_setN] at this
    cases h1 : a.testBit i <;> cases h2 : b.testBit i <;> simp_all
  · rw [bit_out ha (by omega), bit_out hb (by omega)]
theorem pow256 {m : Nat} (hm : m ≤ 8) : 2 ^ m ≤ 256 := Nat.pow_le_pow_right (n := 2) (by omega) hm
theorem setOf_eight {m a : Nat} (hm : m ≤ 8) (ha : a < 2 ^ m) : ((List.range' 0 8).filter fun c => decide (a.testBit c = true)).map (fun c : Nat => (c : Int)) = setOf m a := by
  unfold setOf
  have e8 : List.range' 0 8 = List.range' 0 m ++ List.range' m (8 - m) := by
    have := List.range'_append_1 (s := 0) (m := m) (n := 8 - m)
    rw [show 0 + m = m by omega, show m + (8 - m) = 8 by omega] at this
    exact this.symm
  have e2 : (List.range' m (8 - m)).filter (fun c => decide (a.testBit c = true)) = [] := by
    refine List.filter_eq_nil_iff.2 fun v hv => ?_
    have := List.mem_range'_1.1 hv
    rw [bit_out ha (by omega)]
    simp
  rw [e8, List.filter_append, e2, List.append_nil]
  congr 1
  refine List.filter_congr fun v _ => ?_
  cases a.testBit v <;> rfl
theorem bag_list_eq {N m a : Nat} (hm : m ≤ 8) (ha : a < 2 ^ m) (hN : 1048577 ≤ N) : Zq36 N (a : Int) = some ((setOf m a, ()), ()) := by
  have := pow256 hm
  rw [bagList_eq (by omega) hN, setOf_eight hm ha]
theorem ibit8 {a c : Nat} (ha : a < 256) (hc : c < 8) : ieq (bitop .and .i64 (shrI .i64 (a : Int) (c : Int)) 1) 1 = a.testBit c := by
  have hk : ((List.range 256).all fun a => (List.range 8).all fun c => ieq (bitop .and .i64 (shrI .i64 (a : Int) (c : Int)) 1) 1 == a.testBit c) = true := by kernel_rfl
  exact eq_of_beq (List.all_eq_true.1 (List.all_eq_true.1 hk a (List.mem_range.2 ha)) c (List.mem_range.2 hc))
theorem l2Bits_set {N m a : Nat} (hm : m ≤ 8) (ha : a < 256) (hN : 1048577 ≤ N) : Zq108 N (m : Int) (a : Int) = some ((setOf m a, ()), ()) := by
  unfold Zq108
  refine (loop_iter (L := fun K n o => Zq108_l0 N (fun o => some ((o, ()), ())) K (m : Int) (a : Int) n o) (k := fun o => some ((o, ()), ())) (Inv := fun n o => o.length ≤ n) (step := fun n o => if a.testBit n = true then o ++ [(n : Int)] else o) (fun K n s hn _ => ?_) (fun K n s hn hs => ?_) (fun n s hn h => ?_) (s := []) (m := m) (K := N) (by omega) (Nat.zero_le _)).trans ?_
  · simp only [Zq108_l0, ilt_nf hn, br_f]
  · simp only [Zq108_l0, ilt_n hn, br_t]
    rw [ile_t (by omega), chk_t, ibit8 ha (by omega), wrap_succ (by omega), room_ok (by simp; omega), chk_t, br_ite]
    by_cases h : a.testBit n = true
    · rw [if_pos h, if_pos h]
      rfl
    · rw [if_neg h, if_neg h]
  · by_cases hc : a.testBit n = true
    · rw [if_pos hc]; simp; omega
    · rw [if_neg hc]; omega
  · rw [iter_app, List.nil_append]
    congr 3
    unfold setOf
    congr 1
    refine List.filter_congr fun v _ => ?_
    cases a.testBit v <;> rfl
theorem bag_size_eq {N m a : Nat} (hm : m ≤ 8) (ha : a < 2 ^ m) : Zq37 N (a : Int) = some ((((setOf m a).length : Int), ()), ()) := by
  have := pow256 hm
  rw [pc256 (by omega)]
  congr 4
  rw [← setOf_eight hm ha, List.length_map, List.range_eq_range']
  congr 1
  refine List.filter_congr fun v _ => ?_
  cases a.testBit v <;> rfl
theorem bag_has_eq {N a i : Nat} (ha : a < 256) (hi : i < 8) : Zq35 N (a : Int) (i : Int) = some ((a.testBit i, ()), ()) := by
  unfold Zq35
  rw [ile_t (by omega), chk_t, bit8 ha hi]
def hasK (m : Nat) (es : List (Int × Int)) (kind : Int) (s : List Int) : Prop :=
  if kind = 1 then ∀ e ∈ es, e.1 ∈ s ∨ e.2 ∈ s
  else if kind = 2 then ∀ i j : Nat, i < s.length → j < i → nearG es (rdI s (i : Int)) (rdI s (j : Int))
  else ∀ x : Nat, x < m → (x : Int) ∈ s ∨ ∃ y ∈ s, nearG es y (x : Int)
theorem iter_orB {p : Nat → Bool} : ∀ (d n : Nat) (f : Bool), iter (fun i (f : Bool) => f || p i) d n f = (f || decide (∃ i, n ≤ i ∧ i < n + d ∧ p i = true)) := by
  intro d
  induction d with
  | zero =>
    intro n f
    unfold iter
    rw [decide_eq_false (fun ⟨i, h1, h2, _⟩ => by omega), Bool.or_false]
  | succ d ih =>
    intro n f
    unfold iter
    rw [ih, Bool.or_assoc]
    congr 1
    cases h : p n with
    | true => rw [Bool.true_or, decide_eq_true ⟨n, Nat.le_refl _, by omega, h⟩]
    | false =>
      rw [Bool.false_or]
      refine decide_eq_decide.2 ⟨fun ⟨i, h1, h2, h3⟩ => ⟨i, by omega, by omega, h3⟩, fun ⟨i, h1, h2, h3⟩ => ⟨i, ?_, by omega, h3⟩⟩
      by_cases hi : i = n
      · subst hi; rw [h] at h3; cases h3
      · omega
theorem l4Has_cl {R : Type} {N m n : Nat} {es : List (Int × Int)} {s : List Int} {k0 : Bool → Option R} {k1 : List Int → Int → Int → List (Int × Int) → Option R} (hx : es.length ≤ 1048576) (hs : s.length ≤ 1048576) (hn : n < s.length) (hN : 1048577 ≤ N) :
    Zq124_l1_0 N k0 k1 N s (n : Int) 0 (m : Int) es = if (∀ j : Nat, j < n → nearG es (rdI s (n : Int)) (rdI s (j : Int))) then k1 s (n : Int) (m : Int) es else k0 false := by
  have := loop_all_if (P := ∀ j : Nat, j < n → nearG es (rdI s (n : Int)) (rdI s (j : Int))) (m := n) (L := fun K j => Zq124_l1_0 N k0 k1 K s (n : Int) (j : Int) (m : Int) es) (fun j => nearG es (rdI s (n : Int)) (rdI s (j : Int))) Iff.rfl (kt := k1 s (n : Int) (m : Int) es) (kf := k0 false) (fun K j hj => ?_) (fun K j hj hp => ?_) (fun K j hj hp => ?_) (K := N) (by omega)
  · simpa using this
  · simp only [Zq124_l1_0, ilt_nf hj, br_f]
  · simp only [Zq124_l1_0, ilt_n hj, br_t, inb_n hn, inb_n (show j < s.length by omega), chk_t]
    rw [l2Near_eq (g := ((m : Int), es)) hx hN, bind_some', decide_eq_true hp, wrap_succ (by omega)]
    rfl
  · simp only [Zq124_l1_0, ilt_n hj, br_t, inb_n hn, inb_n (show j < s.length by omega), chk_t]
    rw [l2Near_eq (g := ((m : Int), es)) hx hN, bind_some', decide_eq_false hp]
    rfl
theorem l4Has_dm {R : Type} {N m n : Nat} {es : List (Int × Int)} {s : List Int} {f : Bool} {k0 : List Int → Int → Bool → Int → List (Int × Int) → Option R} (hx : es.length ≤ 1048576) (hs : s.length ≤ 1048576) (hN : 1048577 ≤ N) :
    Zq124_l2_0 N k0 N s (n : Int) f 0 (m : Int) es = k0 s (n : Int) (f || decide (∃ y ∈ s, nearG es y (n : Int))) (m : Int) es := by
  have := loop_iter (L := fun K i f => Zq124_l2_0 N k0 K s (n : Int) f (i : Int) (m : Int) es) (k := fun f => k0 s (n : Int) f (m : Int) es) (Inv := fun _ _ => True) (step := fun i f => f || decide (nearG es (rdI s (i : Int)) (n : Int))) (m := s.length) (fun K i f hi _ => ?_) (fun K i f hi _ => ?_) (fun _ _ _ _ => trivial) (K := N) (s := f) (by omega) trivial
  · simp only [Int.natCast_zero] at this
    rw [this, iter_orB (p := fun i : Nat => decide (nearG es (rdI s (i : Int)) (n : Int)))]
    congr 2
    refine decide_eq_decide.2 ⟨fun ⟨i, _, h2, h3⟩ => ⟨rdI s (i : Int), ?_, of_decide_eq_true h3⟩, fun ⟨y, h1, h2⟩ => ?_⟩
    · rw [rdI_n (by omega)]; exact List.getElem_mem _
    · obtain ⟨i, hi, rfl⟩ := List.getElem_of_mem h1
      exact ⟨i, Nat.zero_le _, by omega, decide_eq_true (by rw [rdI_n hi]; exact h2)⟩
  · simp only [Zq124_l2_0, ilt_lenf hi, br_f]
  · simp only [Zq124_l2_0, ilt_len hi, br_t, inb_n hi, chk_t]
    rw [wrap_succ (by omega)]
    cases f with
    | true => rw [br_t, Bool.true_or]
    | false => rw [br_f, Bool.false_or, l2Near_eq (g := ((m : Int), es)) hx hN, bind_some']
theorem l4Has_eq {N m : Nat} {es : List (Int × Int)} {kind : Int} {s : List Int} (hm : m ≤ 8) (hx : es.length ≤ 1048576) (hs : s.length ≤ 1048576) (hN : 1048577 ≤ N) : Zq124 N ((m : Int), es) kind s = some ((decide (hasK m es kind s), ()), ()) := by
  unfold Zq124
  simp only []
  have fin : ∀ {o : Option ((Bool × Unit) × Unit)}, o = (if hasK m es kind s then some ((true, ()), ()) else some ((false, ()), ())) → o = some ((decide (hasK m es kind s), ()), ()) := by
    intro o h
    rw [h]
    by_cases h : hasK m es kind s
    · rw [if_pos h, decide_eq_true h]
    · rw [if_neg h, decide_eq_false h]
  by_cases h1 : kind = 1
  · rw [ieq_t h1, br_t]
    refine fin ?_
    have := loop_all_if (P := hasK m es kind s) (m := es.length) (L := fun K i => Zq124_l0 N (fun x => some ((x, ()), ())) (fun (_ : Unit) => some ((true, ()), ())) K s i (m : Int) es) (fun i => (rdP es i).1 ∈ s ∨ (rdP es i).2 ∈ s) (by unfold hasK; rw [if_pos h1]; exact all_rdP) (kt := some ((true, ()), ())) (kf := some ((false, ()), ())) (fun K n hn => ?_) (fun K n hn hp => ?_) (fun K n hn hp => ?_) (K := N) (by omega)
    · simpa using this
    · simp only [Zq124_l0, ilt_lenf hn, br_f]
    · simp only [Zq124_l0, ilt_len hn, br_t, inb_n hn, chk_t, l1Has_eq hs hN, bind_some', wrap_succ (show n < 4611686018427387904 by omega)]
      by_cases q : (rdP es (n : Int)).1 ∈ s
      · rw [decide_eq_true q]; simp only [Bool.not_true, br_f]
      · rw [decide_eq_false q]; simp only [Bool.not_false, br_t]
        rw [decide_eq_true (hp.resolve_left q)]; simp only [Bool.not_true, br_f]
    · simp only [Zq124_l0, ilt_len hn, br_t, inb_n hn, chk_t, l1Has_eq hs hN, bind_some']
      rw [decide_eq_false (fun h => hp (.inl h)), decide_eq_false (fun h => hp (.inr h))]
      rfl
  · rw [ieq_f h1, br_f]
    by_cases h2 : kind = 2
    · rw [ieq_t h2, br_t]
      refine fin ?_
      have := loop_all_if (P := hasK m es kind s) (m := s.length) (L := fun K i => Zq124_l1 N (fun x => some ((x, ()), ())) (fun (_ : Unit) => some ((true, ()), ())) K s i (m : Int) es) (fun i => ∀ j : Nat, j < i → nearG es (rdI s (i : Int)) (rdI s (j : Int))) (by unfold hasK; rw [if_neg h1, if_pos h2]; exact ⟨fun h i hi j hj => h i j hi hj, fun h i j hi hj => h i hi j hj⟩) (kt := some ((true, ()), ())) (kf := some ((false, ()), ())) (fun K n hn => ?_) (fun K n hn hp => ?_) (fun K n hn hp => ?_) (K := N) (by omega)
      · simpa using this
      · simp only [Zq124_l1, ilt_lenf hn, br_f]
      · simp only [Zq124_l1, ilt_len hn, br_t]
        rw [l4Has_cl hx hs hn hN, if_pos hp, wrap_succ (by omega)]
      · simp only [Zq124_l1, ilt_len hn, br_t]
        rw [l4Has_cl hx hs hn hN, if_neg hp]
    · rw [ieq_f h2, br_f]
      refine fin ?_
      have := loop_all_if (P := hasK m es kind s) (m := m) (L := fun K i => Zq124_l2 N (fun x => some ((x, ()), ())) (fun (_ : Unit) => some ((true, ()), ())) K s i (m : Int) es) (fun x => (x : Int) ∈ s ∨ ∃ y ∈ s, nearG es y (x : Int)) (by unfold hasK; rw [if_neg h1, if_neg h2]) (kt := some ((true, ()), ())) (kf := some ((false, ()), ())) (fun K n hn => ?_) (fun K n hn hp => ?_) (fun K n hn hp => ?_) (K := N) (by omega)
      · simpa using this
      · simp only [Zq124_l2, ilt_nf hn, br_f]
      · simp only [Zq124_l2, ilt_n hn, br_t, l1Has_eq hs hN, bind_some']
        rw [l4Has_dm hx hs hN, wrap_succ (by omega)]
        have : (decide ((n : Int) ∈ s) || decide (∃ y ∈ s, nearG es y (n : Int))) = true := by rw [Bool.or_eq_true, decide_eq_true_eq, decide_eq_true_eq]; exact hp
        rw [this]
        rfl
      · simp only [Zq124_l2, ilt_n hn, br_t, l1Has_eq hs hN, bind_some']
        rw [l4Has_dm hx hs hN]
        have : (decide ((n : Int) ∈ s) || decide (∃ y ∈ s, nearG es y (n : Int))) = false := by rw [Bool.or_eq_false_iff, decide_eq_false_iff_not, decide_eq_false_iff_not]; exact not_or.1 hp
        rw [this]
        rfl
theorem hasKind_cl {R : Type} {N m n : Nat} {es : List (Int × Int)} {s : List Int} {k0 : Bool → Option R} {k1 : Int → Int → Int → List (Int × Int) → List Int → Option R} (hed : ∀ e ∈ es, e.1 < e.2) (hx : es.length ≤ 1048576) (hs : s.length ≤ 1048576) (hn : n < s.length) (hN : 1048577 ≤ N) :
    Zq7_l0_0 N k0 k1 N (rdI s (n : Int)) (tLen s) (n : Int) 0 (n : Int) ((n : Int) - 0) 0 (m : Int) es s = if (∀ j : Nat, j < n → nearG es (rdI s (n : Int)) (rdI s (j : Int))) then k1 (tLen s) (n : Int) (m : Int) es s else k0 false := by
  rw [show (n : Int) - 0 = (n : Int) by omega]
  have := loop_all_if (P := ∀ j : Nat, j < n → nearG es (rdI s (n : Int)) (rdI s (j : Int))) (m := n) (L := fun K j => Zq7_l0_0 N k0 k1 K (rdI s (n : Int)) (tLen s) (n : Int) 0 (n : Int) (n : Int) (j : Int) (m : Int) es s) (fun j => nearG es (rdI s (n : Int)) (rdI s (j : Int))) Iff.rfl (kt := k1 (tLen s) (n : Int) (m : Int) es s) (kf := k0 false) (fun K j hj => ?_) (fun K j hj hp => ?_) (fun K j hj hp => ?_) (K := N) (by omega)
  · simpa using this
  · simp only [Zq7_l0_0, ilt_nf hj, br_f]
  · simp only [Zq7_l0_0, ilt_n hj, br_t]
    rw [ile_t (by omega), ilt_t (show (j : Int) < (n : Int) - 0 by omega)]
    simp only [Bool.and_self, chk_t, Int.zero_add]
    rw [Graph_has_eq (g := ((m : Int), es)) hed hx hN, bind_some', decide_eq_true hp, wrap_succ (by omega)]
    rfl
  · simp only [Zq7_l0_0, ilt_n hj, br_t]
    rw [ile_t (by omega), ilt_t (show (j : Int) < (n : Int) - 0 by omega)]
    simp only [Bool.and_self, chk_t, Int.zero_add]
    rw [Graph_has_eq (g := ((m : Int), es)) hed hx hN, bind_some', decide_eq_false hp]
    rfl
theorem and_zero {a b : Nat} (ha : a < 256) (hb : b < 256) : ieq (bitop .and .u64 (a : Int) (b : Int)) 0 = decide (∀ i, ¬ (a.testBit i = true ∧ b.testBit i = true)) := by
  rw [andN (by omega) (by omega), ieq_d]
  refine decide_eq_decide.2 ⟨fun h i hi => ?_, fun h => ?_⟩
  · have h0 : a &&& b = 0 := by omega
    have := Nat.testBit_and a b i
    rw [h0, hi.1, hi.2] at this
    simp at this
  · have : a &&& b = 0 := Nat.eq_of_testBit_eq fun i => by
      rw [Nat.testBit_and, Nat.zero_testBit]
      cases h1 : a.testBit i <;> cases h2 : b.testBit i <;> simp
      exact h i ⟨h1, h2⟩
    omega
theorem hasKind_eq {N m a : Nat} {es : List (Int × Int)} {kind : Int} (hm : m ≤ 8) (ha : a < 2 ^ m) (hg : goodG ((m : Int), es)) (hx : es.length ≤ 1048576) (hN : 1048577 ≤ N) : Zq7 N ((m : Int), es) kind (a : Int) = some ((decide (hasK m es kind (setOf m a)), ()), ()) := by
  have ha8 := pow256 hm
  have hedge := goodG_edges hg
  have hed : ∀ e ∈ es, e.1 < e.2 := fun e he => (hedge e he).2.1
  have hsl : (setOf m a).length ≤ 1048576 := by have := setOf_len m a; omega
  unfold Zq7
  simp only []
  have fin : ∀ {o : Option ((Bool × Unit) × Unit)}, o = (if hasK m es kind (setOf m a) then some ((true, ()), ()) else some ((false, ()), ())) → o = some ((decide (hasK m es kind (setOf m a)), ()), ()) := by
    intro o h
    rw [h]
    by_cases h : hasK m es kind (setOf m a)
    · rw [if_pos h, decide_eq_true h]
    · rw [if_neg h, decide_eq_false h]
  by_cases h1 : kind = 1
  · rw [ieq_t h1, br_t]
    unfold Zq4
    simp only []
    rw [ile_t (by omega), chk_t, all8 m hm, bind_some']
    obtain ⟨c, c1, c2, c3⟩ := lessN (a := 2 ^ m - 1) (b := a) (by omega) (by omega)
    simp only []
    rw [c1]
    unfold Zq8
    simp only []
    rw [ContainsFunc_LP_P2_eq (g := fun e => decide (e.1 ∉ setOf m a ∧ e.2 ∉ setOf m a)) (fun e he => ?_) (by omega) (by omega), bind_some', bind_some']
    · congr 3
      rw [not_any]
      refine decide_eq_decide.2 ?_
      unfold hasK
      rw [if_pos h1]
      refine ⟨fun h e he => ?_, fun h e he => ?_⟩
      · have := of_decide_eq_false (h e he)
        by_cases q : e.1 ∈ setOf m a
        · exact .inl q
        · by_cases q2 : e.2 ∈ setOf m a
          · exact .inr q2
          · exact absurd ⟨q, q2⟩ this
      · refine decide_eq_false fun q => ?_
        rcases h e he with h | h
        · exact q.1 h
        · exact q.2 h
    · obtain ⟨e1, e2, e3⟩ := hedge e he
      simp only [] at e3
      obtain ⟨p, hp⟩ : ∃ p : Nat, e.1 = (p : Int) := ⟨e.1.toNat, by omega⟩
      obtain ⟨q, hq⟩ : ∃ q : Nat, e.2 = (q : Int) := ⟨e.2.toNat, by omega⟩
      have hpm : p < m := by omega
      have hqm : q < m := by omega
      have hnot : ∀ i, i < m → (c.testBit i = true ↔ (i : Int) ∉ setOf m a) := fun i hi => by
        rw [c3 i, Nat.testBit_two_pow_sub_one, decide_eq_true hi, Bool.true_and, mem_setN]
        cases a.testBit i <;> simp [hi]
      unfold Zq9
      rw [hp, hq, bag_has_eq c2 (by omega), bag_has_eq c2 (by omega), bind_some', bind_some']
      simp only []
      by_cases q1 : (p : Int) ∈ setOf m a
      · have : c.testBit p = false := Bool.eq_false_iff.2 fun h => (hnot p hpm).1 h q1
        rw [this, br_f, decide_eq_false (fun h => h.1 q1)]
        rfl
      · rw [(hnot p hpm).2 q1, br_t]
        by_cases q2 : (q : Int) ∈ setOf m a
        · have : c.testBit q = false := Bool.eq_false_iff.2 fun h => (hnot q hqm).1 h q2
          rw [this, decide_eq_false (fun h => h.2 q2)]
          rfl
        · rw [(hnot q hqm).2 q2, decide_eq_true ⟨q1, q2⟩]
          rfl
  · rw [ieq_f h1, br_f]
    by_cases h2 : kind = 2
    · rw [ieq_t h2, br_t, bag_list_eq hm ha hN, bind_some']
      refine fin ?_
      simp only []
      have := loop_all_if (P := hasK m es kind (setOf m a)) (m := (setOf m a).length) (L := fun K i => Zq7_l0 N (fun x => some ((x, ()), ())) (fun (_ : Unit) => some ((true, ()), ())) K (tLen (setOf m a)) i (m : Int) es (setOf m a)) (fun i => ∀ j : Nat, j < i → nearG es (rdI (setOf m a) (i : Int)) (rdI (setOf m a) (j : Int))) (by unfold hasK; rw [if_neg h1, if_pos h2]; exact ⟨fun h i hi j hj => h i j hi hj, fun h i j hi hj => h i hi j hj⟩) (kt := some ((true, ()), ())) (kf := some ((false, ()), ())) (fun K n hn => ?_) (fun K n hn hp => ?_) (fun K n hn hp => ?_) (K := N) (by omega)
      · simpa using this
      · simp only [Zq7_l0, ilt_lenf hn, br_f]
      all_goals
        simp only [Zq7_l0, ilt_len hn, br_t, inb_n hn, chk_t]
        rw [ile_t (Int.le_refl _), ile_t (show (0 : Int) ≤ (n : Int) by omega), tLen_n, ile_t (show (n : Int) ≤ ((setOf m a).length : Int) by omega)]
        simp only [Bool.and_self, chk_t]
        have hcl := hasKind_cl (R := (Bool × Unit) × Unit) (N := N) (m := m) (n := n) (es := es) (s := setOf m a) (k0 := fun x2 => (fun x => some ((x, ()), ())) x2) (k1 := fun x3 x4 o3 o4 o5 => Zq7_l0 N (fun x => some ((x, ()), ())) (fun (_ : Unit) => some ((true, ()), ())) K x3 (IntKind.i64.wrap (x4 + 1)) o3 o4 o5) hed hx hsl hn hN
        rw [tLen_n] at hcl
      · rw [hcl, if_pos hp, wrap_succ (by omega)]
      · rw [hcl, if_neg hp]
    · rw [ieq_f h2, br_f]
      refine fin ?_
      have := loop_all_if (P := hasK m es kind (setOf m a)) (m := m) (L := fun K i => Zq7_l1 N (fun x => some ((x, ()), ())) (fun (_ : Unit) => some ((true, ()), ())) K (a : Int) (m : Int) i (m : Int) es) (fun x => (x : Int) ∈ setOf m a ∨ ∃ y ∈ setOf m a, nearG es y (x : Int)) (by unfold hasK; rw [if_neg h1, if_neg h2]) (kt := some ((true, ()), ())) (kf := some ((false, ()), ())) (fun K n hn => ?_) (fun K n hn hp => ?_) (fun K n hn hp => ?_) (K := N) (by omega)
      · simpa using this
      · simp only [Zq7_l1, ilt_nf hn, br_f]
      all_goals
        have hnl := nbr_len m es (n : Int)
        obtain ⟨q, q1, q2, q3⟩ := bagOf_eq (N := N) (xs := nbr m es (n : Int)) (fun y hy => by obtain ⟨i, hi, _, rfl⟩ := mem_nbr.1 hy; omega) (by omega) hN
        have hz : (∀ i, ¬ (q.testBit i = true ∧ a.testBit i = true)) ↔ ¬ ∃ y ∈ setOf m a, nearG es y (n : Int) := by
          constructor
          · rintro h ⟨y, h3, h4⟩
            obtain ⟨i, hi, hb, rfl⟩ := mem_setOf.1 h3
            exact h i ⟨(q3 i).2 (mem_nbr.2 ⟨i, hi, nearG_symm.1 h4, rfl⟩), hb⟩
          · rintro h i ⟨h3, h4⟩
            obtain ⟨j, hj, hn', hij⟩ := mem_nbr.1 ((q3 i).1 h3)
            have : i = j := by omega
            subst this
            exact h ⟨(i : Int), mem_setN.2 ⟨hj, h4⟩, nearG_symm.1 hn'⟩
        simp only [Zq7_l1, ilt_n hn, br_t]
        rw [bag_has_eq (by omega) (by omega), bind_some', neighbors_eq hg hx hN, bind_some']
        simp only []
        rw [q1, bind_some']
        simp only []
        rw [and_zero q2 (by omega)]
      · rw [wrap_succ (by omega)]
        cases hb : a.testBit n with
        | true => simp only [Bool.not_true, br_f]
        | false =>
          simp only [Bool.not_false, br_t]
          have h3 := hp.resolve_left (fun h => by have := (mem_setN.1 h).2; rw [hb] at this; cases this)
          rw [decide_eq_false (fun h => hz.1 h h3), br_f]
      · have h3 : a.testBit n = false := Bool.eq_false_iff.2 fun h => hp (.inl (mem_setN.2 ⟨hn, h⟩))
        rw [h3, decide_eq_true (hz.2 fun h => hp (.inr h))]
        rfl
theorem iter_map {α : Type} {f : Nat → α} {p : Nat → Bool} : ∀ (d n : Nat) (o : List α), iter (fun n (o : List α) => if p n = true then o ++ [f n] else o) d n o = o ++ ((List.range' n d).filter p).map f := by
  intro d
  induction d with
  | zero => intro n o; simp [iter]
  | succ d ih =>
    intro n o
    unfold iter
    rw [ih, List.range'_succ]
    by_cases h : p n = true
    · rw [if_pos h, List.filter_cons_of_pos h, List.append_assoc]
      rfl
    · rw [if_neg h, List.filter_cons_of_neg h]
theorem shl8i : ∀ n : Nat, n < 9 → shlI .i64 1 (n : Int) = ((2 ^ n : Nat) : Int)
  | 0, _ => by kernel_rfl
  | 1, _ => by kernel_rfl
  | 2, _ => by kernel_rfl
  | 3, _ => by kernel_rfl
  | 4, _ => by kernel_rfl
  | 5, _ => by kernel_rfl
  | 6, _ => by kernel_rfl
  | 7, _ => by kernel_rfl
  | 8, _ => by kernel_rfl
  | n + 9, h => by omega
noncomputable def masksL (m : Nat) (p : List Int → Bool) : List (List Int) := ((List.range' 0 (2 ^ m)).filter fun a => p (setOf m a)).map (setOf m)
theorem mem_masksL {m : Nat} {p : List Int → Bool} {s : List Int} : s ∈ masksL m p ↔ (∃ a : Nat, a < 2 ^ m ∧ s = setOf m a) ∧ p s = true := by
  unfold masksL
  rw [List.mem_map]
  constructor
  · rintro ⟨a, ha, rfl⟩
    obtain ⟨h1, h2⟩ := List.mem_filter.1 ha
    exact ⟨⟨a, by have := List.mem_range'_1.1 h1; omega, rfl⟩, h2⟩
  · rintro ⟨⟨a, h1, rfl⟩, h2⟩
    exact ⟨a, List.mem_filter.2 ⟨List.mem_range'_1.2 (by omega), h2⟩, rfl⟩
theorem masksL_len (m : Nat) (p : List Int → Bool) : (masksL m p).length ≤ 2 ^ m := by
  unfold masksL
  rw [List.length_map]
  exact Nat.le_trans (List.length_filter_le ..) (by simp)
theorem masksL_nodup (m : Nat) (p : List Int → Bool) : (masksL m p).Nodup := by
  unfold masksL
  refine List.pairwise_map.2 (List.Pairwise.imp_of_mem (R := fun a b => a ≠ b) ?_ (List.Pairwise.filter _ ((List.pairwise_lt_range' (step := 1) (by omega)).imp fun {a b} h => by omega)))
  intro a b ha hb hab e
  have h1 := List.mem_range'_1.1 (List.mem_filter.1 ha).1
  have h2 := List.mem_range'_1.1 (List.mem_filter.1 hb).1
  exact hab (setOf_inj (by omega) (by omega) e)
theorem sets_eq {N m : Nat} {es : List (Int × Int)} {is : Int → Option Bool} {p : List Int → Bool} {ys : List (List Int)} (hm : m ≤ 8) (hp : ∀ a : Nat, a < 2 ^ m → is (a : Int) = some (p (setOf m a))) (hs : lexSorted ys) (hy : ∀ s, s ∈ ys ↔ (∃ a : Nat, a < 2 ^ m ∧ s = setOf m a) ∧ p s = true) (hN : 1048577 ≤ N) :
    Zq15 N ((m : Int), es) is = some ((ys, ()), ()) := by
  have h256 := pow256 hm
  have hpos : 0 < 2 ^ m := Nat.pow_pos (by omega)
  have go := loop_iter (L := fun K n o => Zq15_l0 N (fun o => ((Zq78 N o ()).bind fun r => some ((r.2.1, ()), ()))) K is (n : Int) (m : Int) es o) (k := fun o => ((Zq78 N o ()).bind fun r => some ((r.2.1, ()), ()))) (Inv := fun n o => o.length ≤ n) (step := fun n o => if p (setOf m n) = true then o ++ [setOf m n] else o) (m := 2 ^ m) (fun K n o hn ho => ?_) (fun K n o hn ho => ?_) (fun n o hn ho => ?_) (K := N) (s := []) (by omega) (Nat.zero_le _)
  · simp only [Int.natCast_zero] at go
    unfold Zq15
    simp only []
    rw [go, iter_map (f := setOf m) (p := fun n => p (setOf m n)), List.nil_append]
    have := masksL_len m p
    have := SortFunc_rows (N := N) (xs := masksL m p) (ys := ys) (by omega) (fun x hx => by
      obtain ⟨⟨a, _, rfl⟩, _⟩ := mem_masksL.1 hx
      have := setOf_len m a
      omega) (masksL_nodup m p) hs (fun s => by rw [hy s, mem_masksL]) hN
    unfold masksL at this
    rw [this]
    rfl
  · simp only [Zq15_l0, Zq4]
    have e : ile (n : Int) ((2 ^ m - 1 : Nat) : Int) = false := ile_f (by omega)
    rw [ile_t (by omega), chk_t, all8 m hm, bind_some']
    simp only [e, br_f]
  · simp only [Zq15_l0, Zq4]
    have e : ile (n : Int) ((2 ^ m - 1 : Nat) : Int) = true := ile_t (by omega)
    have ew : IntKind.u64.wrap ((n : Int) + 1) = ((n + 1 : Nat) : Int) := by
      have := wrap64 (n := n + 1) (by omega)
      rwa [show ((n + 1 : Nat) : Int) = (n : Int) + 1 by omega] at this ⊢
    rw [ile_t (by omega), chk_t, all8 m hm, bind_some']
    simp only [e, br_t]
    rw [hp n hn, bind_some', bag_list_eq hm hn hN, bind_some', room_ok (by simp; omega), chk_t, ew, tApp_d]
    cases p (setOf m n) <;> rfl
  · by_cases h : p (setOf m n) = true
    · rw [if_pos h]; simp; omega
    · rw [if_neg h]; omega
def sizeLt (a b : List Int) : Prop := a.length < b.length ∨ (a.length = b.length ∧ lexC a b < 0)
theorem l4Sets_in {R : Type} {N m : Nat} {es : List (Int × Int)} {kind : Int} {size : Nat} {o12 : List (List Int)} {k0 : Int → Int → Int → List (Int × Int) → List (List Int) → List (List Int) → Option R} (hm : m ≤ 8) (hx : es.length ≤ 1048576) (hN : 1048577 ≤ N) :
    Zq129_l0_0 N k0 N kind (size : Int) 0 (m : Int) es o12 [] = k0 kind (size : Int) (m : Int) es o12 (masksL m fun s => decide (s.length = size ∧ hasK m es kind s)) := by
  have h256 := pow256 hm
  have hpos : 0 < 2 ^ m := Nat.pow_pos (by omega)
  have hsh := shl8i m (by omega)
  have go := loop_iter (L := fun K n o => Zq129_l0_0 N k0 K kind (size : Int) (n : Int) (m : Int) es o12 o) (k := fun o => k0 kind (size : Int) (m : Int) es o12 o) (Inv := fun n o => o.length ≤ n) (step := fun n o => if decide ((setOf m n).length = size ∧ hasK m es kind (setOf m n)) = true then o ++ [setOf m n] else o) (m := 2 ^ m) (fun K n o hn ho => ?_) (fun K n o hn ho => ?_) (fun n o hn ho => ?_) (K := N) (s := []) (by omega) (Nat.zero_le _)
  · simp only [Int.natCast_zero] at go
    rw [go, iter_map (f := setOf m) (p := fun n => decide ((setOf m n).length = size ∧ hasK m es kind (setOf m n))), List.nil_append]
    rfl
  · simp only [Zq129_l0_0]
    rw [ile_t (by omega), chk_t, hsh, ilt_nf hn, br_f]
  · have hsl := setOf_len m n
    simp only [Zq129_l0_0]
    rw [ile_t (by omega), chk_t, hsh, ilt_n hn, br_t, l2Bits_set hm (by omega) hN, bind_some']
    simp only [tLen_n]
    by_cases h1 : (setOf m n).length = size
    · rw [ieq_t (by omega), br_t, l4Has_eq hm hx (by omega) hN, bind_some', wrap_succ (by omega)]
      simp only []
      by_cases h2 : hasK m es kind (setOf m n)
      · rw [decide_eq_true h2, br_t, room_ok (by simp; omega), chk_t, if_pos (decide_eq_true ⟨h1, h2⟩), tApp_d]
      · rw [decide_eq_false h2, br_f, if_neg (by simp [h2])]
    · rw [ieq_f (by omega), br_f, wrap_succ (by omega), if_neg (by simp [h1])]
  · by_cases h : decide ((setOf m n).length = size ∧ hasK m es kind (setOf m n)) = true
    · rw [if_pos h]; simp; omega
    · rw [if_neg h]; omega
theorem l4Sets_eq {N m : Nat} {es : List (Int × Int)} {kind : Int} (hm : m ≤ 8) (hx : es.length ≤ 1048576) (hN : 1048577 ≤ N) :
    ∃ L, Zq129 N ((m : Int), es) kind = some ((L, ()), ()) ∧ L.Pairwise sizeLt ∧ L.length ≤ 2304 ∧ ∀ s, s ∈ L ↔ (∃ a : Nat, a < 2 ^ m ∧ s = setOf m a) ∧ hasK m es kind s := by
  have h256 := pow256 hm
  have go : ∀ (d k K : Nat) (o : List (List Int)), k + d = m + 1 → d < K → o.length ≤ 256 * k → o.Pairwise sizeLt → (∀ s, s ∈ o ↔ ((∃ a : Nat, a < 2 ^ m ∧ s = setOf m a) ∧ hasK m es kind s) ∧ s.length < k) →
      ∃ L, Zq129_l0 N (fun o7 => some ((o7, ()), ())) K kind (k : Int) (m : Int) es o = some ((L, ()), ()) ∧ L.Pairwise sizeLt ∧ L.length ≤ 2304 ∧ ∀ s, s ∈ L ↔ (∃ a : Nat, a < 2 ^ m ∧ s = setOf m a) ∧ hasK m es kind s := by
    intro d
    induction d with
    | zero =>
      intro k K o hd hK hl hp hm'
      obtain ⟨K, rfl⟩ := succ_of hK
      simp only [Zq129_l0]
      rw [ile_f (by omega), br_f]
      refine ⟨o, rfl, hp, by omega, fun s => ?_⟩
      rw [hm' s]
      refine ⟨fun h => h.1, fun h => ⟨h, ?_⟩⟩
      obtain ⟨⟨a, _, rfl⟩, _⟩ := h
      have := setOf_len m a
      omega
    | succ d ih =>
      intro k K o hd hK hl hp hm'
      obtain ⟨K, rfl⟩ := succ_of hK
      simp only [Zq129_l0]
      rw [ile_t (by omega), br_t, l4Sets_in hm hx hN]
      have h1 := masksL_len m fun s => decide (s.length = k ∧ hasK m es kind s)
      obtain ⟨ys, y1, y2, y3⟩ := l2Sorted_eq (N := N) (xs := masksL m fun s => decide (s.length = k ∧ hasK m es kind s)) (by omega) (fun x hx => by
        obtain ⟨⟨a, _, rfl⟩, _⟩ := mem_masksL.1 hx
        have := setOf_len m a
        omega) hN
      have y4 : ∀ s, s ∈ ys ↔ ((∃ a : Nat, a < 2 ^ m ∧ s = setOf m a) ∧ hasK m es kind s) ∧ s.length = k := fun s => by
        rw [y3 s, mem_masksL, decide_eq_true_eq]
        exact ⟨fun ⟨h1, h2, h3⟩ => ⟨⟨h1, h3⟩, h2⟩, fun ⟨⟨h1, h2⟩, h3⟩ => ⟨h1, h3, h2⟩⟩
      have yl : ys.length ≤ 2 ^ m := Nat.le_trans (nodup_leL (lex_nodup y2) fun x hx => (y3 x).1 hx) h1
      rw [y1, bind_some']
      simp only []
      rw [room_ok (by omega), chk_t, wrap_succ (by omega), tApp_d]
      refine ih (k + 1) K (o ++ ys) (by omega) (by omega) (by simp; omega) (List.pairwise_append.2 ⟨hp, y2.imp_of_mem fun {a b} ha hb hab => .inr ⟨by rw [((y4 a).1 ha).2, ((y4 b).1 hb).2], hab⟩, fun a ha b hb => .inl ?_⟩) fun s => ?_
      · have q1 := ((hm' a).1 ha).2
        have q2 := ((y4 b).1 hb).2
        omega
      · rw [List.mem_append, hm' s, y4 s]
        constructor
        · rintro (⟨h1, h2⟩ | ⟨h1, h2⟩)
          · exact ⟨h1, by omega⟩
          · exact ⟨h1, by omega⟩
        · rintro ⟨h1, h2⟩
          by_cases h : s.length = k
          · exact .inr ⟨h1, h⟩
          · exact .inl ⟨h1, by omega⟩
  have := go (m + 1) 0 N [] (by omega) (by omega) (by simp) List.Pairwise.nil (by simp)
  exact this
noncomputable def loneL (a b : List Int) : List Int := a.filter fun z => decide (z ∉ b)
theorem asc_ext {a b : List Int} (ha : a.Pairwise (· < ·)) (hb : b.Pairwise (· < ·)) (h : ∀ z, z ∈ a ↔ z ∈ b) : a = b := by
  have na : a.Nodup := ha.imp fun h e => by omega
  have nb : b.Nodup := hb.imp fun h e => by omega
  have hp := (List.perm_ext_iff_of_nodup na nb).2 h
  clear h na nb
  induction a generalizing b with
  | nil => exact (List.nil_perm.1 hp).symm
  | cons x a ih =>
    cases b with
    | nil => exact absurd (List.perm_nil.1 hp) (by simp)
    | cons y b =>
      obtain ⟨a1, a2⟩ := List.pairwise_cons.1 ha
      obtain ⟨b1, b2⟩ := List.pairwise_cons.1 hb
      have e : x = y := by
        have h1 : x ∈ y :: b := hp.mem_iff.1 (List.mem_cons_self ..)
        have h2 : y ∈ x :: a := hp.mem_iff.2 (List.mem_cons_self ..)
        rcases List.mem_cons.1 h1 with h1 | h1
        · exact h1
        · rcases List.mem_cons.1 h2 with h2 | h2
          · exact h2.symm
          · have := a1 y h2
            have := b1 x h1
            omega
      subst e
      rw [ih a2 b2 (List.Perm.cons_inv hp)]
theorem bagOf_set {N m A : Nat} (hm : m ≤ 8) (hA : A < 2 ^ m) (hN : 1048577 ≤ N) : Zq34 N (setOf m A) = some (((A : Int), ()), ()) := by
  have h256 := pow256 hm
  have hsl := setOf_len m A
  obtain ⟨q, q1, q2, q3⟩ := bagOf_eq (N := N) (xs := setOf m A) (fun y hy => by obtain ⟨i, hi, _, rfl⟩ := mem_setOf.1 hy; omega) (by omega) hN
  have : q = A := by
    refine Nat.eq_of_testBit_eq fun i => ?_
    have h1 := q3 i
    rw [mem_setN] at h1
    by_cases hi : i < m
    · cases h2 : q.testBit i <;> cases h3 : A.testBit i <;> simp_all
    · rw [bit_out hA (by omega)]
      cases h2 : q.testBit i with
      | false => rfl
      | true => have := (h1.1 h2).1; omega
  rw [q1, this]
theorem less_set {m A B : Nat} (hm : m ≤ 8) (hA : A < 2 ^ m) (hB : B < 2 ^ m) : ∃ c : Nat, bitop .andNot .u64 (A : Int) (B : Int) = (c : Int) ∧ c < 2 ^ m ∧ setOf m c = loneL (setOf m A) (setOf m B) := by
  have h256 := pow256 hm
  obtain ⟨c, c1, c2, c3⟩ := lessN (a := A) (b := B) (by omega) (by omega)
  have hc : c < 2 ^ m := Nat.lt_pow_two_of_testBit _ fun i hi => by rw [c3 i, bit_out hA hi]; rfl
  refine ⟨c, c1, hc, asc_ext (setOf_strict m c) ((setOf_strict m A).filter _) fun z => ?_⟩
  unfold loneL
  rw [List.mem_filter, decide_eq_true_eq]
  constructor
  · intro hz
    obtain ⟨i, h1, h2, rfl⟩ := mem_setOf.1 hz
    rw [c3 i, Bool.and_eq_true] at h2
    refine ⟨mem_setN.2 ⟨h1, h2.1⟩, fun h => ?_⟩
    have := (mem_setN.1 h).2
    rw [this] at h2
    exact absurd h2.2 (by simp)
  · rintro ⟨h1, h2⟩
    obtain ⟨i, h3, h4, rfl⟩ := mem_setOf.1 h1
    refine mem_setN.2 ⟨h3, ?_⟩
    rw [c3 i, h4]
    cases h5 : B.testBit i with
    | false => rfl
    | true => exact absurd (mem_setN.2 ⟨h3, h5⟩) h2
theorem moves_eq {N m A B : Nat} (hm : m ≤ 8) (hA : A < 2 ^ m) (hB : B < 2 ^ m) (hN : 1048577 ≤ N) : ∃ x y : Nat, Zq50 N (setOf m A) (setOf m B) = some (((x : Int), (y : Int), ()), ()) ∧ x < 2 ^ m ∧ y < 2 ^ m ∧ setOf m x = loneL (setOf m A) (setOf m B) ∧ setOf m y = loneL (setOf m B) (setOf m A) := by
  obtain ⟨x, x1, x2, x3⟩ := less_set hm hA hB
  obtain ⟨y, y1, y2, y3⟩ := less_set hm hB hA
  refine ⟨x, y, ?_, x2, y2, x3, y3⟩
  unfold Zq50
  rw [bagOf_set hm hA hN, bagOf_set hm hB hN, bind_some', bind_some']
  simp only []
  rw [x1, y1]
theorem setOf_nodup (m a : Nat) : (setOf m a).Nodup := (setOf_strict m a).imp fun h e => by omega
theorem lex_small {m : Nat} {ys : List (List Int)} (hs : lexSorted ys) (h : ∀ s ∈ ys, ∃ a : Nat, a < 2 ^ m ∧ s = setOf m a) : ys.length ≤ 2 ^ m := by
  have := nodup_leL (lex_nodup hs) (b := masksL m fun _ => true) fun x hx => mem_masksL.2 ⟨h x hx, rfl⟩
  exact Nat.le_trans this (masksL_len ..)
def thrCase (g : Int × List (Int × Int)) (kind k : Int) : Prop := goodG g ∧ (1 ≤ kind ∧ kind ≤ 3) ∧ 0 ≤ k ∧ k ≤ g.1
theorem l4K_eq {N : Nat} {g : Int × List (Int × Int)} {kind k : Int} (hx : g.2.length ≤ 1048576) (hN : 1048577 ≤ N) : Zq125 N g kind k = some ((decide (thrCase g kind k), ()), ()) := by
  unfold Zq125 Zq123 Zq126 thrCase
  simp only [show ((g.1, g.2) : Int × List (Int × Int)) = g from rfl, l2Good_eq hx hN, l1In_eq, bind_some']
  by_cases h : goodG g
  · rw [decide_eq_true h, br_t, bind_some']
    by_cases h2 : 1 ≤ kind ∧ kind ≤ 3
    · rw [decide_eq_true h2, br_t]; simp [h, h2]
    · rw [decide_eq_false h2, br_f]; simp [h2]
  · rw [decide_eq_false h, br_f, bind_some', br_f]; simp [h]
theorem isThr_eq {N : Nat} {g : Int × List (Int × Int)} {kind k : Int} (hx : g.2.length ≤ 1048576) (hN : 1048577 ≤ N) : Zq49 N g kind k = some ((decide (thrCase g kind k), ()), ()) := by
  unfold Zq49 Zq42 thrCase
  simp only [show ((g.1, g.2) : Int × List (Int × Int)) = g from rfl, IsGraph_eq hx hN, between_eq, bind_some']
  by_cases h : goodG g
  · rw [decide_eq_true h, br_t]
    by_cases h2 : 1 ≤ kind ∧ kind ≤ 3
    · rw [decide_eq_true h2, br_t]; simp [h, h2]
    · rw [decide_eq_false h2, br_f]; simp [h2]
  · rw [decide_eq_false h, br_f]; simp [h]
end Go.Proofs.YtffeokcchabclaaGreat
