/- Statements on data alone. -/
import Derived.Test.YtfbkjgeaoafejaaPvPure
import Derived.Test.YtfbkjgeaoafejaaLayersOfGa
set_option linter.all false
set_option linter.all false
namespace Go.Proofs.Ytfbkjgeaoafejaa
open Go Go.PV Classical
theorem nbrs_ok {m : Nat} {es : List (Int × Int)} (hm : m ≤ 8) : okLists (nbrs m es) m := by
  refine ⟨by simp [nbrs], fun l hl => ?_⟩
  obtain ⟨i, _, rfl⟩ := List.mem_map.1 hl
  have := nbr_len m es (i : Int)
  refine ⟨by omega, fun z hz => ?_⟩
  obtain ⟨k, hk, _, rfl⟩ := mem_nbr.1 hz
  exact in_nat hk
theorem l3Far_bfs {N : Nat} {m : Nat} {es : List (Int × Int)} (hm : m ≤ 8) (hx : es.length ≤ 1048576) {x : Int} (hxm : InN m x) (hN : 1048577 ≤ N) : spec_l3Far N ((m : Int), es) x = some ((bfsD (nbrs m es) m x, ()), ()) := by
  have go : ∀ (d n K : Nat), n + d = m → d < K →
      spec_l3Far_l0 N (fun x1 o => ((spec_l2Spread N o x1).bind fun r => some ((r.1.1, ()), ()))) K x n (m : Int) es ((List.range n).map (fun i : Nat => nbr m es (i : Int)) ++ List.replicate d []) = ((spec_l2Spread N (nbrs m es) x).bind fun r => some ((r.1.1, ()), ())) := by
    intro d
    induction d with
    | zero =>
      intro n K hd hK
      obtain ⟨k, rfl⟩ := succ_of hK
      have : n = m := by omega
      subst this
      simp only [spec_l3Far_l0, ilt_nf (Nat.lt_irrefl n), br_f, List.replicate_zero, List.append_nil]
      rfl
    | succ d ih =>
      intro n K hd hK
      obtain ⟨k, rfl⟩ := succ_of hK
      simp only [spec_l3Far_l0, ilt_n (show n < m by omega), br_t]
      rw [l2Neighbors_eq hm hx hN, bind_some', inb_n (by simp), chk_t, wrap_succ (by omega), ← ih (n + 1) k (by omega) (by omega), tSet_n]
      congr 1
      rw [List.replicate_succ, List.set_append_right _ _ (by simp), List.range_succ, List.map_append]
      simp
  unfold spec_l3Far
  rw [ile_t (by omega), ile_t (Int.le_refl _), fits_ok (by omega)]
  simp only [Bool.and_self, chk_t]
  have := go m 0 N (by omega) (by omega)
  rw [tRep_n]
  simp only [Int.natCast_zero, List.range_zero, List.map_nil, List.nil_append] at this
  rw [this, l2Spread_bfs (nbrs_ok hm) (by omega) hxm hN]
  rfl
theorem shr32 {n : Nat} (h : n < 4294967296) : shrI .u64 (n : Int) 32 = 0 := by
  unfold shrI
  have : (n : Int).fdiv (2 ^ (min (32 : Int).toNat IntKind.u64.bits)) = (n : Int).fdiv 4294967296 := rfl
  rw [this, Int.fdiv_eq_ediv_of_nonneg _ (by omega)]
  omega
theorem and32 {n : Nat} (h : n < 4294967296) : bitop .and .u64 (n : Int) 4294967295 = n := by
  have := andN (a := n) (b := 4294967295) h (by omega)
  rw [show ((4294967295 : Nat) : Int) = 4294967295 from rfl] at this
  rw [this, show (4294967295 : Nat) = 2 ^ 32 - 1 from rfl, Nat.and_two_pow_sub_one_eq_mod]
  omega
theorem mul64_one {N m : Nat} (h : m < 4294967296) : math_bits_Mul N 1 (m : Int) = some ((0, (m : Int), ()), ()) := by
  have e1 : shrI .u64 1 32 = 0 := by have := shr32 (n := 1) (by omega); exact this
  have e2 : bitop .and .u64 1 4294967295 = 1 := by have := and32 (n := 1) (by omega); exact this
  have w0 : IntKind.u64.wrap 0 = 0 := by have := wrap64 (n := 0) (by omega); exact this
  have e3 : shrI .u64 0 32 = 0 := by have := shr32 (n := 0) (by omega); exact this
  have e4 : bitop .and .u64 0 4294967295 = 0 := by have := and32 (n := 0) (by omega); exact this
  unfold math_bits_Mul math_bits_Mul64
  simp only [e1, e2, shr32 h, and32 h, Int.zero_mul, Int.mul_zero, Int.one_mul, wrap64 (show m < 18446744073709551616 by omega), w0, Int.zero_add, Int.add_zero, e3, e4, bind_some']
theorem tMin_n (a b : Nat) : tMin (a : Int) (b : Int) = ((min a b : Nat) : Int) := by
  unfold tMin
  by_cases h : a ≤ b
  · rw [ile_t (by omega), Nat.min_eq_left h]; rfl
  · rw [ile_f (by omega), Nat.min_eq_right (by omega)]; rfl
theorem tPut_n {α : Type} (xs ys : List α) (l : Nat) : tPut xs (l : Int) ys = xs.take l ++ ys ++ xs.drop (l + ys.length) := by simp [tPut]
theorem Repeat_eq {N m : Nat} {v : Int} (hm : m ≤ 1048576) (hN : 1048577 ≤ N) : slices_Repeat_LI_int N [v] (m : Int) = some ((List.replicate m v, ()), ()) := by
  have go : ∀ (d n K : Nat), n + d = m → d < K → (0 < n ∨ m = 0) → slices_Repeat_LI_int_l0 N (fun o => some ((o, ()), ())) K n (List.replicate n v ++ List.replicate d 0) = some ((List.replicate m v, ()), ()) := by
    intro d
    induction d using Nat.strongRecOn with
    | _ d ih =>
      intro n K hd hK hn
      obtain ⟨k, rfl⟩ := succ_of hK
      have hlen : (List.replicate n v ++ List.replicate d 0).length = m := by simp; omega
      simp only [slices_Repeat_LI_int_l0]
      rw [tLen_n, hlen]
      by_cases h0 : d = 0
      · subst h0
        have : n = m := by omega
        subst this
        rw [ilt_nf (Nat.lt_irrefl n), br_f]
        simp
      · have hc0 : tCut (List.replicate n v ++ List.replicate d 0) 0 (n : Int) = List.replicate n v := by
          rw [show (0 : Int) = ((0 : Nat) : Int) from rfl, tCut_n]
          simp
        have hmin : tMin ((m : Int) - (n : Int)) (tLen (List.replicate n v)) = ((min d n : Nat) : Int) := by
          rw [tLen_n, List.length_replicate, show (m : Int) - (n : Int) = (d : Int) by omega, tMin_n]
        have hc1 : tCut (List.replicate n v) 0 ((min d n : Nat) : Int) = List.replicate (min d n) v := by
          rw [show (0 : Int) = ((0 : Nat) : Int) from rfl, tCut_n, List.take_replicate, List.drop_zero]
          congr 1
          omega
        rw [ilt_n (show n < m by omega), br_t, ile_t (show (0 : Int) ≤ (n : Int) by omega), ile_t (show (n : Int) ≤ (m : Int) by omega), ile_t (Int.le_refl (m : Int)), ile_t (Int.le_refl (0 : Int))]
        simp only [Bool.and_self, chk_t]
        rw [hc0, hmin, hc1]
        have hput : tPut (List.replicate n v ++ List.replicate d 0) (n : Int) (List.replicate (min d n) v) = List.replicate (n + min d n) v ++ List.replicate (d - min d n) 0 := by
          rw [tPut_n, List.take_left' (by simp), List.drop_append, List.length_replicate, List.length_replicate]
          rw [List.drop_of_length_le (by simp), List.nil_append, List.drop_replicate, List.replicate_append_replicate]
          congr 2
          omega
        rw [hput, wrap_ok (by omega) (by omega), show (n : Int) + ((min d n : Nat) : Int) = ((n + min d n : Nat) : Int) by omega]
        exact ih (d - min d n) (by omega) (n + min d n) k (by omega) (by omega) (.inl (by omega))
  unfold slices_Repeat_LI_int
  rw [ilt_f (by omega), br_f, show tLen [v] = ((1 : Nat) : Int) from rfl, wrap64 (by omega), wrap64 (by omega), show (((1 : Nat) : Int)) = 1 from rfl, mul64_one (by omega)]
  simp only [bind_some']
  rw [ilt_f (Int.lt_irrefl 0), br_f, ilt_f (by omega), br_f, wrap_ok (by omega) (by omega), ile_t (by omega), ile_t (Int.le_refl _), fits_ok (by omega)]
  simp only [Bool.and_self, chk_t]
  rw [tRep_n, tLen_n, List.length_replicate, show (1 : Int) = ((1 : Nat) : Int) from rfl, tMin_n]
  have hc : tCut [v] 0 ((min m 1 : Nat) : Int) = List.replicate (min m 1) v := by
    rw [show (0 : Int) = ((0 : Nat) : Int) from rfl, tCut_n]
    by_cases h0 : m = 0
    · subst h0; rfl
    · rw [show min m 1 = 1 by omega]; rfl
  have hp : tPut (List.replicate m (0 : Int)) 0 (List.replicate (min m 1) v) = List.replicate (min m 1) v ++ List.replicate (m - min m 1) 0 := by
    rw [show (0 : Int) = ((0 : Nat) : Int) from rfl, tPut_n]
    simp
  rw [hc, hp]
  exact go (m - min m 1) (min m 1) N (by omega) (by omega) (by omega)
theorem tCut_drop {xs : List Int} {a b : Nat} (h : b ≤ xs.length) (hab : a ≤ b) {n : Nat} {q : List Int} (hc : tCut xs (a : Int) (b : Int) = q.drop n) (hn : n ≤ q.length) : b - a = q.length - n := by
  have := congrArg List.length hc
  rw [tCut_n, List.length_drop, List.length_take, List.length_drop] at this
  omega
theorem spread_in_eq {R : Type} {N : Nat} (k0 : List (List Int) → Int → Int → List Int → List Int → Option R) {lists : List (List Int)} {m n : Nat} {x : Int} {row : List Int} (hN : 1048577 ≤ N) (hm : m ≤ 1048575) (hrl : row.length ≤ 1048576) (hrow : ∀ z ∈ row, InN m z) :
    ∀ (d i K : Nat) (lo hi : Nat) (o1 : List Int) (s : List Int × List Int) (u : Int), i + d = row.length → d < K → lo ≤ hi → hi ≤ o1.length → tCut o1 (lo : Int) (hi : Int) = s.2.drop (n + 1) → Bfs lists m x n s.1 s.2 → n < s.2.length → u = rdI s.2 n → (∀ z ∈ row, z ∈ rdL lists u) →
      ∃ (lo' hi' : Nat) (o1' : List Int), lo' ≤ hi' ∧ hi' ≤ o1'.length ∧ tCut o1' (lo' : Int) (hi' : Int) = ((row.drop i).foldl (spF u) s).2.drop (n + 1) ∧
        impl_spread_l0_0 N k0 K lists lo hi u row (row.length : Int) i s.1 o1 = k0 lists lo' hi' ((row.drop i).foldl (spF u) s).1 o1' := by
  intro d
  induction d with
  | zero =>
    intro i K lo hi o1 s u hd hK hlh hho hc hb hn hu hr
    obtain ⟨k, rfl⟩ := succ_of hK
    simp only [impl_spread_l0_0, ilt_nf (show ¬ i < row.length by omega), br_f]
    rw [List.drop_of_length_le (show row.length ≤ i by omega)]
    exact ⟨lo, hi, o1, hlh, hho, hc, rfl⟩
  | succ d ih =>
    intro i K lo hi o1 s u hd hK hlh hho hc hb hn hu hr
    obtain ⟨k, rfl⟩ := succ_of hK
    have hi' : i < row.length := by omega
    have hz := hrow _ (List.getElem_mem hi')
    have hus : u ∈ s.2 := by rw [hu, rdI_n hn]; exact List.getElem_mem hn
    have hum := hb.spi.2.1.2 u hus
    have hu0 := (hb.spi.2.2.1 u hum).2 hus
    have hu1 := hb.spi.2.2.2.1 u hum
    have hsl := inM_len hb.spi.2.1
    have hlen := hb.spi.1
    have hwin := tCut_drop hho hlh hc (by omega)
    have hstep := bfs_step hb hn hz (by rw [← hu]; exact hr _ (List.getElem_mem hi'))
    rw [← hu] at hstep
    obtain ⟨g1, ⟨t, g2⟩, _⟩ := hstep
    have hg3 : rdI (spF u s row[i]).2 n = u := by rw [g2, rdI_n (by simp; omega), List.getElem_append_left hn, ← rdI_n hn, hu]
    have hg4 : n < (spF u s row[i]).2.length := by rw [g2]; simp; omega
    have hdr : (row.drop i).foldl (spF u) s = (row.drop (i + 1)).foldl (spF u) (spF u s row[i]) := by rw [drop_cons hi', List.foldl_cons]
    rw [hdr]
    simp only [impl_spread_l0_0, ilt_n hi', br_t, inb_n hi', chk_t, rdI_n hi']
    rw [inb_i hz.1 (by rw [hlen]; exact hz.2), chk_t, wrap_succ (by omega)]
    by_cases hcc : rdI s.1 row[i] < 0
    · have e : spF u s row[i] = (tSet s.1 row[i] (rdI s.1 u + 1), s.2 ++ [row[i]]) := by unfold spF; rw [if_pos hcc]
      rw [ilt_t hcc, br_t, inb_i hum.1 (by rw [hlen]; exact hum.2), chk_t, chk_t]
      have hcl : (tCut o1 (lo : Int) (hi : Int)).length = s.2.length - (n + 1) := by rw [hc, List.length_drop]
      rw [room_ok (by simp only [List.length_singleton]; omega), chk_t, wrap_ok (by omega) (by omega)]
      have key := ih (i + 1) k 0 (tApp (tCut o1 (lo : Int) (hi : Int)) [row[i]]).length (tApp (tCut o1 (lo : Int) (hi : Int)) [row[i]]) (spF u s row[i]) u (by omega) (by omega) (Nat.zero_le _) (Nat.le_refl _) (by
        rw [tCut_n, tApp_d, hc, e]
        simp only [List.take_length, List.drop_zero]
        rw [List.drop_append_of_le_length (by omega)]) g1 hg4 hg3.symm hr
      obtain ⟨lo', hi2, o2, k1, k2, k3, k4⟩ := key
      refine ⟨lo', hi2, o2, k1, k2, k3, ?_⟩
      rw [← k4, e]
      rfl
    · have e : spF u s row[i] = s := by unfold spF; rw [if_neg hcc]
      rw [ilt_f hcc, br_f]
      rw [e] at g1 hg3 hg4 ⊢
      exact ih (i + 1) k lo hi o1 s u (by omega) (by omega) hlh hho hc g1 hg4 hg3.symm hr
theorem spread_eq {N : Nat} {lists : List (List Int)} {m : Nat} {x : Int} (hl : okLists lists m) (hm : m ≤ 1048575) (hx : InN m x) (hN : 1048577 ≤ N) : impl_spread N lists x = some ((bfsD lists m x, ()), ()) := by
  have go : ∀ (d n K : Nat) (lo hi : Nat) (o o1 q : List Int), n + d = m → d < K → n ≤ q.length → lo ≤ hi → hi ≤ o1.length → tCut o1 (lo : Int) (hi : Int) = q.drop n → Bfs lists m x n o q →
      impl_spread_l0 N (fun o1 => some ((o1, ()), ())) K lists lo hi o o1 = some ((bfsR lists d n o q, ()), ()) := by
    intro d
    induction d with
    | zero =>
      intro n K lo hi o o1 q hd hK hn hlh hho hc hb
      obtain ⟨k, rfl⟩ := succ_of hK
      have hqm := inM_len hb.spi.2.1
      have hwin := tCut_drop hho hlh hc hn
      simp only [impl_spread_l0]
      rw [ilt_f (by omega), br_f]
      rfl
    | succ d ih =>
      intro n K lo hi o o1 q hd hK hn hlh hho hc hb
      obtain ⟨k, rfl⟩ := succ_of hK
      have hqm := inM_len hb.spi.2.1
      have hwin := tCut_drop hho hlh hc hn
      simp only [impl_spread_l0]
      unfold bfsR
      by_cases hnq : n < q.length
      · have hhead : rdI o1 ((lo : Int) + 0) = rdI q n := by
          rw [Int.add_zero, rdI_n (by omega), rdI_n hnq]
          have h1 : (tCut o1 (lo : Int) (hi : Int))[0]? = (q.drop n)[0]? := by rw [hc]
          rw [tCut_n, List.getElem?_drop, List.getElem?_take, if_pos (by omega), List.getElem?_drop, Nat.add_zero, Nat.add_zero, List.getElem?_eq_getElem (by omega), List.getElem?_eq_getElem hnq] at h1
          injection h1
        have huq : rdI q n ∈ q := by rw [rdI_n hnq]; exact List.getElem_mem hnq
        have hum := hb.spi.2.1.2 _ huq
        obtain ⟨hr1, hr2⟩ := okL_row hl (show InN m (rdI q n) from hum)
        rw [ilt_t (show (0 : Int) < (hi : Int) - (lo : Int) by omega), br_t, ile_t (Int.le_refl 0), ile_t (show (0 : Int) ≤ 1 by omega), ile_t (show (1 : Int) ≤ (hi : Int) - (lo : Int) by omega), ile_t (Int.le_refl ((hi : Int) - (lo : Int)))]
        simp only [Bool.and_self, chk_t]
        rw [hhead, inb_i hum.1 (by rw [hl.1]; exact hum.2), chk_t, tLen_n, if_pos hnq]
        have hc' : tCut o1 ((lo + 1 : Nat) : Int) (hi : Int) = q.drop (n + 1) := by
          rw [tCut_n] at hc ⊢
          rw [← List.drop_drop, hc, List.drop_drop]
        obtain ⟨lo', hi', o1', g1, g2, g3, g4⟩ := spread_in_eq (N := N) (fun roads2 queue2 queue3 o2 o3 => impl_spread_l0 N (fun o1 => some ((o1, ()), ())) k roads2 queue2 queue3 o2 o3) hN hm hr1 hr2 (rdL lists (rdI q n)).length 0 N (lo + 1) hi o1 (o, q) (rdI q n) (by omega) (by omega) (by omega) hho hc' hb hnq rfl (fun _ h => h)
        simp only [Int.natCast_zero, List.drop_zero] at g3 g4
        rw [show (lo : Int) + 1 = ((lo + 1 : Nat) : Int) by omega, show (lo : Int) + ((hi : Int) - (lo : Int)) = (hi : Int) by omega, g4]
        obtain ⟨h1, t, h2⟩ := bfs_next hl hb hnq
        exact ih (n + 1) k lo' hi' _ o1' _ (by omega) (by omega) (by rw [h2]; simp; omega) g1 g2 g3 h1
      · rw [ilt_f (by omega), br_f, if_neg hnq]
  unfold impl_spread
  rw [tLen_n, hl.1, Repeat_eq (by omega) hN]
  simp only [bind_some']
  rw [inb_i hx.1 (by simp; exact hx.2), chk_t]
  exact go m 0 N 0 1 _ [x] [x] (by omega) (by omega) (by simp) (by omega) (by simp) (by rw [tCut_n]; rfl) (bfs_init hx)
noncomputable def nextW (L : List (List Int)) (F : List Int) (x : Int) : List Int := (rdL L x).filter fun y => decide (rdI F y = rdI F x - 1)
noncomputable def waysF (L : List (List Int)) (F : List Int) : Nat → Int → List Int → List (List Int)
  | 0, x, b => if rdI F x = 0 then [b] else []
  | d + 1, x, b => if rdI F x = 0 then [b] else (nextW L F x).flatMap fun y => waysF L F d y (b ++ [y])
noncomputable def cntF (L : List (List Int)) (F : List Int) : Nat → Int → Nat
  | 0, x => if rdI F x = 0 then 1 else 0
  | d + 1, x => if rdI F x = 0 then 1 else ((nextW L F x).map fun y => cntF L F d y).sum
theorem ways_cnt {L : List (List Int)} {F : List Int} : ∀ (d : Nat) (x : Int) (b : List Int), (waysF L F d x b).length = cntF L F d x := by
  intro d
  induction d with
  | zero => intro x b; unfold waysF cntF; by_cases h : rdI F x = 0 <;> simp [h]
  | succ d ih =>
    intro x b
    unfold waysF cntF
    by_cases h : rdI F x = 0
    · simp [h]
    · rw [if_neg h, if_neg h, List.length_flatMap]
      congr 1
      exact List.map_congr_left fun y _ => ih y _
theorem ways_len {L : List (List Int)} {F : List Int} : ∀ (d : Nat) (x : Int) (b : List Int), ∀ w ∈ waysF L F d x b, w.length ≤ b.length + d := by
  intro d
  induction d with
  | zero => intro x b w hw; unfold waysF at hw; split at hw <;> simp at hw; rw [hw]; omega
  | succ d ih =>
    intro x b w hw
    unfold waysF at hw
    by_cases h : rdI F x = 0
    · rw [if_pos h] at hw; simp at hw; rw [hw]; omega
    · rw [if_neg h] at hw
      obtain ⟨y, _, hy⟩ := List.mem_flatMap.1 hw
      have := ih y _ w hy
      simp at this
      omega
theorem sum_le {α : Type} {f : α → Nat} {b : Nat} : ∀ {xs : List α}, (∀ x ∈ xs, f x ≤ b) → (xs.map f).sum ≤ xs.length * b := by
  intro xs
  induction xs with
  | nil => intro _; simp
  | cons x xs ih =>
    intro h
    have h1 := h x (List.mem_cons_self ..)
    have h2 := ih fun y hy => h y (List.mem_cons_of_mem _ hy)
    rw [List.map_cons, List.sum_cons, List.length_cons, Nat.add_mul]
    omega
theorem cnt_le {L : List (List Int)} {F : List Int} (hL : ∀ l ∈ L, l.length ≤ 8) : ∀ (d : Nat) (x : Int), cntF L F d x ≤ 8 ^ d := by
  intro d
  induction d with
  | zero => intro x; unfold cntF; split <;> omega
  | succ d ih =>
    intro x
    unfold cntF
    have hp : 1 ≤ 8 ^ (d + 1) := Nat.one_le_pow _ _ (by omega)
    split
    · exact hp
    · refine Nat.le_trans (sum_le fun y _ => ih y) ?_
      have h1 : (nextW L F x).length ≤ (rdL L x).length := List.length_filter_le ..
      have h2 := rdL_len hL x
      rw [Nat.pow_succ, Nat.mul_comm (8 ^ d)]
      exact Nat.mul_le_mul_right _ (by omega)
theorem roads_eq {N : Nat} {m : Nat} {es : List (Int × Int)} (hm : m ≤ 8) (hg : goodG ((m : Int), es)) (hx : es.length ≤ 1048576) (hN : 1048577 ≤ N) : impl_Graph_roads N ((m : Int), es) = some ((nbrs m es, ()), ()) := by
  unfold impl_Graph_roads
  have go : ∀ (d n K : Nat), n + d = m → d < K → impl_Graph_roads_l0 N (fun o => some ((o, ()), ())) K (m : Int) n (m : Int) es ((List.range n).map fun i : Nat => nbr m es (i : Int)) = some ((nbrs m es, ()), ()) := by
    intro d
    induction d with
    | zero =>
      intro n K hd hK
      obtain ⟨k, rfl⟩ := succ_of hK
      have : n = m := by omega
      subst this
      simp only [impl_Graph_roads_l0, ilt_nf (Nat.lt_irrefl n), br_f]
      rfl
    | succ d ih =>
      intro n K hd hK
      obtain ⟨k, rfl⟩ := succ_of hK
      simp only [impl_Graph_roads_l0, ilt_n (show n < m by omega), br_t]
      rw [neighbors_eq hg hx hN, bind_some', room_ok (by simp; omega), chk_t, wrap_succ (by omega), ← ih (n + 1) k (by omega) (by omega), List.range_succ, List.map_append]
      rfl
  exact go m 0 N (by omega) (by omega)
/-- What holds of distances to an end. -/
structure FarOk (m : Nat) (es : List (Int × Int)) (t : Int) (F : List Int) : Prop where
  len : F.length = m
  zero : rdI F t = 0
  one : ∀ y, InN m y → rdI F y = 0 → y = t
  lt : ∀ y, InN m y → rdI F y < m
theorem far_ok {m : Nat} {es : List (Int × Int)} {t : Int} (hm : m ≤ 8) (ht : InN m t) : FarOk m es t (bfsD (nbrs m es) m t) := by
  obtain ⟨h1, h2, h3, h4, _⟩ := bfsD_spec (nbrs_ok (es := es) hm) ht
  exact ⟨h1, h2, h4, h3⟩
theorem mem_next {m : Nat} {es : List (Int × Int)} {F : List Int} {x y : Int} (hx : InN m x) (h : y ∈ nextW (nbrs m es) F x) : InN m y ∧ rdI F y = rdI F x - 1 := by
  obtain ⟨h1, h2⟩ := List.mem_filter.1 h
  rw [rd_nbrs hx] at h1
  obtain ⟨i, hi, _, rfl⟩ := mem_nbr.1 h1
  exact ⟨in_nat hi, of_decide_eq_true h2⟩
theorem from_ways_eq {N : Nat} {m : Nat} {es : List (Int × Int)} {t : Int} {F : List Int} (hm : m ≤ 8) (hF : FarOk m es t F) (ht : InN m t) (hN : 1048577 ≤ N) : ∀ (d fu : Nat) (x : Int) (b : List Int) (o : List (List Int)), d < fu → InN m x → rdI F x = d → b.length + d ≤ 1048575 → o.length + (waysF (nbrs m es) F d x b).length ≤ 1099511627776 →
    impl_Graph_ways_c1_r N fu x t o b (nbrs m es) F () = some ((), (o ++ waysF (nbrs m es) F d x b, (b, ()))) := by
  intro d
  induction d with
  | zero =>
    intro fu x b o hfu hxm hd hb ho
    obtain ⟨fu, rfl⟩ := succ_of hfu
    have hxt := hF.one x hxm (by omega)
    have hw : waysF (nbrs m es) F 0 x b = [b] := by unfold waysF; rw [if_pos (by omega)]
    rw [hw] at ho ⊢
    unfold impl_Graph_ways_c1_r impl_Graph_ways_c1_b
    rw [ieq_t hxt, br_t, Clone_eq (by omega), bind_some']
    simp only []
    rw [room_ok ho, chk_t]
    rfl
  | succ d ih =>
    intro fu x b o hfu hxm hd hb ho
    obtain ⟨fu, rfl⟩ := succ_of hfu
    have hxt : x ≠ t := fun h => by rw [h, hF.zero] at hd; omega
    have hw : waysF (nbrs m es) F (d + 1) x b = (nextW (nbrs m es) F x).flatMap fun y => waysF (nbrs m es) F d y (b ++ [y]) := by
      rw [waysF, if_neg (by omega)]
    rw [hw] at ho ⊢
    unfold impl_Graph_ways_c1_r impl_Graph_ways_c1_b
    rw [ieq_f hxt, br_f, inb_i hxm.1 (by simp [nbrs]; exact hxm.2), chk_t, rd_nbrs hxm, tLen_n]
    unfold nextW at ho ⊢
    rw [rd_nbrs hxm] at ho ⊢
    have hnl := nbr_len m es x
    have hlt := hF.lt x hxm
    have hin : ∀ y ∈ nbr m es x, InN m y := fun y hy => by
      obtain ⟨i, hi, _, rfl⟩ := mem_nbr.1 hy
      exact in_nat hi
    have go : ∀ (j n K : Nat) (o : List (List Int)), n + j = (nbr m es x).length → j < K → o.length + ((((nbr m es x).drop n).filter fun y => decide (rdI F y = rdI F x - 1)).flatMap fun y => waysF (nbrs m es) F d y (b ++ [y])).length ≤ 1099511627776 →
        impl_Graph_ways_c1_l0 N (impl_Graph_ways_c1_r N fu) (fun o o1 => some ((), (o, o1, ()))) K x F t (nbrs m es) F (nbr m es x) ((nbr m es x).length : Int) n o b = some ((), (o ++ (((nbr m es x).drop n).filter fun y => decide (rdI F y = rdI F x - 1)).flatMap fun y => waysF (nbrs m es) F d y (b ++ [y]), (b, ()))) := by
      intro j
      induction j with
      | zero =>
        intro n K o hj hK ho
        obtain ⟨k, rfl⟩ := succ_of hK
        simp only [impl_Graph_ways_c1_l0, ilt_nf (show ¬ n < (nbr m es x).length by omega), br_f]
        rw [List.drop_of_length_le (by omega)]
        simp
      | succ j ihj =>
        intro n K o hj hK ho
        obtain ⟨k, rfl⟩ := succ_of hK
        have hn : n < (nbr m es x).length := by omega
        have hy := hin _ (List.getElem_mem hn)
        simp only [impl_Graph_ways_c1_l0, ilt_n hn, br_t, inb_n hn, chk_t, rdI_n hn]
        rw [inb_i hy.1 (by rw [hF.len]; exact hy.2), chk_t, inb_i hxm.1 (by rw [hF.len]; exact hxm.2), chk_t, wrap_ok (n := rdI F x - 1) (by omega) (by omega), wrap_succ (by omega)]
        rw [drop_cons hn, List.filter_cons] at ho ⊢
        by_cases hc : rdI F (nbr m es x)[n] = rdI F x - 1
        · rw [if_pos (decide_eq_true hc), List.flatMap_cons, List.length_append] at ho
          rw [ieq_t hc, br_t, room_ok (by simp; omega), chk_t, tApp_d, ih fu _ (b ++ [(nbr m es x)[n]]) o (by omega) hy (by omega) (by simp; omega) (by omega), bind_some', if_pos (decide_eq_true hc), List.flatMap_cons]
          have hcut : tCut (b ++ [(nbr m es x)[n]]) 0 (b.length : Int) = b := by
            rw [show (0 : Int) = ((0 : Nat) : Int) from rfl, tCut_n]
            simp
          have hwl : IntKind.i64.wrap (((b ++ [(nbr m es x)[n]]).length : Int) - 1) = (b.length : Int) := by
            rw [List.length_append, List.length_singleton, wrap_ok (by omega) (by omega)]; omega
          simp only [tLen_n]
          rw [hwl, hcut, ile_t (by omega), ile_t (by omega), ile_t (by rw [List.length_append]; omega)]
          simp only [Bool.and_self, chk_t]
          rw [ihj (n + 1) k _ (by omega) (by omega) (by rw [List.length_append]; omega), List.append_assoc]
        · rw [if_neg (by simpa using hc)] at ho ⊢
          rw [ieq_f hc, br_f]
          exact ihj (n + 1) k o (by omega) (by omega) ho
    have := go (nbr m es x).length 0 N o (by omega) (by omega) ho
    simp only [Int.natCast_zero, List.drop_zero] at this
    exact this
noncomputable def waysL (m : Nat) (es : List (Int × Int)) (s t : Int) : List (List Int) :=
  if rdI (bfsD (nbrs m es) m t) s < 0 then [] else waysF (nbrs m es) (bfsD (nbrs m es) m t) (rdI (bfsD (nbrs m es) m t) s).toNat s [s]
theorem waysL_len {m : Nat} {es : List (Int × Int)} {s t : Int} (hm : m ≤ 8) (hs : InN m s) (ht : InN m t) : (waysL m es s t).length ≤ 2097152 ∧ ∀ w ∈ waysL m es s t, w.length ≤ 8 := by
  have hF := far_ok (es := es) hm ht
  have hlt := hF.lt s hs
  unfold waysL
  by_cases h : rdI (bfsD (nbrs m es) m t) s < 0
  · rw [if_pos h]; simp
  · rw [if_neg h]
    have hrow : ∀ l ∈ nbrs m es, l.length ≤ 8 := fun l hl => by
      obtain ⟨i, _, rfl⟩ := List.mem_map.1 hl
      have := nbr_len m es (i : Int)
      omega
    refine ⟨?_, fun w hw => ?_⟩
    · rw [ways_cnt]
      refine Nat.le_trans (cnt_le hrow _ _) ?_
      exact Nat.le_trans (Nat.pow_le_pow_right (by omega) (show _ ≤ 7 by omega)) (by decide)
    · have := ways_len _ _ _ w hw
      simp at this
      omega
theorem impl_ways_eq {N : Nat} {m : Nat} {es : List (Int × Int)} {s t : Int} (hm : m ≤ 8) (hg : goodG ((m : Int), es)) (hx : es.length ≤ 1048576) (hs : InN m s) (ht : InN m t) (hN : 1048577 ≤ N) : impl_Graph_ways N ((m : Int), es) s t = some ((waysL m es s t, ()), ()) := by
  have hF := far_ok (es := es) hm ht
  have hlt := hF.lt s hs
  obtain ⟨hl1, hl2⟩ := waysL_len (es := es) hm hs ht
  unfold impl_Graph_ways
  simp only []
  rw [roads_eq hm hg hx hN, bind_some']
  simp only []
  rw [spread_eq (nbrs_ok hm) (by omega) ht hN, bind_some']
  simp only []
  rw [inb_i hs.1 (by rw [hF.len]; exact hs.2), chk_t]
  unfold waysL at hl1 ⊢
  by_cases h : rdI (bfsD (nbrs m es) m t) s < 0
  · rw [ilt_t h, br_t, if_pos h]
  · rw [if_neg h] at hl1
    rw [ilt_f h, br_f, if_neg h]
    unfold impl_Graph_ways_c1
    rw [from_ways_eq hm hF ht hN _ N s [s] [] (show (rdI (bfsD (nbrs m es) m t) s).toNat < N by omega) hs (by omega) (by simp; omega) (by rw [List.length_nil]; omega), bind_some']
    rfl
theorem ends_eq {N : Nat} {g : Int × List (Int × Int)} {s t : Int} (hx : g.2.length ≤ 1048576) (hN : 1048577 ≤ N) : spec_l7Ends N g s t = some ((decide (goodG g ∧ (0 ≤ s ∧ s ≤ g.1 - 1) ∧ 0 ≤ t ∧ t ≤ g.1 - 1), ()), ()) ∧ impl_isTwoNodes N g s t = some ((decide (goodG g ∧ (0 ≤ s ∧ s ≤ g.1 - 1) ∧ 0 ≤ t ∧ t ≤ g.1 - 1), ()), ()) := by
  unfold spec_l7Ends impl_isTwoNodes spec_l1In impl_between
  rw [l2Good_eq hx hN, IsGraph_eq hx hN]
  refine (and_self _).mpr ?_
  simp only [bind_some']
  by_cases h : goodG g
  · have h0 := h.1
    rw [decide_eq_true h, br_t, wrap_ok (by omega) (by omega)]
    by_cases h1 : 0 ≤ s
    · rw [ile_t h1, br_t, bind_some', ile_d]
      by_cases h2 : s ≤ g.1 - 1
      · rw [decide_eq_true h2, br_t]
        by_cases h3 : 0 ≤ t
        · rw [ile_t h3, br_t, ile_d]
          simp [h, h1, h2, h3]
        · rw [ile_f h3, br_f]
          simp [h3]
      · rw [decide_eq_false h2]
        simp [h2, br_f]
    · rw [ile_f h1, br_f]
      simp [h1, br_f]
  · rw [decide_eq_false h, br_f]
    simp [h]
def Dc (L : List (List Int)) (F : List Int) : Nat → Int → Int → Prop
  | 0, x, y => x = y
  | k + 1, x, y => ∃ z, z ∈ nextW L F x ∧ Dc L F k z y
theorem Dc_snoc {L : List (List Int)} {F : List Int} : ∀ (k : Nat) (x y z : Int), Dc L F k x y → z ∈ nextW L F y → Dc L F (k + 1) x z := by
  intro k
  induction k with
  | zero => intro x y z h hz; have : x = y := h; subst this; exact ⟨z, hz, rfl⟩
  | succ k ih =>
    intro x y z h hz
    obtain ⟨u, h1, h2⟩ := h
    exact ⟨u, h1, ih u y z h2 hz⟩
theorem ways_pre {L : List (List Int)} {F : List Int} : ∀ (d : Nat) (x : Int) (b : List Int), ∀ w ∈ waysF L F d x b, ∃ p, w = b ++ p := by
  intro d
  induction d with
  | zero => intro x b w hw; unfold waysF at hw; split at hw <;> simp at hw; exact ⟨[], by simp [hw]⟩
  | succ d ih =>
    intro x b w hw
    unfold waysF at hw
    by_cases h : rdI F x = 0
    · rw [if_pos h] at hw; simp at hw; exact ⟨[], by simp [hw]⟩
    · rw [if_neg h] at hw
      obtain ⟨y, _, hy⟩ := List.mem_flatMap.1 hw
      obtain ⟨p, hp⟩ := ih y _ w hy
      exact ⟨[y] ++ p, by rw [hp, List.append_assoc]⟩
theorem ways_at {m : Nat} {es : List (Int × Int)} {F : List Int} (hne : ∀ (d : Nat) (x : Int), InN m x → rdI F x = ((d + 1 : Nat) : Int) → ∃ z, z ∈ nextW (nbrs m es) F x) : ∀ (d : Nat) (x : Int) (b : List Int), InN m x → rdI F x = d →
    (∀ w ∈ waysF (nbrs m es) F d x (b ++ [x]), w.length = b.length + 1 + d ∧ ∀ k, k ≤ d → ∃ y, w[b.length + k]? = some y ∧ Dc (nbrs m es) F k x y) ∧
      ∀ k, k ≤ d → ∀ y, Dc (nbrs m es) F k x y → ∃ w ∈ waysF (nbrs m es) F d x (b ++ [x]), w[b.length + k]? = some y := by
  intro d
  induction d with
  | zero =>
    intro x b hx hd
    have hw : waysF (nbrs m es) F 0 x (b ++ [x]) = [b ++ [x]] := by unfold waysF; rw [if_pos (by omega)]
    rw [hw]
    refine ⟨fun w hw => ?_, fun k hk y hy => ?_⟩
    · simp at hw
      subst hw
      refine ⟨by simp, fun k hk => ⟨x, ?_, ?_⟩⟩
      · have : k = 0 := by omega
        subst this
        simp
      · have : k = 0 := by omega
        subst this
        rfl
    · have : k = 0 := by omega
      subst this
      have : x = y := hy
      subst this
      exact ⟨b ++ [x], by simp, by simp⟩
  | succ d ih =>
    intro x b hx hd
    have hw : waysF (nbrs m es) F (d + 1) x (b ++ [x]) = (nextW (nbrs m es) F x).flatMap fun y => waysF (nbrs m es) F d y (b ++ [x] ++ [y]) := by
      rw [waysF, if_neg (by omega)]
    rw [hw]
    have hnx : ∀ z ∈ nextW (nbrs m es) F x, InN m z ∧ rdI F z = d := fun z hz => by
      obtain ⟨h1, h2⟩ := mem_next hx hz
      exact ⟨h1, by omega⟩
    refine ⟨fun w hw => ?_, fun k hk y hy => ?_⟩
    · obtain ⟨z, hz, hw⟩ := List.mem_flatMap.1 hw
      obtain ⟨hz1, hz2⟩ := hnx z hz
      obtain ⟨i1, i2⟩ := (ih z (b ++ [x]) hz1 hz2).1 w hw
      obtain ⟨p, hp⟩ := ways_pre _ _ _ w hw
      refine ⟨by rw [i1]; simp; omega, fun k hk => ?_⟩
      cases k with
      | zero => exact ⟨x, by rw [hp]; simp, rfl⟩
      | succ k =>
        obtain ⟨y, j1, j2⟩ := i2 k (by omega)
        refine ⟨y, ?_, z, hz, j2⟩
        rw [← j1]
        congr 1
        simp
        omega
    · cases k with
      | zero =>
        have : x = y := hy
        subst this
        obtain ⟨z, hz⟩ := hne d x hx hd
        obtain ⟨hz1, hz2⟩ := hnx z hz
        obtain ⟨w, hw, _⟩ := (ih z (b ++ [x]) hz1 hz2).2 0 (Nat.zero_le _) z rfl
        obtain ⟨p, hp⟩ := ways_pre _ _ _ w hw
        exact ⟨w, List.mem_flatMap.2 ⟨z, hz, hw⟩, by rw [hp]; simp⟩
      | succ k =>
        obtain ⟨z, hz, hy⟩ := hy
        obtain ⟨hz1, hz2⟩ := hnx z hz
        obtain ⟨w, hw, j1⟩ := (ih z (b ++ [x]) hz1 hz2).2 k (by omega) y hy
        refine ⟨w, List.mem_flatMap.2 ⟨z, hz, hw⟩, ?_⟩
        rw [← j1]
        congr 1
        simp
        omega
theorem nbrs_symm {m : Nat} {es : List (Int × Int)} {y z : Int} (hy : InN m y) (hz : InN m z) (h : z ∈ rdL (nbrs m es) y) : y ∈ rdL (nbrs m es) z := by
  rw [rd_nbrs hy] at h
  rw [rd_nbrs hz]
  obtain ⟨i, hi, hn, rfl⟩ := mem_nbr.1 h
  obtain ⟨j, hj, rfl⟩ := nat_of hy
  exact mem_nbr.2 ⟨j, hj, Or.symm hn, rfl⟩
theorem Wl_in {m : Nat} {es : List (Int × Int)} {s : Int} (hs : InN m s) {k : Nat} {y : Int} (h : Wl (nbrs m es) s k y) : InN m y := by
  induction h with
  | base => exact hs
  | step _ hz ih =>
    rw [rd_nbrs ih] at hz
    obtain ⟨i, hi, _, rfl⟩ := mem_nbr.1 hz
    exact in_nat hi
theorem Wl_rev {m : Nat} {es : List (Int × Int)} {s t : Int} (hs : InN m s) {k : Nat} {y : Int} (h : Wl (nbrs m es) s k y) : ∀ i, Wl (nbrs m es) t i y → Wl (nbrs m es) t (i + k) s := by
  induction h with
  | base => intro i hi; exact hi
  | @step k y z hw hz ih =>
    intro i hi
    have hy := Wl_in hs hw
    have hzm := Wl_in hs (Wl.step hw hz)
    have := ih (i + 1) (.step hi (nbrs_symm hy hzm hz))
    rw [show i + (k + 1) = i + 1 + k by omega]
    exact this
theorem layer_iff {m : Nat} {es : List (Int × Int)} {s t : Int} (hm : m ≤ 8) (hs : InN m s) (ht : InN m t) {D : Nat} (hD : rdI (bfsD (nbrs m es) m t) s = D) : rdI (bfsD (nbrs m es) m s) t = D ∧
    ∀ k, k ≤ D → ∀ y, Dc (nbrs m es) (bfsD (nbrs m es) m t) k s y ↔ InN m y ∧ rdI (bfsD (nbrs m es) m s) y = k ∧ rdI (bfsD (nbrs m es) m t) y = (D : Int) - k := by
  obtain ⟨a1, a2, a3, a4, a5, a6⟩ := bfsD_spec (nbrs_ok (es := es) hm) hs
  obtain ⟨b1, b2, b3, b4, b5, b6⟩ := bfsD_spec (nbrs_ok (es := es) hm) ht
  have tri : ∀ i y, Wl (nbrs m es) s i y → 0 ≤ rdI (bfsD (nbrs m es) m t) y → (D : Int) ≤ rdI (bfsD (nbrs m es) m t) y + i := by
    intro i y hw h0
    have := b6 _ _ (Wl_rev (t := t) hs hw _ (b5 y (Wl_in hs hw) h0))
    omega
  have chain : ∀ (k i : Nat) (x y : Int), Wl (nbrs m es) s i x → Dc (nbrs m es) (bfsD (nbrs m es) m t) k x y → Wl (nbrs m es) s (i + k) y ∧ rdI (bfsD (nbrs m es) m t) y = rdI (bfsD (nbrs m es) m t) x - k := by
    intro k
    induction k with
    | zero => intro i x y hw h; have : x = y := h; subst this; exact ⟨hw, by omega⟩
    | succ k ih =>
      intro i x y hw h
      obtain ⟨z, hz, h⟩ := h
      have hx := Wl_in hs hw
      obtain ⟨_, h2⟩ := mem_next hx hz
      obtain ⟨i1, i2⟩ := ih (i + 1) z y (.step hw (List.mem_filter.1 hz).1) h
      exact ⟨by rw [show i + (k + 1) = i + 1 + k by omega]; exact i1, by omega⟩
  have hw1 := b5 s hs (by omega)
  have hts : Wl (nbrs m es) s ((rdI (bfsD (nbrs m es) m t) s).toNat) t := by have := Wl_rev (t := s) ht hw1 0 .base; rwa [Nat.zero_add] at this
  have hAt := a6 _ _ hts
  have hA : rdI (bfsD (nbrs m es) m s) t = D := by
    have h2 := a5 t ht hAt.2.1
    have := tri _ _ h2 (by omega)
    omega
  refine ⟨hA, fun k hk y => ⟨fun h => ?_, fun ⟨hy, h1, h2⟩ => ?_⟩⟩
  · obtain ⟨c1, c2⟩ := chain k 0 s y .base h
    rw [Nat.zero_add] at c1
    have hy := Wl_in hs c1
    obtain ⟨_, d1, d2⟩ := a6 _ _ c1
    have d3 := tri _ _ (a5 y hy d1) (by omega)
    exact ⟨hy, by omega, by omega⟩
  · have key : ∀ (i : Nat) (y : Int), Wl (nbrs m es) s i y → i ≤ D → rdI (bfsD (nbrs m es) m t) y = (D : Int) - i → Dc (nbrs m es) (bfsD (nbrs m es) m t) i s y := by
      intro i y hw
      induction hw with
      | base => intro _ _; rfl
      | @step i y z hw hz ih =>
        intro hi he
        have hy := Wl_in hs hw
        have hzm := Wl_in hs (Wl.step hw hz)
        have h3 := b5 z hzm (by omega)
        have h4 := b6 _ _ (Wl.step h3 (nbrs_symm hy hzm hz))
        have h5 := tri _ _ hw (by omega)
        refine Dc_snoc i s y z (ih (by omega) (by omega)) (List.mem_filter.2 ⟨hz, decide_eq_true (by omega)⟩)
    have := a5 y hy (by omega)
    rw [h1] at this
    exact key _ y this (by omega) (by omega)
theorem next_ne {m : Nat} {es : List (Int × Int)} {t : Int} (hm : m ≤ 8) (ht : InN m t) : ∀ (d : Nat) (x : Int), InN m x → rdI (bfsD (nbrs m es) m t) x = ((d + 1 : Nat) : Int) → ∃ z, z ∈ nextW (nbrs m es) (bfsD (nbrs m es) m t) x := by
  obtain ⟨b1, b2, b3, b4, b5, b6⟩ := bfsD_spec (nbrs_ok (es := es) hm) ht
  intro d x hx hd
  have h := b5 x hx (by omega)
  rw [hd] at h
  have key : ∀ (k : Nat) (y : Int), Wl (nbrs m es) t k y → k = ((d + 1 : Nat) : Int).toNat → y = x → ∃ z, z ∈ nextW (nbrs m es) (bfsD (nbrs m es) m t) x := by
    intro k y hw hk hyx
    cases hw with
    | base => rw [← hyx, b2] at hd; omega
    | @step k u _ hw hz =>
      subst hyx
      have hu := Wl_in ht hw
      have h1 := b6 _ _ hw
      have h2 := b5 u hu h1.2.1
      have h3 := b6 _ _ (Wl.step h2 hz)
      exact ⟨u, List.mem_filter.2 ⟨nbrs_symm hu hx hz, decide_eq_true (by omega)⟩⟩
  exact key _ x h rfl rfl
noncomputable def layerL (m : Nat) (A F : List Int) (D : Int) (d : Nat) : List Int := ((List.range' 0 m).filter fun x : Nat => decide (rdI A (x : Int) = (d : Int) ∧ rdI F (x : Int) = D - d)).map fun x : Nat => (x : Int)
noncomputable def layersL (m : Nat) (es : List (Int × Int)) (s t : Int) : List (List Int) :=
  (List.range (rdI (bfsD (nbrs m es) m s) t + 1).toNat).map fun d => layerL m (bfsD (nbrs m es) m s) (bfsD (nbrs m es) m t) (rdI (bfsD (nbrs m es) m s) t) d
theorem layerL_len (m : Nat) (A F : List Int) (D : Int) (d : Nat) : (layerL m A F D d).length ≤ m := by
  unfold layerL
  rw [List.length_map]
  exact Nat.le_trans (List.length_filter_le ..) (by simp)
theorem spec_layers_eq {N : Nat} {m : Nat} {es : List (Int × Int)} {A F : List Int} {t : Int} (hm : m ≤ 8) (hA : A.length = m) (hF : F.length = m) (ht : InN m t) (hhi : rdI A t < 8) (hN : 1048577 ≤ N) :
    spec_LayersOf_l0 N (fun o => some ((o, true, ()), ())) N t 0 (m : Int) es [] A F = some (((List.range (rdI A t + 1).toNat).map fun d => layerL m A F (rdI A t) d, true, ()), ()) := by
  have go : ∀ (j d K : Nat), d + j = (rdI A t + 1).toNat → j < K → spec_LayersOf_l0 N (fun o => some ((o, true, ()), ())) K t d (m : Int) es ((List.range d).map fun d => layerL m A F (rdI A t) d) A F = some (((List.range (rdI A t + 1).toNat).map fun d => layerL m A F (rdI A t) d, true, ()), ()) := by
    intro j
    induction j with
    | zero =>
      intro d K hd hK
      obtain ⟨k, rfl⟩ := succ_of hK
      simp only [spec_LayersOf_l0]
      rw [inb_i ht.1 (by rw [hA]; exact ht.2), chk_t, ile_f (by omega), br_f, show d = (rdI A t + 1).toNat by omega]
    | succ j ih =>
      intro d K hd hK
      obtain ⟨k, rfl⟩ := succ_of hK
      simp only [spec_LayersOf_l0]
      rw [inb_i ht.1 (by rw [hA]; exact ht.2), chk_t, ile_t (by omega), br_t]
      refine (loop_iter (L := fun K' x o => spec_LayersOf_l0_0 N (fun x2 x3 o5 o6 o7 o8 o9 o10 => (chk (room o7 [o10]) (spec_LayersOf_l0 N (fun o => some ((o, true, ()), ())) k x2 (IntKind.i64.wrap (x3 + 1)) o5 o6 (tApp o7 [o10]) o8 o9))) K' t d x (m : Int) es ((List.range d).map fun d => layerL m A F (rdI A t) d) A F o)
        (k := fun o => (chk (room ((List.range d).map fun d => layerL m A F (rdI A t) d) [o]) (spec_LayersOf_l0 N (fun o => some ((o, true, ()), ())) k t (IntKind.i64.wrap ((d : Int) + 1)) (m : Int) es (tApp ((List.range d).map fun d => layerL m A F (rdI A t) d) [o]) A F)))
        (Inv := fun n o => o.length ≤ n) (step := fun n o => if (rdI A (n : Int) = (d : Int) ∧ rdI F (n : Int) = rdI A t - d) then o ++ [(n : Int)] else o) (fun K n s hn _ => ?_) (fun K n s hn hs => ?_) (fun n s hn h => ?_) (s := []) (m := m) (K := N) (by omega) (Nat.zero_le _)).trans ?_
      · simp only [spec_LayersOf_l0_0, ilt_nf hn, br_f]
      · simp only [spec_LayersOf_l0_0, ilt_n hn, br_t]
        rw [inb_n (by omega), chk_t, inb_n (by omega), chk_t, inb_i ht.1 (by rw [hA]; exact ht.2), chk_t, wrap_succ (by omega), wrap_ok (by omega) (by omega), room_ok (by simp; omega), chk_t, tApp_d]
        by_cases h1 : rdI A (n : Int) = d
        · rw [ieq_t h1, br_t]
          by_cases h2 : rdI F (n : Int) = rdI A t - d
          · rw [ieq_t h2, br_t, if_pos ⟨h1, h2⟩]
          · rw [ieq_f h2, br_f, if_neg (fun h => h2 h.2)]
        · rw [ieq_f h1, br_f, if_neg (fun h => h1 h.1)]
      · by_cases hc : rdI A (n : Int) = (d : Int) ∧ rdI F (n : Int) = rdI A t - d
        · rw [if_pos hc]; simp; omega
        · rw [if_neg hc]; omega
      · rw [iter_app, List.nil_append]
        have := ih (d + 1) k (by omega) (by omega)
        rw [List.range_succ, List.map_append] at this
        show (chk (room ((List.range d).map fun d => layerL m A F (rdI A t) d) [layerL m A F (rdI A t) d]) _) = _
        rw [room_ok (by simp; omega), chk_t, wrap_succ (by omega)]
        exact this
  exact go (rdI A t + 1).toNat 0 N (by omega) (by omega)
def Msk (o : List Int) (len : Nat) (Q : Nat → Nat → Prop) : Prop := o.length = len ∧ ∀ i, i < len → ∃ a : Nat, a < 256 ∧ rdI o (i : Int) = (a : Int) ∧ ∀ c, a.testBit c = true ↔ Q i c
theorem msk_set {o : List Int} {len : Nat} {Q : Nat → Nat → Prop} (h : Msk o len Q) {i x : Nat} (hi : i < len) (hx : x < 8) : Msk (tSet o (i : Int) (bitop .or .u64 (rd U64 o (i : Int)) (shlI .u64 1 (x : Int)))) len fun j c => Q j c ∨ (j = i ∧ c = x) := by
  obtain ⟨h1, h2⟩ := h
  obtain ⟨a, a1, a2, a3⟩ := h2 i hi
  have hrd : rd U64 o (i : Int) = (a : Int) := a2
  have hpx : 2 ^ x < 256 := Nat.pow_lt_pow_right (m := x) (n := 8) (by omega) (by omega)
  rw [hrd, shl8 x (by omega), orN (by omega) (by omega)]
  refine ⟨by rw [tSet_n, List.length_set]; exact h1, fun j hj => ?_⟩
  rw [rdI_set (by omega) _ _ (by omega)]
  by_cases hji : j = i
  · subst hji
    rw [if_pos rfl]
    refine ⟨a ||| 2 ^ x, Nat.or_lt_two_pow (n := 8) a1 hpx, rfl, fun c => ?_⟩
    rw [Nat.testBit_or, Bool.or_eq_true, a3, Nat.testBit_two_pow, decide_eq_true_iff]
    constructor
    · rintro (h | h)
      · exact .inl h
      · exact .inr ⟨rfl, h.symm⟩
    · rintro (h | ⟨_, h⟩)
      · exact .inl h
      · exact .inr h.symm
  · rw [if_neg (by omega)]
    obtain ⟨a', b1, b2, b3⟩ := h2 j hj
    exact ⟨a', b1, b2, fun c => by rw [b3]; exact ⟨.inl, fun h => h.elim _root_.id fun h => absurd h.1 hji⟩⟩
theorem msk_congr {o : List Int} {len : Nat} {Q Q' : Nat → Nat → Prop} (h : Msk o len Q) (hq : ∀ i c, i < len → (Q i c ↔ Q' i c)) : Msk o len Q' :=
  ⟨h.1, fun i hi => by obtain ⟨a, b, c, d⟩ := h.2 i hi; exact ⟨a, b, c, fun x => (d x).trans (hq i x hi)⟩⟩
theorem layers_in_eq {R : Type} {N : Nat} (k0 : Int → Int → List Int → List (List Int) → Option R) {W : List (List Int)} {len n : Nat} {x2 : Int} (hn : n < W.length) (hw : (W[n]).length = len) (hlen : len ≤ 1048576) (hx : ∀ x ∈ W[n], InN 8 x) (hN : 1048577 ≤ N) {Q : Nat → Nat → Prop} :
    ∀ (d i K : Nat) (o : List Int), i + d = len → d < K → Msk o len (fun j c => Q j c ∨ j < i ∧ (W[n])[j]? = some (c : Int)) → ∃ o', Msk o' len (fun j c => Q j c ∨ (W[n])[j]? = some (c : Int)) ∧ impl_LayersOf_l0_0 N k0 K x2 n n (len : Int) i o W = k0 x2 n o' W := by
  intro d
  induction d with
  | zero =>
    intro i K o hd hK hm
    obtain ⟨k, rfl⟩ := succ_of hK
    simp only [impl_LayersOf_l0_0, ilt_nf (show ¬ i < len by omega), br_f]
    exact ⟨o, msk_congr hm fun j c hj => ⟨fun h => h.imp_right (·.2), fun h => h.imp_right fun h => ⟨by omega, h⟩⟩, rfl⟩
  | succ d ih =>
    intro i K o hd hK hm
    obtain ⟨k, rfl⟩ := succ_of hK
    have hi : i < (W[n]).length := by omega
    obtain ⟨x, hx8, hxe⟩ := nat_of (hx _ (List.getElem_mem hi))
    simp only [impl_LayersOf_l0_0, ilt_n (show i < len by omega), br_t]
    rw [rdL_n hn, inb_n hi, chk_t, inb_n (by rw [hm.1]; omega), chk_t, rdI_n hi, hxe, ile_t (by omega), chk_t, chk_t, wrap_succ (by omega)]
    refine ih (i + 1) k _ (by omega) (by omega) (msk_congr (msk_set hm (show i < len by omega) hx8) fun j c hj => ?_)
    constructor
    · rintro ((h | ⟨h1, h2⟩) | ⟨h1, h2⟩)
      · exact .inl h
      · exact .inr ⟨by omega, h2⟩
      · refine .inr ⟨by omega, ?_⟩
        rw [h1, h2, List.getElem?_eq_getElem hi, hxe]
    · rintro (h | ⟨h1, h2⟩)
      · exact .inl (.inl h)
      · by_cases hji : j = i
        · refine .inr ⟨hji, ?_⟩
          rw [hji, List.getElem?_eq_getElem hi, hxe] at h2
          injection h2 with h2
          omega
        · exact .inl (.inr ⟨by omega, h2⟩)
theorem layers_out_eq {N : Nat} {W : List (List Int)} {len : Nat} (hW : ∀ w ∈ W, w.length = len ∧ ∀ x ∈ w, InN 8 x) (hlen : len ≤ 1048576) (hN : 1048577 ≤ N) {R : Type} (k0 : List Int → Option R) (hWl : W.length ≤ 4611686018427387903) :
    ∀ (d n K : Nat) (o : List Int), n + d = W.length → d < K → Msk o len (fun j c => ∃ w ∈ W.take n, w[j]? = some (c : Int)) → ∃ o', Msk o' len (fun j c => ∃ w ∈ W, w[j]? = some (c : Int)) ∧ impl_LayersOf_l0 N k0 K (W.length : Int) n o W = k0 o' := by
  intro d
  induction d with
  | zero =>
    intro n K o hd hK hm
    obtain ⟨k, rfl⟩ := succ_of hK
    simp only [impl_LayersOf_l0, ilt_nf (show ¬ n < W.length by omega), br_f]
    rw [List.take_of_length_le (by omega)] at hm
    exact ⟨o, hm, rfl⟩
  | succ d ih =>
    intro n K o hd hK hm
    obtain ⟨k, rfl⟩ := succ_of hK
    have hn : n < W.length := by omega
    obtain ⟨hw1, hw2⟩ := hW _ (List.getElem_mem hn)
    simp only [impl_LayersOf_l0, ilt_n hn, br_t]
    rw [inb_n hn, chk_t, rdL_n hn, tLen_n, hw1]
    obtain ⟨o', h1, h2⟩ := layers_in_eq (N := N) (x2 := (W.length : Int)) (Q := fun j c => ∃ w ∈ W.take n, w[j]? = some (c : Int)) (fun x2 x3 o2 o3 => impl_LayersOf_l0 N k0 k x2 (IntKind.i64.wrap (x3 + 1)) o2 o3) hn hw1 hlen hw2 hN len 0 N o (by omega) (by omega) (msk_congr hm fun j c _ => ⟨.inl, fun h => h.elim _root_.id fun h => absurd h.1 (Nat.not_lt_zero j)⟩)
    simp only [Int.natCast_zero] at h2
    rw [h2, wrap_succ (by omega)]
    refine ih (n + 1) k o' (by omega) (by omega) (msk_congr h1 fun j c _ => ?_)
    rw [List.take_add_one, List.getElem?_eq_getElem hn]
    constructor
    · rintro (⟨w, hw, h⟩ | h)
      · exact ⟨w, List.mem_append_left _ hw, h⟩
      · exact ⟨W[n], List.mem_append_right _ (by simp), h⟩
    · rintro ⟨w, hw, h⟩
      rcases List.mem_append.1 hw with hw | hw
      · exact .inl ⟨w, hw, h⟩
      · simp at hw
        subst hw
        exact .inr h
theorem bags_eq {N : Nat} {o : List Int} {len : Nat} {Q : Nat → Nat → Prop} (h : Msk o len Q) (hlen : len ≤ 1048576) (hN : 1048577 ≤ N) (G : Nat → List Int) (hG : ∀ i, i < len → ∀ a : Nat, (∀ c, a.testBit c = true ↔ Q i c) → ((List.range' 0 8).filter fun c => decide (a.testBit c = true)).map (fun c : Nat => (c : Int)) = G i) :
    impl_LayersOf_l1 N (fun o1 => some ((o1, true, ()), ())) N (tLen o) 0 [] o = some (((List.range len).map G, true, ()), ()) := by
  rw [tLen_n, h.1]
  have go : ∀ (d i K : Nat), i + d = len → d < K → impl_LayersOf_l1 N (fun o1 => some ((o1, true, ()), ())) K (len : Int) i ((List.range i).map G) o = some (((List.range len).map G, true, ()), ()) := by
    intro d
    induction d with
    | zero =>
      intro i K hd hK
      obtain ⟨k, rfl⟩ := succ_of hK
      have : i = len := by omega
      subst this
      simp only [impl_LayersOf_l1, ilt_nf (Nat.lt_irrefl i), br_f]
    | succ d ih =>
      intro i K hd hK
      obtain ⟨k, rfl⟩ := succ_of hK
      obtain ⟨a, a1, a2, a3⟩ := h.2 i (by omega)
      have hrd : rd U64 o (i : Int) = (a : Int) := a2
      simp only [impl_LayersOf_l1, ilt_n (show i < len by omega), br_t]
      rw [inb_n (by rw [h.1]; omega), chk_t, hrd, bagList_eq a1 hN, bind_some', hG i (by omega) a a3]
      simp only []
      rw [room_ok (by simp; omega), chk_t, wrap_succ (by omega), tApp_d]
      have := ih (i + 1) k (by omega) (by omega)
      rw [List.range_succ, List.map_append] at this
      exact this
  exact go len 0 N (by omega) (by omega)
noncomputable def layersV (g : Int × List (Int × Int)) (s t : Int) : List (List Int) × Bool :=
  if goodG g ∧ (0 ≤ s ∧ s ≤ g.1 - 1) ∧ 0 ≤ t ∧ t ≤ g.1 - 1 then (layersL g.1.toNat g.2 s t, true) else ([], false)
theorem LayersOf_both {N : Nat} {g : Int × List (Int × Int)} {s t : Int} (hx : g.2.length ≤ 1048576) (hN : 4194304 ≤ N) : ((layersV g s t).1.length ≤ 300 ∧ ∀ x ∈ (layersV g s t).1, x.length ≤ 8) ∧ spec_LayersOf N g s t = some (((layersV g s t).1, (layersV g s t).2, ()), ()) ∧ impl_LayersOf N g s t = some (((layersV g s t).1, (layersV g s t).2, ()), ()) := by
  have hN' : 1048577 ≤ N := by omega
  obtain ⟨e1, e2⟩ := ends_eq (s := s) (t := t) hx hN'
  unfold spec_LayersOf impl_LayersOf layersV
  rw [e1, e2, bind_some', bind_some']
  by_cases h : goodG g ∧ (0 ≤ s ∧ s ≤ g.1 - 1) ∧ 0 ≤ t ∧ t ≤ g.1 - 1
  · obtain ⟨m', es⟩ := g
    have h0 := h.1.1
    simp only at hx h h0
    obtain ⟨m, rfl⟩ : ∃ m : Nat, m' = m := ⟨m'.toNat, by omega⟩
    have hs : InN m s := ⟨h.2.1.1, by omega⟩
    have ht : InN m t := ⟨h.2.2.1, by omega⟩
    have hm : m ≤ 8 := by omega
    have hF := far_ok (es := es) hm ht
    have hA := far_ok (es := es) hm hs
    obtain ⟨wl1, wl2⟩ := waysL_len (es := es) hm hs ht
    obtain ⟨a1, a2, a3, a4, a5, a6⟩ := bfsD_spec (nbrs_ok (es := es) hm) hs
    obtain ⟨b1, b2, b3, b4, b5, b6⟩ := bfsD_spec (nbrs_ok (es := es) hm) ht
    have hlt := a3 t ht
    rw [if_pos h, decide_eq_true h]
    simp only [Bool.not_true, br_f, Int.toNat_natCast]
    rw [l3Far_bfs hm hx hs hN', l3Far_bfs hm hx ht hN', impl_ways_eq hm h.1 hx hs ht hN', bind_some', bind_some', bind_some']
    simp only []
    have hsp := spec_layers_eq (N := N) (es := es) hm hA.len hF.len ht (by omega) hN'
    refine ⟨⟨?_, ?_⟩, ?_, ?_⟩
    · unfold layersL
      rw [List.length_map, List.length_range]
      omega
    · intro x hx'
      unfold layersL at hx'
      obtain ⟨d, _, rfl⟩ := List.mem_map.1 hx'
      have := layerL_len m (bfsD (nbrs m es) m s) (bfsD (nbrs m es) m t) (rdI (bfsD (nbrs m es) m s) t) d
      omega
    · exact hsp
    · by_cases hc : rdI (bfsD (nbrs m es) m t) s < 0
      · have e : waysL m es s t = [] := by unfold waysL; rw [if_pos hc]
        have hAt : rdI (bfsD (nbrs m es) m s) t < 0 := by
          by_cases h' : 0 ≤ rdI (bfsD (nbrs m es) m s) t
          · have h1 := a5 t ht h'
            have h2 := b6 _ _ (Wl_rev (t := t) hs h1 0 .base)
            omega
          · omega
        have el : layersL m es s t = [] := by
          unfold layersL
          rw [show (rdI (bfsD (nbrs m es) m s) t + 1).toNat = 0 by omega]
          rfl
        rw [e, el]
        rfl
      · obtain ⟨D, hD⟩ : ∃ D : Nat, rdI (bfsD (nbrs m es) m t) s = D := ⟨(rdI (bfsD (nbrs m es) m t) s).toNat, by omega⟩
        obtain ⟨l1, l2⟩ := layer_iff (es := es) hm hs ht hD
        have e : waysL m es s t = waysF (nbrs m es) (bfsD (nbrs m es) m t) D s ([] ++ [s]) := by unfold waysL; rw [if_neg hc, hD]; rfl
        obtain ⟨w1, w2⟩ := ways_at (next_ne (es := es) hm ht) D s [] hs hD
        rw [← e] at w1 w2
        have hD8 : D < 8 := by have := b3 s hs; omega
        obtain ⟨w0, hw0, _⟩ := w2 0 (Nat.zero_le _) s rfl
        have hpos : 0 < (waysL m es s t).length := List.length_pos_of_mem hw0
        have hlen0 : (rdL (waysL m es s t) 0).length = D + 1 := by
          rw [show (0 : Int) = ((0 : Nat) : Int) from rfl, rdL_n hpos]
          have := (w1 _ (List.getElem_mem hpos)).1
          simp at this
          omega
        have hWok : ∀ w ∈ waysL m es s t, w.length = D + 1 ∧ ∀ x ∈ w, InN 8 x := by
          intro w hw
          obtain ⟨q1, q2⟩ := w1 w hw
          simp at q1
          refine ⟨by omega, fun x hxw => ?_⟩
          obtain ⟨i, hi, rfl⟩ := List.getElem_of_mem hxw
          obtain ⟨y, r1, r2⟩ := q2 i (by omega)
          simp only [List.length_nil, Nat.zero_add] at r1
          rw [List.getElem?_eq_getElem hi] at r1
          injection r1 with r1
          rw [r1]
          have := ((l2 i (by omega) y).1 r2).1
          exact ⟨this.1, by have := this.2; omega⟩
        have hi0 : inb (waysL m es s t) 0 = true := inb_n (n := 0) hpos
        rw [tLen_n (waysL m es s t), ieq_f (show ((waysL m es s t).length : Int) ≠ 0 by omega), br_f, hi0, chk_t]
        rw [tLen_n (rdL (waysL m es s t) 0), hlen0, ile_t (by omega), ile_t (Int.le_refl _), fits_ok (by omega)]
        simp only [Bool.and_self, chk_t]
        rw [tRep_n]
        have hmsk : Msk (List.replicate (D + 1) (0 : Int)) (D + 1) (fun j c => ∃ w ∈ (waysL m es s t).take 0, w[j]? = some (c : Int)) := by
          refine ⟨by simp, fun i hi => ⟨0, by omega, by rw [rdI_n (by simp; exact hi)]; simp, fun c => by simp⟩⟩
        obtain ⟨o', g1, g2⟩ := layers_out_eq (N := N) hWok (by omega) hN' (fun o => impl_LayersOf_l1 N (fun o1 => some ((o1, true, ()), ())) N (tLen o) 0 [] o) (by omega) (waysL m es s t).length 0 N _ (by omega) (by omega) hmsk
        simp only [Int.natCast_zero] at g2
        rw [g2]
        have hb := bags_eq (N := N) g1 (by omega) hN' (fun d => layerL m (bfsD (nbrs m es) m s) (bfsD (nbrs m es) m t) (rdI (bfsD (nbrs m es) m s) t) d) (fun i hi a ha => ?_)
        · rw [hb]
          unfold layersL
          rw [l1, show ((D : Int) + 1).toNat = D + 1 by omega]
        · have hq : ∀ c : Nat, a.testBit c = true ↔ (c < m ∧ rdI (bfsD (nbrs m es) m s) (c : Int) = (i : Int) ∧ rdI (bfsD (nbrs m es) m t) (c : Int) = (D : Int) - i) := by
            intro c
            rw [ha c]
            constructor
            · rintro ⟨w, hw, hwc⟩
              obtain ⟨y, r1, r2⟩ := (w1 w hw).2 i (by omega)
              simp only [List.length_nil, Nat.zero_add] at r1
              rw [hwc] at r1
              injection r1 with r1
              subst r1
              have := (l2 i (by omega) _).1 r2
              exact ⟨by have := this.1.2; omega, this.2⟩
            · rintro ⟨c1, c2, c3⟩
              obtain ⟨w, hw, hwc⟩ := w2 i (by omega) (c : Int) ((l2 i (by omega) _).2 ⟨in_nat c1, c2, c3⟩)
              simp only [List.length_nil, Nat.zero_add] at hwc
              exact ⟨w, hw, hwc⟩
          unfold layerL
          congr 1
          rw [range8 hm (fun c => decide (a.testBit c = true)) (fun c hc => ((hq c).1 (of_decide_eq_true hc)).1), l1]
          refine List.filter_congr fun c hc => ?_
          have hcm := List.mem_range'_1.1 hc
          by_cases hp : rdI (bfsD (nbrs m es) m s) (c : Int) = (i : Int) ∧ rdI (bfsD (nbrs m es) m t) (c : Int) = (D : Int) - i
          · rw [decide_eq_true hp, decide_eq_true ((hq c).2 ⟨by omega, hp⟩)]
          · rw [decide_eq_false hp, decide_eq_false (fun h' => hp ((hq c).1 h').2)]
  · rw [if_neg h, decide_eq_false h]
    exact ⟨⟨Nat.zero_le _, by simp⟩, rfl, rfl⟩
theorem LayersOf_pure {g : Int × List (Int × Int)} {s t : Int} (hx : g.2.length ≤ 9223372036854775807) : laws_FnExactLayersOf 4194304 g s t = some ((true, ()), ()) := by
  unfold laws_FnExactLayersOf
  have hN : 1048577 ≤ 4194304 := by decide
  have hN2 : 4194304 ≤ 4194304 := Nat.le_refl _
  obtain ⟨r, h1, h2⟩ := szGraph_eq (N := 4194304) hx
  simp only [h1, bind_some']
  by_cases h : 0 ≤ r
  · rw [ilt_f (by omega), br_f]
    have h3 := h2 h
    obtain ⟨⟨c1, c2⟩, e1, e2⟩ := LayersOf_both (N := 4194304) (s := s) (t := t) h3 hN2
    have k0 : (0 : Int) ≤ 1 ∧ (1 : Int) ≤ 1152921504606846976 := by omega
    have c3 : ∀ x ∈ (layersV g s t).1, x.length ≤ 1048576 := fun x hx => by have := c2 x hx; omega
    have c4 := sumL_le c3
    obtain ⟨g', hmk⟩ := markGraph_eq (N := 4194304) k0 h3 hN
    simp only [toGraph_eq h3 hN, bind_some', e1, e2, eqGraph_eq h3 hN, eqIntSS_eq (show (layersV g s t).1.length ≤ 1048576 by omega) c3 hN, decide_true, Bool.not_true, br_f, hmk, ilt_f (show ¬ 1 + 2 * (g.2.length : Int) < 0 by omega),
      markIntSS_eq k0 (show (layersV g s t).1.length ≤ 1048576 by omega) c3 hN, heldIntSS_eq k0 (show (layersV g s t).1.length ≤ 1048576 by omega) c3 hN, ilt_f (show ¬ 1 + sumL (layersV g s t).1 < 0 by omega), ine_f (rfl : 1 + sumL (layersV g s t).1 = 1 + sumL (layersV g s t).1)]
    simp [br_ite]
  · rw [ilt_t (by omega), br_t]
theorem LayersOf_pureT : ∀ x : argsT (psOf [QILQII, I, I]), WfA [QILQII, I, I] x → ∃ k m, (laws_FnExactLayersOf_S k).f x = some ((true, ()), m) :=
  fun x h => ⟨4194304, (), LayersOf_pure (len_ok h.1.2.1)⟩
end Go.Proofs.Ytfbkjgeaoafejaa
