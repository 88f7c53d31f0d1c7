/- Statements on data alone. -/
import Derived.Test.YtfbkjgeaoafejaaPvPure
import Derived.Test.YtfbkjgeaoafejaaShortestWaysGa
set_option linter.all false
set_option linter.all false
namespace Go.Proofs.Ytfbkjgeaoafejaa
open Go Go.PV Classical
theorem l3Far_bfs {N : Nat} {m : Nat} {es : List (Int × Int)} (hm : m ≤ 8) (hx : es.length ≤ 1048576) {x : Int} (hxm : InN m x) (hN : 1048577 ≤ N) : spec_l3Far N ((m : Int), es) x = some ((bfsD (nbrs m es) m x, ()), ()) := by
  have go : ∀ (d n K : Nat), n + d = m → d < K →
      spec_l3Far_l0 N (fun x1 o => ((spec_l2Spread N o x1).bind fun r => some ((r.1.1, ()), ()))) K x n (m : Int) es ((List.range n).map (fun i : Nat => nbr m es (i : Int)) ++ List.replicate d []) = ((spec_l2Spread N (nbrs m es) x).bind fun r => some ((r.1.1, ()), ())) := by
    intro d
    induction d with
    | zero =>
      intro n K hd hK
      obtain ⟨k, rfl⟩ := succ_of hK
      have : n = m := by omega
      subst this
      simp only [spec_l3Far_l0, ilt_nf (Nat.lt_irrefl n), br_f, List.replicate_zero, List.append_nil]
      rfl
    | succ d ih =>
      intro n K hd hK
      obtain ⟨k, rfl⟩ := succ_of hK
      simp only [spec_l3Far_l0, ilt_n (show n < m by omega), br_t]
      rw [l2Neighbors_eq hm hx hN, bind_some', inb_n (by simp), chk_t, wrap_succ (by omega), ← ih (n + 1) k (by omega) (by omega), tSet_n]
      congr 1
      rw [List.replicate_succ, List.set_append_right _ _ (by simp), List.range_succ, List.map_append]
      simp
  unfold spec_l3Far
  rw [ile_t (by omega), ile_t (Int.le_refl _), fits_ok (by omega)]
  simp only [Bool.and_self, chk_t]
  have := go m 0 N (by omega) (by omega)
  rw [tRep_n]
  simp only [Int.natCast_zero, List.range_zero, List.map_nil, List.nil_append] at this
  rw [this, l2Spread_bfs (nbrs_ok hm) (by omega) hxm hN]
  rfl
theorem shr32 {n : Nat} (h : n < 4294967296) : shrI .u64 (n : Int) 32 = 0 := by
  unfold shrI
  have : (n : Int).fdiv (2 ^ (min (32 : Int).toNat IntKind.u64.bits)) = (n : Int).fdiv 4294967296 := rfl
  rw [this, Int.fdiv_eq_ediv_of_nonneg _ (by omega)]
  omega
theorem and32 {n : Nat} (h : n < 4294967296) : bitop .and .u64 (n : Int) 4294967295 = n := by
  have := andN (a := n) (b := 4294967295) h (by omega)
  rw [show ((4294967295 : Nat) : Int) = 4294967295 from rfl] at this
  rw [this, show (4294967295 : Nat) = 2 ^ 32 - 1 from rfl, Nat.and_two_pow_sub_one_eq_mod]
  omega
theorem mul64_one {N m : Nat} (h : m < 4294967296) : math_bits_Mul N 1 (m : Int) = some ((0, (m : Int), ()), ()) := by
  have e1 : shrI .u64 1 32 = 0 := by have := shr32 (n := 1) (by omega); exact this
  have e2 : bitop .and .u64 1 4294967295 = 1 := by have := and32 (n := 1) (by omega); exact this
  have w0 : IntKind.u64.wrap 0 = 0 := by have := wrap64 (n := 0) (by omega); exact this
  have e3 : shrI .u64 0 32 = 0 := by have := shr32 (n := 0) (by omega); exact this
  have e4 : bitop .and .u64 0 4294967295 = 0 := by have := and32 (n := 0) (by omega); exact this
  unfold math_bits_Mul math_bits_Mul64
  simp only [e1, e2, shr32 h, and32 h, Int.zero_mul, Int.mul_zero, Int.one_mul, wrap64 (show m < 18446744073709551616 by omega), w0, Int.zero_add, Int.add_zero, e3, e4, bind_some']
theorem tMin_n (a b : Nat) : tMin (a : Int) (b : Int) = ((min a b : Nat) : Int) := by
  unfold tMin
  by_cases h : a ≤ b
  · rw [ile_t (by omega), Nat.min_eq_left h]; rfl
  · rw [ile_f (by omega), Nat.min_eq_right (by omega)]; rfl
theorem tPut_n {α : Type} (xs ys : List α) (l : Nat) : tPut xs (l : Int) ys = xs.take l ++ ys ++ xs.drop (l + ys.length) := by simp [tPut]
theorem Repeat_eq {N m : Nat} {v : Int} (hm : m ≤ 1048576) (hN : 1048577 ≤ N) : slices_Repeat_LI_int N [v] (m : Int) = some ((List.replicate m v, ()), ()) := by
  have go : ∀ (d n K : Nat), n + d = m → d < K → (0 < n ∨ m = 0) → slices_Repeat_LI_int_l0 N (fun o => some ((o, ()), ())) K n (List.replicate n v ++ List.replicate d 0) = some ((List.replicate m v, ()), ()) := by
    intro d
    induction d using Nat.strongRecOn with
    | _ d ih =>
      intro n K hd hK hn
      obtain ⟨k, rfl⟩ := succ_of hK
      have hlen : (List.replicate n v ++ List.replicate d 0).length = m := by simp; omega
      simp only [slices_Repeat_LI_int_l0]
      rw [tLen_n, hlen]
      by_cases h0 : d = 0
      · subst h0
        have : n = m := by omega
        subst this
        rw [ilt_nf (Nat.lt_irrefl n), br_f]
        simp
      · have hc0 : tCut (List.replicate n v ++ List.replicate d 0) 0 (n : Int) = List.replicate n v := by
          rw [show (0 : Int) = ((0 : Nat) : Int) from rfl, tCut_n]
          simp
        have hmin : tMin ((m : Int) - (n : Int)) (tLen (List.replicate n v)) = ((min d n : Nat) : Int) := by
          rw [tLen_n, List.length_replicate, show (m : Int) - (n : Int) = (d : Int) by omega, tMin_n]
        have hc1 : tCut (List.replicate n v) 0 ((min d n : Nat) : Int) = List.replicate (min d n) v := by
          rw [show (0 : Int) = ((0 : Nat) : Int) from rfl, tCut_n, List.take_replicate, List.drop_zero]
          congr 1
          omega
        rw [ilt_n (show n < m by omega), br_t, ile_t (show (0 : Int) ≤ (n : Int) by omega), ile_t (show (n : Int) ≤ (m : Int) by omega), ile_t (Int.le_refl (m : Int)), ile_t (Int.le_refl (0 : Int))]
        simp only [Bool.and_self, chk_t]
        rw [hc0, hmin, hc1]
        have hput : tPut (List.replicate n v ++ List.replicate d 0) (n : Int) (List.replicate (min d n) v) = List.replicate (n + min d n) v ++ List.replicate (d - min d n) 0 := by
          rw [tPut_n, List.take_left' (by simp), List.drop_append, List.length_replicate, List.length_replicate]
          rw [List.drop_of_length_le (by simp), List.nil_append, List.drop_replicate, List.replicate_append_replicate]
          congr 2
          omega
        rw [hput, wrap_ok (by omega) (by omega), show (n : Int) + ((min d n : Nat) : Int) = ((n + min d n : Nat) : Int) by omega]
        exact ih (d - min d n) (by omega) (n + min d n) k (by omega) (by omega) (.inl (by omega))
  unfold slices_Repeat_LI_int
  rw [ilt_f (by omega), br_f, show tLen [v] = ((1 : Nat) : Int) from rfl, wrap64 (by omega), wrap64 (by omega), show (((1 : Nat) : Int)) = 1 from rfl, mul64_one (by omega)]
  simp only [bind_some']
  rw [ilt_f (Int.lt_irrefl 0), br_f, ilt_f (by omega), br_f, wrap_ok (by omega) (by omega), ile_t (by omega), ile_t (Int.le_refl _), fits_ok (by omega)]
  simp only [Bool.and_self, chk_t]
  rw [tRep_n, tLen_n, List.length_replicate, show (1 : Int) = ((1 : Nat) : Int) from rfl, tMin_n]
  have hc : tCut [v] 0 ((min m 1 : Nat) : Int) = List.replicate (min m 1) v := by
    rw [show (0 : Int) = ((0 : Nat) : Int) from rfl, tCut_n]
    by_cases h0 : m = 0
    · subst h0; rfl
    · rw [show min m 1 = 1 by omega]; rfl
  have hp : tPut (List.replicate m (0 : Int)) 0 (List.replicate (min m 1) v) = List.replicate (min m 1) v ++ List.replicate (m - min m 1) 0 := by
    rw [show (0 : Int) = ((0 : Nat) : Int) from rfl, tPut_n]
    simp
  rw [hc, hp]
  exact go (m - min m 1) (min m 1) N (by omega) (by omega) (by omega)
theorem tCut_drop {xs : List Int} {a b : Nat} (h : b ≤ xs.length) (hab : a ≤ b) {n : Nat} {q : List Int} (hc : tCut xs (a : Int) (b : Int) = q.drop n) (hn : n ≤ q.length) : b - a = q.length - n := by
  have := congrArg List.length hc
  rw [tCut_n, List.length_drop, List.length_take, List.length_drop] at this
  omega
theorem spread_in_eq {R : Type} {N : Nat} (k0 : List (List Int) → Int → Int → List Int → List Int → Option R) {lists : List (List Int)} {m n : Nat} {x : Int} {row : List Int} (hN : 1048577 ≤ N) (hm : m ≤ 1048575) (hrl : row.length ≤ 1048576) (hrow : ∀ z ∈ row, InN m z) :
    ∀ (d i K : Nat) (lo hi : Nat) (o1 : List Int) (s : List Int × List Int) (u : Int), i + d = row.length → d < K → lo ≤ hi → hi ≤ o1.length → tCut o1 (lo : Int) (hi : Int) = s.2.drop (n + 1) → Bfs lists m x n s.1 s.2 → n < s.2.length → u = rdI s.2 n → (∀ z ∈ row, z ∈ rdL lists u) →
      ∃ (lo' hi' : Nat) (o1' : List Int), lo' ≤ hi' ∧ hi' ≤ o1'.length ∧ tCut o1' (lo' : Int) (hi' : Int) = ((row.drop i).foldl (spF u) s).2.drop (n + 1) ∧
        impl_spread_l0_0 N k0 K lists lo hi u row (row.length : Int) i s.1 o1 = k0 lists lo' hi' ((row.drop i).foldl (spF u) s).1 o1' := by
  intro d
  induction d with
  | zero =>
    intro i K lo hi o1 s u hd hK hlh hho hc hb hn hu hr
    obtain ⟨k, rfl⟩ := succ_of hK
    simp only [impl_spread_l0_0, ilt_nf (show ¬ i < row.length by omega), br_f]
    rw [List.drop_of_length_le (show row.length ≤ i by omega)]
    exact ⟨lo, hi, o1, hlh, hho, hc, rfl⟩
  | succ d ih =>
    intro i K lo hi o1 s u hd hK hlh hho hc hb hn hu hr
    obtain ⟨k, rfl⟩ := succ_of hK
    have hi' : i < row.length := by omega
    have hz := hrow _ (List.getElem_mem hi')
    have hus : u ∈ s.2 := by rw [hu, rdI_n hn]; exact List.getElem_mem hn
    have hum := hb.spi.2.1.2 u hus
    have hu0 := (hb.spi.2.2.1 u hum).2 hus
    have hu1 := hb.spi.2.2.2.1 u hum
    have hsl := inM_len hb.spi.2.1
    have hlen := hb.spi.1
    have hwin := tCut_drop hho hlh hc (by omega)
    have hstep := bfs_step hb hn hz (by rw [← hu]; exact hr _ (List.getElem_mem hi'))
    rw [← hu] at hstep
    obtain ⟨g1, ⟨t, g2⟩, _⟩ := hstep
    have hg3 : rdI (spF u s row[i]).2 n = u := by rw [g2, rdI_n (by simp; omega), List.getElem_append_left hn, ← rdI_n hn, hu]
    have hg4 : n < (spF u s row[i]).2.length := by rw [g2]; simp; omega
    have hdr : (row.drop i).foldl (spF u) s = (row.drop (i + 1)).foldl (spF u) (spF u s row[i]) := by rw [drop_cons hi', List.foldl_cons]
    rw [hdr]
    simp only [impl_spread_l0_0, ilt_n hi', br_t, inb_n hi', chk_t, rdI_n hi']
    rw [inb_i hz.1 (by rw [hlen]; exact hz.2), chk_t, wrap_succ (by omega)]
    by_cases hcc : rdI s.1 row[i] < 0
    · have e : spF u s row[i] = (tSet s.1 row[i] (rdI s.1 u + 1), s.2 ++ [row[i]]) := by unfold spF; rw [if_pos hcc]
      rw [ilt_t hcc, br_t, inb_i hum.1 (by rw [hlen]; exact hum.2), chk_t, chk_t]
      have hcl : (tCut o1 (lo : Int) (hi : Int)).length = s.2.length - (n + 1) := by rw [hc, List.length_drop]
      rw [room_ok (by simp only [List.length_singleton]; omega), chk_t, wrap_ok (by omega) (by omega)]
      have key := ih (i + 1) k 0 (tApp (tCut o1 (lo : Int) (hi : Int)) [row[i]]).length (tApp (tCut o1 (lo : Int) (hi : Int)) [row[i]]) (spF u s row[i]) u (by omega) (by omega) (Nat.zero_le _) (Nat.le_refl _) (by
        rw [tCut_n, tApp_d, hc, e]
        simp only [List.take_length, List.drop_zero]
        rw [List.drop_append_of_le_length (by omega)]) g1 hg4 hg3.symm hr
      obtain ⟨lo', hi2, o2, k1, k2, k3, k4⟩ := key
      refine ⟨lo', hi2, o2, k1, k2, k3, ?_⟩
      rw [← k4, e]
      rfl
    · have e : spF u s row[i] = s := by unfold spF; rw [if_neg hcc]
      rw [ilt_f hcc, br_f]
      rw [e] at g1 hg3 hg4 ⊢
      exact ih (i + 1) k lo hi o1 s u (by omega) (by omega) hlh hho hc g1 hg4 hg3.symm hr
theorem spread_eq {N : Nat} {lists : List (List Int)} {m : Nat} {x : Int} (hl : okLists lists m) (hm : m ≤ 1048575) (hx : InN m x) (hN : 1048577 ≤ N) : impl_spread N lists x = some ((bfsD lists m x, ()), ()) := by
  have go : ∀ (d n K : Nat) (lo hi : Nat) (o o1 q : List Int), n + d = m → d < K → n ≤ q.length → lo ≤ hi → hi ≤ o1.length → tCut o1 (lo : Int) (hi : Int) = q.drop n → Bfs lists m x n o q →
      impl_spread_l0 N (fun o1 => some ((o1, ()), ())) K lists lo hi o o1 = some ((bfsR lists d n o q, ()), ()) := by
    intro d
    induction d with
    | zero =>
      intro n K lo hi o o1 q hd hK hn hlh hho hc hb
      obtain ⟨k, rfl⟩ := succ_of hK
      have hqm := inM_len hb.spi.2.1
      have hwin := tCut_drop hho hlh hc hn
      simp only [impl_spread_l0]
      rw [ilt_f (by omega), br_f]
      rfl
    | succ d ih =>
      intro n K lo hi o o1 q hd hK hn hlh hho hc hb
      obtain ⟨k, rfl⟩ := succ_of hK
      have hqm := inM_len hb.spi.2.1
      have hwin := tCut_drop hho hlh hc hn
      simp only [impl_spread_l0]
      unfold bfsR
      by_cases hnq : n < q.length
      · have hhead : rdI o1 ((lo : Int) + 0) = rdI q n := by
          rw [Int.add_zero, rdI_n (by omega), rdI_n hnq]
          have h1 : (tCut o1 (lo : Int) (hi : Int))[0]? = (q.drop n)[0]? := by rw [hc]
          rw [tCut_n, List.getElem?_drop, List.getElem?_take, if_pos (by omega), List.getElem?_drop, Nat.add_zero, Nat.add_zero, List.getElem?_eq_getElem (by omega), List.getElem?_eq_getElem hnq] at h1
          injection h1
        have huq : rdI q n ∈ q := by rw [rdI_n hnq]; exact List.getElem_mem hnq
        have hum := hb.spi.2.1.2 _ huq
        obtain ⟨hr1, hr2⟩ := okL_row hl (show InN m (rdI q n) from hum)
        rw [ilt_t (show (0 : Int) < (hi : Int) - (lo : Int) by omega), br_t, ile_t (Int.le_refl 0), ile_t (show (0 : Int) ≤ 1 by omega), ile_t (show (1 : Int) ≤ (hi : Int) - (lo : Int) by omega), ile_t (Int.le_refl ((hi : Int) - (lo : Int)))]
        simp only [Bool.and_self, chk_t]
        rw [hhead, inb_i hum.1 (by rw [hl.1]; exact hum.2), chk_t, tLen_n, if_pos hnq]
        have hc' : tCut o1 ((lo + 1 : Nat) : Int) (hi : Int) = q.drop (n + 1) := by
          rw [tCut_n] at hc ⊢
          rw [← List.drop_drop, hc, List.drop_drop]
        obtain ⟨lo', hi', o1', g1, g2, g3, g4⟩ := spread_in_eq (N := N) (fun roads2 queue2 queue3 o2 o3 => impl_spread_l0 N (fun o1 => some ((o1, ()), ())) k roads2 queue2 queue3 o2 o3) hN hm hr1 hr2 (rdL lists (rdI q n)).length 0 N (lo + 1) hi o1 (o, q) (rdI q n) (by omega) (by omega) (by omega) hho hc' hb hnq rfl (fun _ h => h)
        simp only [Int.natCast_zero, List.drop_zero] at g3 g4
        rw [show (lo : Int) + 1 = ((lo + 1 : Nat) : Int) by omega, show (lo : Int) + ((hi : Int) - (lo : Int)) = (hi : Int) by omega, g4]
        obtain ⟨h1, t, h2⟩ := bfs_next hl hb hnq
        exact ih (n + 1) k lo' hi' _ o1' _ (by omega) (by omega) (by rw [h2]; simp; omega) g1 g2 g3 h1
      · rw [ilt_f (by omega), br_f, if_neg hnq]
  unfold impl_spread
  rw [tLen_n, hl.1, Repeat_eq (by omega) hN]
  simp only [bind_some']
  rw [inb_i hx.1 (by simp; exact hx.2), chk_t]
  exact go m 0 N 0 1 _ [x] [x] (by omega) (by omega) (by simp) (by omega) (by simp) (by rw [tCut_n]; rfl) (bfs_init hx)
noncomputable def nextW (L : List (List Int)) (F : List Int) (x : Int) : List Int := (rdL L x).filter fun y => decide (rdI F y = rdI F x - 1)
noncomputable def waysF (L : List (List Int)) (F : List Int) : Nat → Int → List Int → List (List Int)
  | 0, x, b => if rdI F x = 0 then [b] else []
  | d + 1, x, b => if rdI F x = 0 then [b] else (nextW L F x).flatMap fun y => waysF L F d y (b ++ [y])
noncomputable def cntF (L : List (List Int)) (F : List Int) : Nat → Int → Nat
  | 0, x => if rdI F x = 0 then 1 else 0
  | d + 1, x => if rdI F x = 0 then 1 else ((nextW L F x).map fun y => cntF L F d y).sum
theorem ways_cnt {L : List (List Int)} {F : List Int} : ∀ (d : Nat) (x : Int) (b : List Int), (waysF L F d x b).length = cntF L F d x := by
  intro d
  induction d with
  | zero => intro x b; unfold waysF cntF; by_cases h : rdI F x = 0 <;> simp [h]
  | succ d ih =>
    intro x b
    unfold waysF cntF
    by_cases h : rdI F x = 0
    · simp [h]
    · rw [if_neg h, if_neg h, List.length_flatMap]
      congr 1
      exact List.map_congr_left fun y _ => ih y _
theorem ways_len {L : List (List Int)} {F : List Int} : ∀ (d : Nat) (x : Int) (b : List Int), ∀ w ∈ waysF L F d x b, w.length ≤ b.length + d := by
  intro d
  induction d with
  | zero => intro x b w hw; unfold waysF at hw; split at hw <;> simp at hw; rw [hw]; omega
  | succ d ih =>
    intro x b w hw
    unfold waysF at hw
    by_cases h : rdI F x = 0
    · rw [if_pos h] at hw; simp at hw; rw [hw]; omega
    · rw [if_neg h] at hw
      obtain ⟨y, _, hy⟩ := List.mem_flatMap.1 hw
      have := ih y _ w hy
      simp at this
      omega
theorem sum_le {α : Type} {f : α → Nat} {b : Nat} : ∀ {xs : List α}, (∀ x ∈ xs, f x ≤ b) → (xs.map f).sum ≤ xs.length * b := by
  intro xs
  induction xs with
  | nil => intro _; simp
  | cons x xs ih =>
    intro h
    have h1 := h x (List.mem_cons_self ..)
    have h2 := ih fun y hy => h y (List.mem_cons_of_mem _ hy)
    rw [List.map_cons, List.sum_cons, List.length_cons, Nat.add_mul]
    omega
theorem cnt_le {L : List (List Int)} {F : List Int} (hL : ∀ l ∈ L, l.length ≤ 8) : ∀ (d : Nat) (x : Int), cntF L F d x ≤ 8 ^ d := by
  intro d
  induction d with
  | zero => intro x; unfold cntF; split <;> omega
  | succ d ih =>
    intro x
    unfold cntF
    have hp : 1 ≤ 8 ^ (d + 1) := Nat.one_le_pow _ _ (by omega)
    split
    · exact hp
    · refine Nat.le_trans (sum_le fun y _ => ih y) ?_
      have h1 : (nextW L F x).length ≤ (rdL L x).length := List.length_filter_le ..
      have h2 := rdL_len hL x
      rw [Nat.pow_succ, Nat.mul_comm (8 ^ d)]
      exact Nat.mul_le_mul_right _ (by omega)
theorem roads_eq {N : Nat} {m : Nat} {es : List (Int × Int)} (hm : m ≤ 8) (hg : goodG ((m : Int), es)) (hx : es.length ≤ 1048576) (hN : 1048577 ≤ N) : impl_Graph_roads N ((m : Int), es) = some ((nbrs m es, ()), ()) := by
  unfold impl_Graph_roads
  have go : ∀ (d n K : Nat), n + d = m → d < K → impl_Graph_roads_l0 N (fun o => some ((o, ()), ())) K (m : Int) n (m : Int) es ((List.range n).map fun i : Nat => nbr m es (i : Int)) = some ((nbrs m es, ()), ()) := by
    intro d
    induction d with
    | zero =>
      intro n K hd hK
      obtain ⟨k, rfl⟩ := succ_of hK
      have : n = m := by omega
      subst this
      simp only [impl_Graph_roads_l0, ilt_nf (Nat.lt_irrefl n), br_f]
      rfl
    | succ d ih =>
      intro n K hd hK
      obtain ⟨k, rfl⟩ := succ_of hK
      simp only [impl_Graph_roads_l0, ilt_n (show n < m by omega), br_t]
      rw [neighbors_eq hg hx hN, bind_some', room_ok (by simp; omega), chk_t, wrap_succ (by omega), ← ih (n + 1) k (by omega) (by omega), List.range_succ, List.map_append]
      rfl
  exact go m 0 N (by omega) (by omega)
/-- What holds of distances to an end. -/
structure FarOk (m : Nat) (es : List (Int × Int)) (t : Int) (F : List Int) : Prop where
  len : F.length = m
  zero : rdI F t = 0
  one : ∀ y, InN m y → rdI F y = 0 → y = t
  lt : ∀ y, InN m y → rdI F y < m
theorem far_ok {m : Nat} {es : List (Int × Int)} {t : Int} (hm : m ≤ 8) (ht : InN m t) : FarOk m es t (bfsD (nbrs m es) m t) := by
  obtain ⟨h1, h2, h3, h4, _⟩ := bfsD_spec (nbrs_ok (es := es) hm) ht
  exact ⟨h1, h2, h4, h3⟩
theorem count_eq {N : Nat} {m : Nat} {es : List (Int × Int)} {t : Int} {F : List Int} (hm : m ≤ 8) (hx : es.length ≤ 1048576) (hF : FarOk m es t F) (hN : 1048577 ≤ N) : ∀ (d fu : Nat) (x : Int), d < fu → InN m x → rdI F x = d → spec_l7Count_r N fu ((m : Int), es) F x = some (((cntF (nbrs m es) F d x : Int), ()), ()) := by
  have hrow : ∀ l ∈ nbrs m es, l.length ≤ 8 := fun l hl => by
    obtain ⟨i, _, rfl⟩ := List.mem_map.1 hl
    have := nbr_len m es (i : Int)
    omega
  intro d
  induction d with
  | zero =>
    intro fu x hfu hxm hd
    obtain ⟨fu, rfl⟩ := succ_of hfu
    unfold spec_l7Count_r spec_l7Count_b cntF
    rw [inb_i hxm.1 (by rw [hF.len]; exact hxm.2), chk_t, ieq_t (by omega), br_t, if_pos (by omega)]
    rfl
  | succ d ih =>
    intro fu x hfu hxm hd
    obtain ⟨fu, rfl⟩ := succ_of hfu
    have hlt := hF.lt x hxm
    unfold spec_l7Count_r spec_l7Count_b cntF
    rw [inb_i hxm.1 (by rw [hF.len]; exact hxm.2), chk_t, ieq_f (by omega), br_f, if_neg (by omega), l2Neighbors_eq hm hx hN, bind_some']
    simp only []
    have hnl := nbr_len m es x
    obtain ⟨c, hc1, hc2⟩ : ∃ c : Nat, 8 ^ d ≤ c ∧ c ≤ 2097152 := ⟨2097152, Nat.le_trans (Nat.pow_le_pow_right (by omega) (show d ≤ 7 by omega)) (by decide), Nat.le_refl _⟩
    have hin : ∀ y ∈ nbr m es x, InN m y := fun y hy => by
      obtain ⟨i, hi, _, rfl⟩ := mem_nbr.1 hy
      exact in_nat hi
    have go : ∀ (j n K s : Nat), n + j = (nbr m es x).length → j < K → s ≤ n * c →
        spec_l7Count_l0 N (spec_l7Count_r N fu) (fun sum => some ((sum, ()), ())) K F x (s : Int) n (m : Int) es (nbr m es x) = some ((((s + ((((nbr m es x).drop n).filter fun y => decide (rdI F y = rdI F x - 1)).map fun y => cntF (nbrs m es) F d y).sum : Nat) : Int), ()), ()) := by
      intro j
      induction j with
      | zero =>
        intro n K s hj hK hs
        obtain ⟨k, rfl⟩ := succ_of hK
        simp only [spec_l7Count_l0, ilt_lenf (show ¬ n < (nbr m es x).length by omega), br_f]
        rw [List.drop_of_length_le (by omega)]
        simp
      | succ j ihj =>
        intro n K s hj hK hs
        obtain ⟨k, rfl⟩ := succ_of hK
        have hn : n < (nbr m es x).length := by omega
        have hy := hin _ (List.getElem_mem hn)
        simp only [spec_l7Count_l0, ilt_len hn, br_t]
        rw [inb_i hxm.1 (by rw [hF.len]; exact hxm.2), chk_t, ilt_t (by omega), br_t, inb_n hn, chk_t, rdI_n hn, inb_i hy.1 (by rw [hF.len]; exact hy.2), chk_t, chk_t, wrap_ok (n := rdI F x - 1) (by omega) (by omega), wrap_succ (by omega), chk_t, drop_cons hn, List.filter_cons]
        by_cases hc : rdI F (nbr m es x)[n] = rdI F x - 1
        · rw [ieq_t hc, br_t, ih fu _ (by omega) hy (by omega), bind_some', if_pos (decide_eq_true hc)]
          simp only []
          have hcl := cnt_le (F := F) hrow d (nbr m es x)[n]
          have hnc : n * c ≤ 8 * 2097152 := Nat.mul_le_mul (by omega) hc2
          rw [wrap_ok (by omega) (by omega), show (s : Int) + (cntF (nbrs m es) F d (nbr m es x)[n] : Int) = ((s + cntF (nbrs m es) F d (nbr m es x)[n] : Nat) : Int) by omega, ihj (n + 1) k _ (by omega) (by omega) (by rw [Nat.add_mul, Nat.one_mul]; omega)]
          rw [List.map_cons, List.sum_cons, Nat.add_assoc]
        · rw [ieq_f hc, br_f, if_neg (by simpa using hc)]
          exact ihj (n + 1) k s (by omega) (by omega) (by rw [Nat.add_mul, Nat.one_mul]; omega)
    have := go (nbr m es x).length 0 N 0 (by omega) (by omega) (Nat.zero_le _)
    simp only [Int.natCast_zero, List.drop_zero, Nat.zero_add] at this
    rw [this]
    unfold nextW
    rw [rd_nbrs hxm]
theorem from_ways_eq {N : Nat} {m : Nat} {es : List (Int × Int)} {t : Int} {F : List Int} (hm : m ≤ 8) (hF : FarOk m es t F) (ht : InN m t) (hN : 1048577 ≤ N) : ∀ (d fu : Nat) (x : Int) (b : List Int) (o : List (List Int)), d < fu → InN m x → rdI F x = d → b.length + d ≤ 1048575 → o.length + (waysF (nbrs m es) F d x b).length ≤ 1099511627776 →
    impl_Graph_ways_c1_r N fu x t o b (nbrs m es) F () = some ((), (o ++ waysF (nbrs m es) F d x b, (b, ()))) := by
  intro d
  induction d with
  | zero =>
    intro fu x b o hfu hxm hd hb ho
    obtain ⟨fu, rfl⟩ := succ_of hfu
    have hxt := hF.one x hxm (by omega)
    have hw : waysF (nbrs m es) F 0 x b = [b] := by unfold waysF; rw [if_pos (by omega)]
    rw [hw] at ho ⊢
    unfold impl_Graph_ways_c1_r impl_Graph_ways_c1_b
    rw [ieq_t hxt, br_t, Clone_eq (by omega), bind_some']
    simp only []
    rw [room_ok ho, chk_t]
    rfl
  | succ d ih =>
    intro fu x b o hfu hxm hd hb ho
    obtain ⟨fu, rfl⟩ := succ_of hfu
    have hxt : x ≠ t := fun h => by rw [h, hF.zero] at hd; omega
    have hw : waysF (nbrs m es) F (d + 1) x b = (nextW (nbrs m es) F x).flatMap fun y => waysF (nbrs m es) F d y (b ++ [y]) := by
      rw [waysF, if_neg (by omega)]
    rw [hw] at ho ⊢
    unfold impl_Graph_ways_c1_r impl_Graph_ways_c1_b
    rw [ieq_f hxt, br_f, inb_i hxm.1 (by simp [nbrs]; exact hxm.2), chk_t, rd_nbrs hxm, tLen_n]
    unfold nextW at ho ⊢
    rw [rd_nbrs hxm] at ho ⊢
    have hnl := nbr_len m es x
    have hlt := hF.lt x hxm
    have hin : ∀ y ∈ nbr m es x, InN m y := fun y hy => by
      obtain ⟨i, hi, _, rfl⟩ := mem_nbr.1 hy
      exact in_nat hi
    have go : ∀ (j n K : Nat) (o : List (List Int)), n + j = (nbr m es x).length → j < K → o.length + ((((nbr m es x).drop n).filter fun y => decide (rdI F y = rdI F x - 1)).flatMap fun y => waysF (nbrs m es) F d y (b ++ [y])).length ≤ 1099511627776 →
        impl_Graph_ways_c1_l0 N (impl_Graph_ways_c1_r N fu) (fun o o1 => some ((), (o, o1, ()))) K x F t (nbrs m es) F (nbr m es x) ((nbr m es x).length : Int) n o b = some ((), (o ++ (((nbr m es x).drop n).filter fun y => decide (rdI F y = rdI F x - 1)).flatMap fun y => waysF (nbrs m es) F d y (b ++ [y]), (b, ()))) := by
      intro j
      induction j with
      | zero =>
        intro n K o hj hK ho
        obtain ⟨k, rfl⟩ := succ_of hK
        simp only [impl_Graph_ways_c1_l0, ilt_nf (show ¬ n < (nbr m es x).length by omega), br_f]
        rw [List.drop_of_length_le (by omega)]
        simp
      | succ j ihj =>
        intro n K o hj hK ho
        obtain ⟨k, rfl⟩ := succ_of hK
        have hn : n < (nbr m es x).length := by omega
        have hy := hin _ (List.getElem_mem hn)
        simp only [impl_Graph_ways_c1_l0, ilt_n hn, br_t, inb_n hn, chk_t, rdI_n hn]
        rw [inb_i hy.1 (by rw [hF.len]; exact hy.2), chk_t, inb_i hxm.1 (by rw [hF.len]; exact hxm.2), chk_t, wrap_ok (n := rdI F x - 1) (by omega) (by omega), wrap_succ (by omega)]
        rw [drop_cons hn, List.filter_cons] at ho ⊢
        by_cases hc : rdI F (nbr m es x)[n] = rdI F x - 1
        · rw [if_pos (decide_eq_true hc), List.flatMap_cons, List.length_append] at ho
          rw [ieq_t hc, br_t, room_ok (by simp; omega), chk_t, tApp_d, ih fu _ (b ++ [(nbr m es x)[n]]) o (by omega) hy (by omega) (by simp; omega) (by omega), bind_some', if_pos (decide_eq_true hc), List.flatMap_cons]
          have hcut : tCut (b ++ [(nbr m es x)[n]]) 0 (b.length : Int) = b := by
            rw [show (0 : Int) = ((0 : Nat) : Int) from rfl, tCut_n]
            simp
          have hwl : IntKind.i64.wrap (((b ++ [(nbr m es x)[n]]).length : Int) - 1) = (b.length : Int) := by
            rw [List.length_append, List.length_singleton, wrap_ok (by omega) (by omega)]; omega
          simp only [tLen_n]
          rw [hwl, hcut, ile_t (by omega), ile_t (by omega), ile_t (by rw [List.length_append]; omega)]
          simp only [Bool.and_self, chk_t]
          rw [ihj (n + 1) k _ (by omega) (by omega) (by rw [List.length_append]; omega), List.append_assoc]
        · rw [if_neg (by simpa using hc)] at ho ⊢
          rw [ieq_f hc, br_f]
          exact ihj (n + 1) k o (by omega) (by omega) ho
    have := go (nbr m es x).length 0 N o (by omega) (by omega) ho
    simp only [Int.natCast_zero, List.drop_zero] at this
    exact this
theorem more_eq {N : Nat} {m : Nat} {es : List (Int × Int)} {t : Int} {F : List Int} (hm : m ≤ 8) (hx : es.length ≤ 1048576) (hF : FarOk m es t F) (hN : 1048577 ≤ N) : ∀ (d fu : Nat) (x : Int) (b : List Int) (o : List (List Int)), d < fu → InN m x → rdI F x = d → b.length + d ≤ 1048574 → o.length + (waysF (nbrs m es) F d x (b ++ [x])).length ≤ 1099511627776 →
    spec_l7More_r N fu ((m : Int), es) F (b ++ [x]) o = some ((o ++ waysF (nbrs m es) F d x (b ++ [x]), ()), ()) := by
  have last : ∀ (b : List Int) (x : Int), b.length ≤ 1048576 → IntKind.i64.wrap (tLen (b ++ [x]) - 1) = (b.length : Int) ∧ rdI (b ++ [x]) (b.length : Int) = x ∧ inb (b ++ [x]) (b.length : Int) = true := by
    intro b x hb
    refine ⟨?_, ?_, inb_n (by simp)⟩
    · rw [tLen_n, List.length_append, List.length_singleton, wrap_ok (by omega) (by omega)]; omega
    · rw [rdI_n (by simp)]; simp
  intro d
  induction d with
  | zero =>
    intro fu x b o hfu hxm hd hb ho
    obtain ⟨fu, rfl⟩ := succ_of hfu
    obtain ⟨l1, l2, l3⟩ := last b x (by omega)
    have hw : waysF (nbrs m es) F 0 x (b ++ [x]) = [b ++ [x]] := by unfold waysF; rw [if_pos (by omega)]
    rw [hw] at ho ⊢
    unfold spec_l7More_r spec_l7More_b
    rw [l1, l2, l3, chk_t, inb_i hxm.1 (by rw [hF.len]; exact hxm.2), chk_t, ieq_t (by omega), br_t, room_ok ho, chk_t]
    rfl
  | succ d ih =>
    intro fu x b o hfu hxm hd hb ho
    obtain ⟨fu, rfl⟩ := succ_of hfu
    obtain ⟨l1, l2, l3⟩ := last b x (by omega)
    have hw : waysF (nbrs m es) F (d + 1) x (b ++ [x]) = (nextW (nbrs m es) F x).flatMap fun y => waysF (nbrs m es) F d y (b ++ [x] ++ [y]) := by
      rw [waysF, if_neg (by omega)]
    rw [hw] at ho ⊢
    unfold spec_l7More_r spec_l7More_b
    rw [l1, l2, l3, chk_t, inb_i hxm.1 (by rw [hF.len]; exact hxm.2), chk_t, ieq_f (by omega), br_f, l2Neighbors_eq hm hx hN, bind_some']
    simp only []
    unfold nextW at ho ⊢
    rw [rd_nbrs hxm] at ho ⊢
    have hnl := nbr_len m es x
    have hlt := hF.lt x hxm
    have hin : ∀ y ∈ nbr m es x, InN m y := fun y hy => by
      obtain ⟨i, hi, _, rfl⟩ := mem_nbr.1 hy
      exact in_nat hi
    have go : ∀ (j n K : Nat) (o : List (List Int)), n + j = (nbr m es x).length → j < K → o.length + ((((nbr m es x).drop n).filter fun y => decide (rdI F y = rdI F x - 1)).flatMap fun y => waysF (nbrs m es) F d y (b ++ [x] ++ [y])).length ≤ 1099511627776 →
        spec_l7More_l0 N (spec_l7More_r N fu) (fun o => some ((o, ()), ())) K F x n (b ++ [x]) o (m : Int) es (nbr m es x) = some ((o ++ (((nbr m es x).drop n).filter fun y => decide (rdI F y = rdI F x - 1)).flatMap fun y => waysF (nbrs m es) F d y (b ++ [x] ++ [y]), ()), ()) := by
      intro j
      induction j with
      | zero =>
        intro n K o hj hK ho
        obtain ⟨k, rfl⟩ := succ_of hK
        simp only [spec_l7More_l0, ilt_lenf (show ¬ n < (nbr m es x).length by omega), br_f]
        rw [List.drop_of_length_le (by omega)]
        simp
      | succ j ihj =>
        intro n K o hj hK ho
        obtain ⟨k, rfl⟩ := succ_of hK
        have hn : n < (nbr m es x).length := by omega
        have hy := hin _ (List.getElem_mem hn)
        simp only [spec_l7More_l0, ilt_len hn, br_t, inb_n hn, chk_t, rdI_n hn]
        rw [inb_i hy.1 (by rw [hF.len]; exact hy.2), chk_t, inb_i hxm.1 (by rw [hF.len]; exact hxm.2), chk_t, wrap_ok (n := rdI F x - 1) (by omega) (by omega), wrap_succ (by omega)]
        rw [drop_cons hn, List.filter_cons] at ho ⊢
        by_cases hc : rdI F (nbr m es x)[n] = rdI F x - 1
        · rw [if_pos (decide_eq_true hc), List.flatMap_cons, List.length_append] at ho
          rw [ieq_t hc, br_t, l1Own_eq (by simp; omega), bind_some']
          simp only []
          rw [room_ok (by simp; omega), chk_t, tApp_d, ih fu _ (b ++ [x]) o (by omega) hy (by omega) (by simp; omega) (by omega), bind_some', if_pos (decide_eq_true hc), List.flatMap_cons]
          simp only []
          rw [ihj (n + 1) k _ (by omega) (by omega) (by rw [List.length_append]; omega), List.append_assoc]
        · rw [if_neg (by simpa using hc)] at ho ⊢
          rw [ieq_f hc, br_f]
          exact ihj (n + 1) k o (by omega) (by omega) ho
    have := go (nbr m es x).length 0 N o (by omega) (by omega) ho
    simp only [Int.natCast_zero, List.drop_zero] at this
    exact this
/-- All shortest ways. -/
noncomputable def waysL (m : Nat) (es : List (Int × Int)) (s t : Int) : List (List Int) :=
  if rdI (bfsD (nbrs m es) m t) s < 0 then [] else waysF (nbrs m es) (bfsD (nbrs m es) m t) (rdI (bfsD (nbrs m es) m t) s).toNat s [s]
theorem waysL_len {m : Nat} {es : List (Int × Int)} {s t : Int} (hm : m ≤ 8) (hs : InN m s) (ht : InN m t) : (waysL m es s t).length ≤ 2097152 ∧ ∀ w ∈ waysL m es s t, w.length ≤ 8 := by
  have hF := far_ok (es := es) hm ht
  have hlt := hF.lt s hs
  unfold waysL
  by_cases h : rdI (bfsD (nbrs m es) m t) s < 0
  · rw [if_pos h]; simp
  · rw [if_neg h]
    have hrow : ∀ l ∈ nbrs m es, l.length ≤ 8 := fun l hl => by
      obtain ⟨i, _, rfl⟩ := List.mem_map.1 hl
      have := nbr_len m es (i : Int)
      omega
    refine ⟨?_, fun w hw => ?_⟩
    · rw [ways_cnt]
      refine Nat.le_trans (cnt_le hrow _ _) ?_
      exact Nat.le_trans (Nat.pow_le_pow_right (by omega) (show _ ≤ 7 by omega)) (by decide)
    · have := ways_len _ _ _ w hw
      simp at this
      omega
theorem impl_ways_eq {N : Nat} {m : Nat} {es : List (Int × Int)} {s t : Int} (hm : m ≤ 8) (hg : goodG ((m : Int), es)) (hx : es.length ≤ 1048576) (hs : InN m s) (ht : InN m t) (hN : 1048577 ≤ N) : impl_Graph_ways N ((m : Int), es) s t = some ((waysL m es s t, ()), ()) := by
  have hF := far_ok (es := es) hm ht
  have hlt := hF.lt s hs
  obtain ⟨hl1, hl2⟩ := waysL_len (es := es) hm hs ht
  unfold impl_Graph_ways
  simp only []
  rw [roads_eq hm hg hx hN, bind_some']
  simp only []
  rw [spread_eq (nbrs_ok hm) (by omega) ht hN, bind_some']
  simp only []
  rw [inb_i hs.1 (by rw [hF.len]; exact hs.2), chk_t]
  unfold waysL at hl1 ⊢
  by_cases h : rdI (bfsD (nbrs m es) m t) s < 0
  · rw [ilt_t h, br_t, if_pos h]
  · rw [if_neg h] at hl1
    rw [ilt_f h, br_f, if_neg h]
    unfold impl_Graph_ways_c1
    rw [from_ways_eq hm hF ht hN _ N s [s] [] (show (rdI (bfsD (nbrs m es) m t) s).toNat < N by omega) hs (by omega) (by simp; omega) (by rw [List.length_nil]; omega), bind_some']
    rfl
theorem ends_eq {N : Nat} {g : Int × List (Int × Int)} {s t : Int} (hx : g.2.length ≤ 1048576) (hN : 1048577 ≤ N) : spec_l7Ends N g s t = some ((decide (goodG g ∧ (0 ≤ s ∧ s ≤ g.1 - 1) ∧ 0 ≤ t ∧ t ≤ g.1 - 1), ()), ()) ∧ impl_isTwoNodes N g s t = some ((decide (goodG g ∧ (0 ≤ s ∧ s ≤ g.1 - 1) ∧ 0 ≤ t ∧ t ≤ g.1 - 1), ()), ()) := by
  unfold spec_l7Ends impl_isTwoNodes spec_l1In impl_between
  rw [l2Good_eq hx hN, IsGraph_eq hx hN]
  refine (and_self _).mpr ?_
  simp only [bind_some']
  by_cases h : goodG g
  · have h0 := h.1
    rw [decide_eq_true h, br_t, wrap_ok (by omega) (by omega)]
    by_cases h1 : 0 ≤ s
    · rw [ile_t h1, br_t, bind_some', ile_d]
      by_cases h2 : s ≤ g.1 - 1
      · rw [decide_eq_true h2, br_t]
        by_cases h3 : 0 ≤ t
        · rw [ile_t h3, br_t, ile_d]
          simp [h, h1, h2, h3]
        · rw [ile_f h3, br_f]
          simp [h3]
      · rw [decide_eq_false h2]
        simp [h2, br_f]
    · rw [ile_f h1, br_f]
      simp [h1, br_f]
  · rw [decide_eq_false h, br_f]
    simp [h]
theorem spec_count_eq {N : Nat} {m : Nat} {es : List (Int × Int)} {s t : Int} (hm : m ≤ 8) (hx : es.length ≤ 1048576) (hs : InN m s) (ht : InN m t) (hN : 1048577 ≤ N) : spec_l7Count N ((m : Int), es) (bfsD (nbrs m es) m t) s = some ((((waysL m es s t).length : Int), ()), ()) := by
  have hF := far_ok (es := es) hm ht
  have hlt := hF.lt s hs
  unfold spec_l7Count waysL
  by_cases h : rdI (bfsD (nbrs m es) m t) s < 0
  · rw [if_pos h]
    obtain ⟨fu, rfl⟩ : ∃ fu, N = fu + 1 := ⟨N - 1, by omega⟩
    unfold spec_l7Count_r spec_l7Count_b
    rw [inb_i hs.1 (by rw [hF.len]; exact hs.2), chk_t, ieq_f (by omega), br_f, l2Neighbors_eq hm hx hN, bind_some']
    simp only []
    have hnl := nbr_len m es s
    have go : ∀ (j n K : Nat), n + j = (nbr m es s).length → j < K → spec_l7Count_l0 (fu + 1) (spec_l7Count_r (fu + 1) fu) (fun sum => some ((sum, ()), ())) K (bfsD (nbrs m es) m t) s 0 n (m : Int) es (nbr m es s) = some ((0, ()), ()) := by
      intro j
      induction j with
      | zero =>
        intro n K hj hK
        obtain ⟨k, rfl⟩ := succ_of hK
        simp only [spec_l7Count_l0, ilt_lenf (show ¬ n < (nbr m es s).length by omega), br_f]
      | succ j ihj =>
        intro n K hj hK
        obtain ⟨k, rfl⟩ := succ_of hK
        have hn : n < (nbr m es s).length := by omega
        simp only [spec_l7Count_l0, ilt_len hn, br_t]
        rw [inb_i hs.1 (by rw [hF.len]; exact hs.2), chk_t, ilt_f (by omega), br_f, wrap_succ (by omega)]
        exact ihj (n + 1) k (by omega) (by omega)
    have := go (nbr m es s).length 0 (fu + 1) (by omega) (by omega)
    exact this
  · rw [if_neg h, count_eq hm hx hF hN (rdI (bfsD (nbrs m es) m t) s).toNat N s (by omega) hs (by omega), ways_cnt]
noncomputable def shortV (g : Int × List (Int × Int)) (s t : Int) : List (List Int) × Bool :=
  if goodG g ∧ (0 ≤ s ∧ s ≤ g.1 - 1) ∧ 0 ≤ t ∧ t ≤ g.1 - 1 then
    (if 1 ≤ (waysL g.1.toNat g.2 s t).length ∧ (waysL g.1.toNat g.2 s t).length ≤ 300 then (waysL g.1.toNat g.2 s t, true) else ([], false))
  else ([], false)
theorem ShortestWays_both {N : Nat} {g : Int × List (Int × Int)} {s t : Int} (hx : g.2.length ≤ 1048576) (hN : 1048577 ≤ N) : ((shortV g s t).1.length ≤ 300 ∧ ∀ x ∈ (shortV g s t).1, x.length ≤ 8) ∧ spec_ShortestWays N g s t = some (((shortV g s t).1, (shortV g s t).2, ()), ()) ∧ impl_ShortestWays N g s t = some (((shortV g s t).1, (shortV g s t).2, ()), ()) := by
  obtain ⟨e1, e2⟩ := ends_eq (s := s) (t := t) hx hN
  unfold spec_ShortestWays impl_ShortestWays shortV
  rw [e1, e2, bind_some', bind_some']
  by_cases h : goodG g ∧ (0 ≤ s ∧ s ≤ g.1 - 1) ∧ 0 ≤ t ∧ t ≤ g.1 - 1
  · obtain ⟨m', es⟩ := g
    have h0 := h.1.1
    simp only at hx h h0
    obtain ⟨m, rfl⟩ : ∃ m : Nat, m' = m := ⟨m'.toNat, by omega⟩
    have hs : InN m s := ⟨h.2.1.1, by omega⟩
    have ht : InN m t := ⟨h.2.2.1, by omega⟩
    have hm : m ≤ 8 := by omega
    have hF := far_ok (es := es) hm ht
    obtain ⟨wl1, wl2⟩ := waysL_len (es := es) hm hs ht
    rw [if_pos h, decide_eq_true h]
    simp only [Bool.not_true, br_f, Int.toNat_natCast]
    rw [impl_ways_eq hm h.1 hx hs ht hN, bind_some']
    have hb : impl_between N ((waysL m es s t).length : Int) 1 300 = some ((decide (1 ≤ (waysL m es s t).length ∧ (waysL m es s t).length ≤ 300), ()), ()) := by
      unfold impl_between
      by_cases c1 : 1 ≤ (waysL m es s t).length
      · rw [ile_t (by omega), br_t, ile_d]
        by_cases c2 : (waysL m es s t).length ≤ 300
        · rw [decide_eq_true (show ((waysL m es s t).length : Int) ≤ 300 by omega), decide_eq_true ⟨c1, c2⟩]
        · rw [decide_eq_false (show ¬ ((waysL m es s t).length : Int) ≤ 300 by omega), decide_eq_false (fun h => c2 h.2)]
      · rw [ile_f (by omega), br_f, decide_eq_false (fun h => c1 h.1)]
    have hw : spec_l7Ways N ((m : Int), es) s t = some ((if (waysL m es s t).length ≤ 300 then waysL m es s t else [], ()), ()) := by
      unfold spec_l7Ways
      simp only []
      rw [l3Far_bfs hm hx ht hN, bind_some']
      simp only []
      rw [inb_i hs.1 (by rw [hF.len]; exact hs.2), chk_t, spec_count_eq hm hx hs ht hN, bind_some']
      by_cases c : rdI (bfsD (nbrs m es) m t) s < 0
      · have e : waysL m es s t = [] := by unfold waysL; rw [if_pos c]
        rw [ilt_t c, br_t, e]
        rfl
      · rw [ilt_f c, br_f]
        show br (ilt 300 ((waysL m es s t).length : Int)) _ _ = _
        by_cases c2 : (waysL m es s t).length ≤ 300
        · rw [ilt_f (by omega), br_f, if_pos c2]
          have e : waysL m es s t = waysF (nbrs m es) (bfsD (nbrs m es) m t) (rdI (bfsD (nbrs m es) m t) s).toNat s [s] := by unfold waysL; rw [if_neg c]
          have hlt := hF.lt s hs
          have := more_eq (N := N) hm hx hF hN (rdI (bfsD (nbrs m es) m t) s).toNat N s [] [] (by omega) hs (by omega) (by simp; omega) (by rw [List.nil_append, ← e, List.length_nil]; omega)
          rw [List.nil_append, List.nil_append, ← e] at this
          unfold spec_l7More
          rw [this, bind_some']
        · rw [ilt_t (by omega), br_t, if_neg c2]
    simp only [tLen_n]
    rw [hb, hw, bind_some', bind_some']
    unfold spec_l3Told
    simp only [bind_some', tLen_n]
    by_cases c : 1 ≤ (waysL m es s t).length ∧ (waysL m es s t).length ≤ 300
    · rw [if_pos c, if_pos c.2, decide_eq_true c, Bool.not_true, br_f, ilt_t (by omega)]
      exact ⟨⟨c.2, wl2⟩, rfl, rfl⟩
    · rw [if_neg c, decide_eq_false c, Bool.not_false, br_t]
      refine ⟨⟨Nat.zero_le _, by simp⟩, ?_, rfl⟩
      by_cases c2 : (waysL m es s t).length ≤ 300
      · have : waysL m es s t = [] := List.length_eq_zero_iff.1 (by omega)
        rw [if_pos c2, this]
        rfl
      · rw [if_neg c2]
        rfl
  · rw [if_neg h, decide_eq_false h]
    exact ⟨⟨Nat.zero_le _, by simp⟩, rfl, rfl⟩
theorem ShortestWays_pure {g : Int × List (Int × Int)} {s t : Int} (hx : g.2.length ≤ 9223372036854775807) : laws_FnExactShortestWays 1048577 g s t = some ((true, ()), ()) := by
  unfold laws_FnExactShortestWays
  have hN : 1048577 ≤ 1048577 := Nat.le_refl _
  obtain ⟨r, h1, h2⟩ := szGraph_eq (N := 1048577) hx
  simp only [h1, bind_some']
  by_cases h : 0 ≤ r
  · rw [ilt_f (by omega), br_f]
    have h3 := h2 h
    obtain ⟨⟨c1, c2⟩, e1, e2⟩ := ShortestWays_both (N := 1048577) (s := s) (t := t) h3 hN
    have k0 : (0 : Int) ≤ 1 ∧ (1 : Int) ≤ 1152921504606846976 := by omega
    have c3 : ∀ x ∈ (shortV g s t).1, x.length ≤ 1048576 := fun x hx => by have := c2 x hx; omega
    have c4 := sumL_le c3
    obtain ⟨g', hmk⟩ := markGraph_eq (N := 1048577) k0 h3 hN
    simp only [toGraph_eq h3 hN, bind_some', e1, e2, eqGraph_eq h3 hN, eqIntSS_eq (show (shortV g s t).1.length ≤ 1048576 by omega) c3 hN, decide_true, Bool.not_true, br_f, hmk, ilt_f (show ¬ 1 + 2 * (g.2.length : Int) < 0 by omega),
      markIntSS_eq k0 (show (shortV g s t).1.length ≤ 1048576 by omega) c3 hN, heldIntSS_eq k0 (show (shortV g s t).1.length ≤ 1048576 by omega) c3 hN, ilt_f (show ¬ 1 + sumL (shortV g s t).1 < 0 by omega), ine_f (rfl : 1 + sumL (shortV g s t).1 = 1 + sumL (shortV g s t).1)]
    simp [br_ite]
  · rw [ilt_t (by omega), br_t]
theorem ShortestWays_pureT : ∀ x : argsT (psOf [QILQII, I, I]), WfA [QILQII, I, I] x → ∃ k m, (laws_FnExactShortestWays_S k).f x = some ((true, ()), m) :=
  fun x h => ⟨1048577, (), ShortestWays_pure (len_ok h.1.2.1)⟩
end Go.Proofs.Ytfbkjgeaoafejaa
