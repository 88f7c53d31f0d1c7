/- Statements on data alone. -/
import Derived.Test.YtahehkidnfmfnaaGreatPvPure
import Derived.Test.YtahehkidnfmfnaaGreatExchangesGa
set_option linter.all false
set_option linter.all false
namespace Go.Proofs.YtahehkidnfmfnaaGreat
open Go Go.PV Classical
theorem shr32 {n : Nat} (h : n < 4294967296) : shrI .u64 (n : Int) 32 = 0 := by
 unfold shrI
 have : (n : Int).fdiv (2 ^ (min (32 : Int).toNat IntKind.u64.bits)) = (n : Int).fdiv 4294967296 := rfl
 rw [this, Int.fdiv_eq_ediv_of_nonneg _ (by omega)]
 omega
theorem and32 {n : Nat} (h : n < 4294967296) : bitop .and .u64 (n : Int) 4294967295 = n := by
 have := andN (a := n) (b := 4294967295) h (by omega)
 rw [show ((4294967295 : Nat) : Int) = 4294967295 from rfl] at this
 rw [this, show (4294967295 : Nat) = 2 ^ 32 - 1 from rfl, Nat.and_two_pow_sub_one_eq_mod]
 omega
theorem mul64_one {N m : Nat} (h : m < 4294967296) : Zq57 N 1 (m : Int) = some ((0, (m : Int), ()), ()) := by
 have e1 : shrI .u64 1 32 = 0 := by have := shr32 (n := 1) (by omega); exact this
 have e2 : bitop .and .u64 1 4294967295 = 1 := by have := and32 (n := 1) (by omega); exact this
 have w0 : IntKind.u64.wrap 0 = 0 := by have := wrap64 (n := 0) (by omega); exact this
 have e3 : shrI .u64 0 32 = 0 := by have := shr32 (n := 0) (by omega); exact this
 have e4 : bitop .and .u64 0 4294967295 = 0 := by have := and32 (n := 0) (by omega); exact this
 unfold Zq57 Zq58
 simp only [e1, e2, shr32 h, and32 h, Int.zero_mul, Int.mul_zero, Int.one_mul, wrap64 (show m < 18446744073709551616 by omega), w0, Int.zero_add, Int.add_zero, e3, e4, bind_some']
theorem tMin_n (a b : Nat) : tMin (a : Int) (b : Int) = ((min a b : Nat) : Int) := by
 unfold tMin
 by_cases h : a ≤ b
 ·rw [ile_t (by omega), Nat.min_eq_left h]; rfl
 ·rw [ile_f (by omega), Nat.min_eq_right (by omega)]; rfl
theorem tPut_n {α : Type} (xs ys : List α) (l : Nat) : tPut xs (l : Int) ys = xs.take l ++ ys ++ xs.drop (l + ys.length) := by simp [tPut]
theorem Repeat_eq {N m : Nat} {v : Int} (hm : m ≤ 1048576) (hN : 1048577 ≤ N) : Zq73 N [v] (m : Int) = some ((List.replicate m v, ()), ()) := by
 have go : ∀ (d n K : Nat), n + d = m → d < K → (0 < n ∨ m = 0) → Zq73_l0 N (fun o => some ((o, ()), ())) K n (List.replicate n v ++ List.replicate d 0) = some ((List.replicate m v, ()), ()) := by
  intro d
  induction d using Nat.strongRecOn with
  | _ d ih =>
   intro n K hd hK hn
   obtain ⟨k, rfl⟩ := succ_of hK
   have hlen : (List.replicate n v ++ List.replicate d 0).length = m := by simp; omega
   simp only [Zq73_l0]
   rw [tLen_n, hlen]
   by_cases h0 : d = 0
   ·subst h0
    have : n = m := by omega
    subst this
    rw [ilt_nf (Nat.lt_irrefl n), br_f]
    simp
   ·have hc0 : tCut (List.replicate n v ++ List.replicate d 0) 0 (n : Int) = List.replicate n v := by
     rw [show (0 : Int) = ((0 : Nat) : Int) from rfl, tCut_n]
     simp
    have hmin : tMin ((m : Int) - (n : Int)) (tLen (List.replicate n v)) = ((min d n : Nat) : Int) := by
     rw [tLen_n, List.length_replicate, show (m : Int) - (n : Int) = (d : Int) by omega, tMin_n]
    have hc1 : tCut (List.replicate n v) 0 ((min d n : Nat) : Int) = List.replicate (min d n) v := by
     rw [show (0 : Int) = ((0 : Nat) : Int) from rfl, tCut_n, List.take_replicate, List.drop_zero]
     congr 1
     omega
    rw [ilt_n (show n < m by omega), br_t, ile_t (show (0 : Int) ≤ (n : Int) by omega), ile_t (show (n : Int) ≤ (m : Int) by omega), ile_t (Int.le_refl (m : Int)), ile_t (Int.le_refl (0 : Int))]
    simp only [Bool.and_self, chk_t]
    rw [hc0, hmin, hc1]
    have hput : tPut (List.replicate n v ++ List.replicate d 0) (n : Int) (List.replicate (min d n) v) = List.replicate (n + min d n) v ++ List.replicate (d - min d n) 0 := by
     rw [tPut_n, List.take_left' (by simp), List.drop_append, List.length_replicate, List.length_replicate]
     rw [List.drop_of_length_le (by simp), List.nil_append, List.drop_replicate, List.replicate_append_replicate]
     congr 2
     omega
    rw [hput, wrap_ok (by omega) (by omega), show (n : Int) + ((min d n : Nat) : Int) = ((n + min d n : Nat) : Int) by omega]
    exact ih (d - min d n) (by omega) (n + min d n) k (by omega) (by omega) (.inl (by omega))
 unfold Zq73
 rw [ilt_f (by omega), br_f, show tLen [v] = ((1 : Nat) : Int) from rfl, wrap64 (by omega), wrap64 (by omega), show (((1 : Nat) : Int)) = 1 from rfl, mul64_one (by omega)]
 simp only [bind_some']
 rw [ilt_f (Int.lt_irrefl 0), br_f, ilt_f (by omega), br_f, wrap_ok (by omega) (by omega), ile_t (by omega), ile_t (Int.le_refl _), fits_ok (by omega)]
 simp only [Bool.and_self, chk_t]
 rw [tRep_n, tLen_n, List.length_replicate, show (1 : Int) = ((1 : Nat) : Int) from rfl, tMin_n]
 have hc : tCut [v] 0 ((min m 1 : Nat) : Int) = List.replicate (min m 1) v := by
  rw [show (0 : Int) = ((0 : Nat) : Int) from rfl, tCut_n]
  by_cases h0 : m = 0
  ·subst h0; rfl
  ·rw [show min m 1 = 1 by omega]; rfl
 have hp : tPut (List.replicate m (0 : Int)) 0 (List.replicate (min m 1) v) = List.replicate (min m 1) v ++ List.replicate (m - min m 1) 0 := by
  rw [show (0 : Int) = ((0 : Nat) : Int) from rfl, tPut_n]
  simp
 rw [hc, hp]
 exact go (m - min m 1) (min m 1) N (by omega) (by omega) (by omega)
theorem tCut_drop {xs : List Int} {a b : Nat} (h : b ≤ xs.length) (hab : a ≤ b) {n : Nat} {q : List Int} (hc : tCut xs (a : Int) (b : Int) = q.drop n) (hn : n ≤ q.length) : b - a = q.length - n := by
 have := congrArg List.length hc
 rw [tCut_n, List.length_drop, List.length_take, List.length_drop] at this
 omega
theorem spread_in_eq {R : Type} {N : Nat} (k0 : List (List Int) → Int → Int → List Int → List Int → Option R) {lists : List (List Int)} {m n : Nat} {x : Int} {row : List Int} (hN : 1048577 ≤ N) (hm : m ≤ 1048575) (hrl : row.length ≤ 1048576) (hrow : ∀ z ∈ row, InN m z) :
  ∀ (d i K : Nat) (lo hi : Nat) (o1 : List Int) (s : List Int × List Int) (u : Int), i + d = row.length → d < K → lo ≤ hi → hi ≤ o1.length → tCut o1 (lo : Int) (hi : Int) = s.2.drop (n + 1) → Bfs lists m x n s.1 s.2 → n < s.2.length → u = rdI s.2 n → (∀ z ∈ row, z ∈ rdL lists u) →
   ∃ (lo' hi' : Nat) (o1' : List Int), lo' ≤ hi' ∧ hi' ≤ o1'.length ∧ tCut o1' (lo' : Int) (hi' : Int) = ((row.drop i).foldl (spF u) s).2.drop (n + 1) ∧
    Zq50_l0_0 N k0 K lists lo hi u row (row.length : Int) i s.1 o1 = k0 lists lo' hi' ((row.drop i).foldl (spF u) s).1 o1' := by
 intro d
 induction d with
 | zero =>
  intro i K lo hi o1 s u hd hK hlh hho hc hb hn hu hr
  obtain ⟨k, rfl⟩ := succ_of hK
  simp only [Zq50_l0_0, ilt_nf (show ¬ i < row.length by omega), br_f]
  rw [List.drop_of_length_le (show row.length ≤ i by omega)]
  exact ⟨lo, hi, o1, hlh, hho, hc, rfl⟩
 | succ d ih =>
  intro i K lo hi o1 s u hd hK hlh hho hc hb hn hu hr
  obtain ⟨k, rfl⟩ := succ_of hK
  have hi' : i < row.length := by omega
  have hz := hrow _ (List.getElem_mem hi')
  have hus : u ∈ s.2 := by rw [hu, rdI_n hn]; exact List.getElem_mem hn
  have hum := hb.spi.2.1.2 u hus
  have hu0 := (hb.spi.2.2.1 u hum).2 hus
  have hu1 := hb.spi.2.2.2.1 u hum
  have hsl := inM_len hb.spi.2.1
  have hlen := hb.spi.1
  have hwin := tCut_drop hho hlh hc (by omega)
  have hstep := bfs_step hb hn hz (by rw [← hu]; exact hr _ (List.getElem_mem hi'))
  rw [← hu] at hstep
  obtain ⟨g1, ⟨t, g2⟩, _⟩ := hstep
  have hg3 : rdI (spF u s row[i]).2 n = u := by rw [g2, rdI_n (by simp; omega), List.getElem_append_left hn, ← rdI_n hn, hu]
  have hg4 : n < (spF u s row[i]).2.length := by rw [g2]; simp; omega
  have hdr : (row.drop i).foldl (spF u) s = (row.drop (i + 1)).foldl (spF u) (spF u s row[i]) := by rw [drop_cons hi', List.foldl_cons]
  rw [hdr]
  simp only [Zq50_l0_0, ilt_n hi', br_t, inb_n hi', chk_t, rdI_n hi']
  rw [inb_i hz.1 (by rw [hlen]; exact hz.2), chk_t, wrap_succ (by omega)]
  by_cases hcc : rdI s.1 row[i] < 0
  ·have e : spF u s row[i] = (tSet s.1 row[i] (rdI s.1 u + 1), s.2 ++ [row[i]]) := by unfold spF; rw [if_pos hcc]
   rw [ilt_t hcc, br_t, inb_i hum.1 (by rw [hlen]; exact hum.2), chk_t, chk_t]
   have hcl : (tCut o1 (lo : Int) (hi : Int)).length = s.2.length - (n + 1) := by rw [hc, List.length_drop]
   rw [room_ok (by simp only [List.length_singleton]; omega), chk_t, wrap_ok (by omega) (by omega)]
   have key := ih (i + 1) k 0 (tApp (tCut o1 (lo : Int) (hi : Int)) [row[i]]).length (tApp (tCut o1 (lo : Int) (hi : Int)) [row[i]]) (spF u s row[i]) u (by omega) (by omega) (Nat.zero_le _) (Nat.le_refl _) (by
    rw [tCut_n, tApp_d, hc, e]
    simp only [List.take_length, List.drop_zero]
    rw [List.drop_append_of_le_length (by omega)]) g1 hg4 hg3.symm hr
   obtain ⟨lo', hi2, o2, k1, k2, k3, k4⟩ := key
   refine ⟨lo', hi2, o2, k1, k2, k3, ?_⟩
   rw [← k4, e]
   rfl
  ·have e : spF u s row[i] = s := by unfold spF; rw [if_neg hcc]
   rw [ilt_f hcc, br_f]
   rw [e] at g1 hg3 hg4 ⊢
   exact ih (i + 1) k lo hi o1 s u (by omega) (by omega) hlh hho hc g1 hg4 hg3.symm hr
theorem spread_eq {N : Nat} {lists : List (List Int)} {m : Nat} {x : Int} (hl : okLists lists m) (hm : m ≤ 1048575) (hx : InN m x) (hN : 1048577 ≤ N) : Zq50 N lists x = some ((bfsD lists m x, ()), ()) := by
 have go : ∀ (d n K : Nat) (lo hi : Nat) (o o1 q : List Int), n + d = m → d < K → n ≤ q.length → lo ≤ hi → hi ≤ o1.length → tCut o1 (lo : Int) (hi : Int) = q.drop n → Bfs lists m x n o q →
   Zq50_l0 N (fun o1 => some ((o1, ()), ())) K lists lo hi o o1 = some ((bfsR lists d n o q, ()), ()) := by
  intro d
  induction d with
  | zero =>
   intro n K lo hi o o1 q hd hK hn hlh hho hc hb
   obtain ⟨k, rfl⟩ := succ_of hK
   have hqm := inM_len hb.spi.2.1
   have hwin := tCut_drop hho hlh hc hn
   simp only [Zq50_l0]
   rw [ilt_f (by omega), br_f]
   rfl
  | succ d ih =>
   intro n K lo hi o o1 q hd hK hn hlh hho hc hb
   obtain ⟨k, rfl⟩ := succ_of hK
   have hqm := inM_len hb.spi.2.1
   have hwin := tCut_drop hho hlh hc hn
   simp only [Zq50_l0]
   unfold bfsR
   by_cases hnq : n < q.length
   ·have hhead : rdI o1 ((lo : Int) + 0) = rdI q n := by
     rw [Int.add_zero, rdI_n (by omega), rdI_n hnq]
     have h1 : (tCut o1 (lo : Int) (hi : Int))[0]? = (q.drop n)[0]? := by rw [hc]
     rw [tCut_n, List.getElem?_drop, List.getElem?_take, if_pos (by omega), List.getElem?_drop, Nat.add_zero, Nat.add_zero, List.getElem?_eq_getElem (by omega), List.getElem?_eq_getElem hnq] at h1
     injection h1
    have huq : rdI q n ∈ q := by rw [rdI_n hnq]; exact List.getElem_mem hnq
    have hum := hb.spi.2.1.2 _ huq
    obtain ⟨hr1, hr2⟩ := okL_row hl (show InN m (rdI q n) from hum)
    rw [ilt_t (show (0 : Int) < (hi : Int) - (lo : Int) by omega), br_t, ile_t (Int.le_refl 0), ile_t (show (0 : Int) ≤ 1 by omega), ile_t (show (1 : Int) ≤ (hi : Int) - (lo : Int) by omega), ile_t (Int.le_refl ((hi : Int) - (lo : Int)))]
    simp only [Bool.and_self, chk_t]
    rw [hhead, inb_i hum.1 (by rw [hl.1]; exact hum.2), chk_t, tLen_n, if_pos hnq]
    have hc' : tCut o1 ((lo + 1 : Nat) : Int) (hi : Int) = q.drop (n + 1) := by
     rw [tCut_n] at hc ⊢
     rw [← List.drop_drop, hc, List.drop_drop]
    obtain ⟨lo', hi', o1', g1, g2, g3, g4⟩ := spread_in_eq (N := N) (fun roads2 queue2 queue3 o2 o3 => Zq50_l0 N (fun o1 => some ((o1, ()), ())) k roads2 queue2 queue3 o2 o3) hN hm hr1 hr2 (rdL lists (rdI q n)).length 0 N (lo + 1) hi o1 (o, q) (rdI q n) (by omega) (by omega) (by omega) hho hc' hb hnq rfl (fun _ h => h)
    simp only [Int.natCast_zero, List.drop_zero] at g3 g4
    rw [show (lo : Int) + 1 = ((lo + 1 : Nat) : Int) by omega, show (lo : Int) + ((hi : Int) - (lo : Int)) = (hi : Int) by omega, g4]
    obtain ⟨h1, t, h2⟩ := bfs_next hl hb hnq
    exact ih (n + 1) k lo' hi' _ o1' _ (by omega) (by omega) (by rw [h2]; simp; omega) g1 g2 g3 h1
   ·rw [ilt_f (by omega), br_f, if_neg hnq]
 unfold Zq50
 rw [tLen_n, hl.1, Repeat_eq (by omega) hN]
 simp only [bind_some']
 rw [inb_i hx.1 (by simp; exact hx.2), chk_t]
 exact go m 0 N 0 1 _ [x] [x] (by omega) (by omega) (by simp) (by omega) (by simp) (by rw [tCut_n]; rfl) (bfs_init hx)
noncomputable def nextW (L : List (List Int)) (F : List Int) (x : Int) : List Int := (rdL L x).filter fun y => decide (rdI F y = rdI F x - 1)
theorem sum_le {α : Type} {f : α → Nat} {b : Nat} : ∀ {xs : List α}, (∀ x ∈ xs, f x ≤ b) → (xs.map f).sum ≤ xs.length * b := by
 intro xs
 induction xs with
 | nil => intro _; simp
 | cons x xs ih =>
  intro h
  have h1 := h x (List.mem_cons_self ..)
  have h2 := ih fun y hy => h y (List.mem_cons_of_mem _ hy)
  rw [List.map_cons, List.sum_cons, List.length_cons, Nat.add_mul]
  omega
def lexC : List Int → List Int → Int
 | [], [] => 0
 | [], _ :: _ => -1
 | _ :: _, [] => 1
 | x :: a, y :: b => if x < y then -1 else if y < x then 1 else lexC a b
theorem lexC_anti : ∀ (a b : List Int), lexC b a = - lexC a b := by
 intro a
 induction a with
 | nil => intro b; cases b <;> rfl
 | cons x a ih =>
  intro b
  cases b with
  | nil => rfl
  | cons y b =>
   simp only [lexC]
   by_cases h1 : x < y
   ·simp [h1, show ¬ y < x by omega]
   ·by_cases h2 : y < x
    ·simp [h1, h2]
    ·simp [h1, h2, ih]
theorem lexC_self (a : List Int) : lexC a a = 0 := by have := lexC_anti a a; omega
theorem Compare_lex {N : Nat} {a b : List Int} (ha : a.length ≤ 1048576) (hb : b.length ≤ 1048576) (hN : 1048577 ≤ N) : Zq65 N a b = some ((lexC a b, ()), ()) := by
 unfold Zq65
 have go : ∀ (d n K : Nat), n + d = a.length → d < K → n ≤ b.length → lexC a b = lexC (a.drop n) (b.drop n) → Zq65_l0 N (fun x => some ((x, ()), ())) (fun s11 s21 => (br (ilt (tLen s11) (tLen s21)) (some (((-1), ()), ())) (some ((0, ()), ())))) K a b a (a.length : Int) n = some ((lexC a b, ()), ()) := by
  intro d
  induction d with
  | zero =>
   intro n K hd hK hn h
   obtain ⟨k, rfl⟩ := succ_of hK
   simp only [Zq65_l0, ilt_nf (show ¬ n < a.length by omega), br_f]
   rw [tLen_n, tLen_n, h, List.drop_of_length_le (show a.length ≤ n by omega)]
   by_cases hlt : a.length < b.length
   ·rw [ilt_n hlt, br_t, drop_cons (show n < b.length by omega)]; rfl
   ·rw [ilt_nf hlt, br_f, List.drop_of_length_le (show b.length ≤ n by omega)]; rfl
  | succ d ih =>
   intro n K hd hK hn h
   obtain ⟨k, rfl⟩ := succ_of hK
   have hna : n < a.length := by omega
   simp only [Zq65_l0, ilt_n hna, br_t, inb_n hna, chk_t]
   rw [drop_cons hna] at h
   by_cases hnb : n < b.length
   ·rw [tLen_n, ile_f (by omega), br_f, inb_n hnb, chk_t, compare_eq, bind_some', rdI_n hna, rdI_n hnb]
    rw [drop_cons hnb] at h
    simp only [lexC] at h
    simp only []
    by_cases h1 : a[n] < b[n]
    ·rw [if_pos h1] at h ⊢
     rw [ine_t (by omega), br_t, h]
    ·rw [if_neg h1] at h ⊢
     by_cases h2 : b[n] < a[n]
     ·rw [if_pos h2] at h ⊢
      rw [ine_t (by omega), br_t, h]
     ·rw [if_neg h2] at h ⊢
      rw [ine_f rfl, br_f, wrap_succ (by omega)]
      exact ih (n + 1) k (by omega) (by omega) (by omega) h
   ·rw [tLen_n, ile_t (by omega), br_t, h, List.drop_of_length_le (show b.length ≤ n by omega)]
    rfl
 exact go a.length 0 N (by omega) (by omega) (Nat.zero_le _) rfl
def lexSorted (xs : List (List Int)) : Prop := xs.Pairwise fun a b => lexC a b < 0
theorem lexC_trans : ∀ {a b c : List Int}, lexC a b < 0 → lexC b c < 0 → lexC a c < 0 := by
 intro a
 induction a with
 | nil =>
  intro b c h1 h2
  cases b with
  | nil => simp [lexC] at h1
  | cons y b =>
   cases c with
   | nil => simp [lexC] at h2
   | cons z c => simp [lexC]
 | cons x a ih =>
  intro b c h1 h2
  cases b with
  | nil => simp [lexC] at h1
  | cons y b =>
   cases c with
   | nil => simp [lexC] at h2
   | cons z c =>
    simp only [lexC] at h1 h2 ⊢
    by_cases p1 : x < y
    ·by_cases p2 : y < z
     ·rw [if_pos (show x < z by omega)]; decide
     ·rw [if_neg p2] at h2
      by_cases p3 : z < y
      ·rw [if_pos p3] at h2; omega
      ·rw [if_pos (show x < z by omega)]; decide
    ·rw [if_neg p1] at h1
     by_cases p2 : y < x
     ·rw [if_pos p2] at h1; omega
     ·rw [if_neg p2] at h1
      have e : x = y := by omega
      subst e
      by_cases p3 : x < z
      ·rw [if_pos p3]; decide
      ·rw [if_neg p3] at h2 ⊢
       by_cases p4 : z < x
       ·rw [if_pos p4] at h2; omega
       ·rw [if_neg p4] at h2 ⊢
        exact ih h1 h2
theorem lexC_eq : ∀ {a b : List Int}, lexC a b = 0 → a = b := by
 intro a
 induction a with
 | nil => intro b h; cases b with
  | nil => rfl
  | cons y b => simp [lexC] at h
 | cons x a ih =>
  intro b h
  cases b with
  | nil => simp [lexC] at h
  | cons y b =>
   simp only [lexC] at h
   by_cases p1 : x < y
   ·rw [if_pos p1] at h; omega
   ·rw [if_neg p1] at h
    by_cases p2 : y < x
    ·rw [if_pos p2] at h; omega
    ·rw [if_neg p2] at h
     rw [ih h, show x = y by omega]
theorem lexC_flip {a b : List Int} (h1 : ¬ lexC a b < 0) (h2 : a ≠ b) : lexC b a < 0 := by
 have := lexC_anti a b
 have h3 : lexC a b ≠ 0 := fun e => h2 (lexC_eq e)
 omega
theorem lex_nodup {xs : List (List Int)} (h : lexSorted xs) : xs.Nodup := h.imp fun hab e => by rw [e, lexC_self] at hab; omega
theorem lex_ext {xs ys : List (List Int)} (hx : lexSorted xs) (hy : lexSorted ys) (h : ∀ s, s ∈ xs ↔ s ∈ ys) : xs = ys :=
 srt_uniq ((List.perm_ext_iff_of_nodup (lex_nodup hx) (lex_nodup hy)).2 h) hx hy fun a _ b _ h1 h2 => by have := lexC_anti a b; omega
theorem l2Before_eq {N : Nat} {a b : List Int} (ha : a.length ≤ 1048576) (hb : b.length ≤ 1048576) (hN : 1048577 ≤ N) : Zq104 N a b = some ((decide (lexC a b < 0), ()), ()) := by
 unfold Zq104
 have go : ∀ (d n K : Nat), n + d = a.length → d < K → n ≤ b.length → lexC a b = lexC (a.drop n) (b.drop n) → Zq104_l0 N (fun x => some ((x, ()), ())) (fun a1 b1 => some (((ilt (tLen a1) (tLen b1)), ()), ())) K a b (n : Int) = some ((decide (lexC a b < 0), ()), ()) := by
  intro d
  induction d with
  | zero =>
   intro n K hd hK hn h
   obtain ⟨k, rfl⟩ := succ_of hK
   simp only [Zq104_l0, ilt_lenf (show ¬ n < a.length by omega), br_f]
   congr 3
   rw [tLen_n, tLen_n, h, List.drop_of_length_le (show a.length ≤ n by omega)]
   by_cases hlt : a.length < b.length
   ·rw [ilt_n hlt, drop_cons (show n < b.length by omega)]; rfl
   ·rw [ilt_nf hlt, List.drop_of_length_le (show b.length ≤ n by omega)]; rfl
  | succ d ih =>
   intro n K hd hK hn h
   obtain ⟨k, rfl⟩ := succ_of hK
   have hna : n < a.length := by omega
   simp only [Zq104_l0, ilt_len hna, br_t]
   by_cases hnb : n < b.length
   ·simp only [ilt_len hnb, br_t, inb_n hna, inb_n hnb, chk_t, rdI_n hna, rdI_n hnb]
    rw [drop_cons hna, drop_cons hnb] at h
    simp only [lexC] at h
    by_cases he : a[n] = b[n]
    ·rw [ine_f he, br_f, wrap_succ (by omega)]
     refine ih (n + 1) k (by omega) (by omega) (by omega) ?_
     rw [h, if_neg (by omega), if_neg (by omega)]
    ·rw [ine_t he, br_t]
     congr 3
     rw [h]
     by_cases hlt : a[n] < b[n]
     ·rw [if_pos hlt, ilt_t hlt]; rfl
     ·rw [if_neg hlt, if_pos (by omega), ilt_f hlt]; rfl
   ·simp only [ilt_lenf hnb, br_f]
    congr 3
    rw [tLen_n, tLen_n, h, drop_cons hna, List.drop_of_length_le (show b.length ≤ n by omega), ilt_nf (by omega)]
    rfl
 exact go a.length 0 N (by omega) (by omega) (Nat.zero_le _) rfl
theorem l2Sorted_in {R : Type} {N : Nat} {xs o : List (List Int)} {i : Nat} {kk : List (List Int) → Int → Int → List (List Int) → Option R} (hi : i < xs.length) (hxl : ∀ x ∈ xs, x.length ≤ 1048576) (hol : ∀ x ∈ o, x.length ≤ 1048576) (ho : lexSorted o) (hoL : o.length ≤ 1048576) (hN : 1048577 ≤ N) :
  ∃ k : Nat, k ≤ o.length ∧ (∀ j (h : j < o.length), j < k → ¬ lexC xs[i] o[j] < 0) ∧ (∀ j (h : j < o.length), k ≤ j → lexC xs[i] o[j] < 0) ∧ Zq114_l0_0 N kk N xs (i : Int) (tLen o) o = kk xs (i : Int) (k : Int) o := by
 have go : ∀ (k K : Nat), k < K → k ≤ o.length → (∀ j (h : j < o.length), k ≤ j → lexC xs[i] o[j] < 0) →
   ∃ k2 : Nat, k2 ≤ o.length ∧ (∀ j (h : j < o.length), j < k2 → ¬ lexC xs[i] o[j] < 0) ∧ (∀ j (h : j < o.length), k2 ≤ j → lexC xs[i] o[j] < 0) ∧ Zq114_l0_0 N kk K xs (i : Int) ((k : Nat) : Int) o = kk xs (i : Int) (k2 : Int) o := by
  intro k
  induction k with
  | zero =>
   intro K hK hk h
   obtain ⟨K, rfl⟩ := succ_of hK
   refine ⟨0, hk, fun j h1 h2 => absurd h2 (Nat.not_lt_zero j), h, ?_⟩
   simp only [Zq114_l0_0, Int.natCast_zero]
   rw [ilt_f (by decide), br_f]
  | succ k ih =>
   intro K hK hk h
   obtain ⟨K, rfl⟩ := succ_of hK
   have hko : k < o.length := by omega
   simp only [Zq114_l0_0]
   rw [ilt_t (by omega), br_t, inb_n hi, chk_t, wrap_pred (by omega) (by omega), show k + 1 - 1 = k by omega, inb_n hko, chk_t, rdL_n hi, rdL_n hko, l2Before_eq (hxl _ (List.getElem_mem hi)) (hol _ (List.getElem_mem hko)) hN, bind_some']
   by_cases hc : lexC xs[i] o[k] < 0
   ·simp only []
    rw [decide_eq_true hc, br_t]
    exact ih K (by omega) (by omega) fun j hj hkj => by
     by_cases he : j = k
     ·subst he; exact hc
     ·exact h j hj (by omega)
   ·simp only []
    rw [decide_eq_false hc, br_f]
    refine ⟨k + 1, hk, fun j hj hjk => ?_, h, rfl⟩
    by_cases he : j = k
    ·subst he; exact hc
    ·have := List.pairwise_iff_getElem.1 ho j k hj hko (by omega)
     exact fun h2 => hc (lexC_trans h2 this)
 obtain ⟨k2, h1, h2, h3, h4⟩ := go o.length N (by omega) (Nat.le_refl _) fun j hj h => by omega
 exact ⟨k2, h1, h2, h3, h4⟩
theorem put_row {o : List (List Int)} {x : List Int} {k : Nat} (ho : lexSorted o) (hk : k ≤ o.length) (h1 : ∀ j (h : j < o.length), j < k → ¬ lexC x o[j] < 0) (h2 : ∀ j (h : j < o.length), k ≤ j → lexC x o[j] < 0) (hne : ∀ j (h : j < o.length), j < k → o[j] ≠ x) :
  lexSorted (o.take k ++ x :: o.drop k) ∧ ∀ s, s ∈ o.take k ++ x :: o.drop k ↔ s ∈ o ∨ s = x := by
 constructor
 ·refine List.pairwise_append.2 ⟨ho.sublist (List.take_sublist ..), List.pairwise_cons.2 ⟨fun y hy => ?_, ho.sublist (List.drop_sublist ..)⟩, fun a ha b hb => ?_⟩
  ·obtain ⟨j, hj, rfl⟩ := List.getElem_of_mem hy
   rw [List.getElem_drop]
   exact h2 _ (by simp at hj; omega) (by omega)
  ·obtain ⟨j, hj, rfl⟩ := List.getElem_of_mem ha
   have hj' : j < k ∧ j < o.length := by simp at hj; omega
   rw [List.getElem_take]
   have hax : lexC o[j] x < 0 := lexC_flip (h1 j hj'.2 hj'.1) (fun e => hne j hj'.2 hj'.1 e.symm)
   rcases List.mem_cons.1 hb with rfl | hb
   ·exact hax
   ·obtain ⟨l, hl, rfl⟩ := List.getElem_of_mem hb
    rw [List.getElem_drop]
    exact List.pairwise_iff_getElem.1 ho _ _ hj'.2 (by simp at hl; omega) (by omega)
 ·intro s
  rw [List.mem_append, List.mem_cons]
  have := List.take_append_drop k o
  constructor
  ·rintro (h | h | h)
   ·exact .inl (List.mem_of_mem_take h)
   ·exact .inr h
   ·exact .inl (List.mem_of_mem_drop h)
  ·rintro (h | h)
   ·rw [← this, List.mem_append] at h
    rcases h with h | h
    ·exact .inl h
    ·exact .inr (.inr h)
   ·exact .inr (.inl h)
theorem l1Own_ro {N : Nat} {xs : List Int} (h : xs.length ≤ 1048576) : Zq100 N xs = some ((xs, ()), ()) := by
 unfold Zq100
 rw [room_ok (by simp; omega), chk_t]
 rfl
theorem l2Sorted_eq {N : Nat} {xs : List (List Int)} (hx : xs.length ≤ 1048576) (hl : ∀ x ∈ xs, x.length ≤ 1048576) (hN : 1048577 ≤ N) : ∃ ys, Zq114 N xs = some ((ys, ()), ()) ∧ lexSorted ys ∧ ∀ s, s ∈ ys ↔ s ∈ xs := by
 unfold Zq114
 have go : ∀ (d i K : Nat) (o : List (List Int)), i + d = xs.length → d < K → o.length ≤ i → lexSorted o → (∀ s, s ∈ o ↔ s ∈ xs.take i) →
   ∃ ys, Zq114_l0 N (fun o2 => some ((o2, ()), ())) K xs (i : Int) o = some ((ys, ()), ()) ∧ lexSorted ys ∧ ∀ s, s ∈ ys ↔ s ∈ xs := by
  intro d
  induction d with
  | zero =>
   intro i K o hd hK ho hs hm
   obtain ⟨K, rfl⟩ := succ_of hK
   simp only [Zq114_l0, ilt_lenf (show ¬ i < xs.length by omega), br_f]
   refine ⟨o, rfl, hs, fun s => ?_⟩
   rw [hm s, List.take_of_length_le (by omega)]
  | succ d ih =>
   intro i K o hd hK ho hs hm
   obtain ⟨K, rfl⟩ := succ_of hK
   have hi : i < xs.length := by omega
   have hol : ∀ x ∈ o, x.length ≤ 1048576 := fun x hx => hl x (List.mem_of_mem_take ((hm x).1 hx))
   have htk : xs.take (i + 1) = xs.take i ++ [xs[i]] := by rw [List.take_add_one, List.getElem?_eq_getElem hi]; rfl
   simp only [Zq114_l0, ilt_len hi, br_t]
   obtain ⟨k, k1, k2, k3, k4⟩ := l2Sorted_in (N := N) (kk := fun states4 i3 kv1 o3 => (br (ieq kv1 0)
    ((chk (ile 0 0 && ile 0 kv1 && ile kv1 (tLen o3))
     (chk (room (α := (List Int)) (β := (List Int)) [] (tCut o3 0 kv1))
     (chk (inb states4 i3)
     ((Zq100 N (rdL states4 i3)).bind fun r =>
     (chk (room (tApp [] (tCut o3 0 kv1)) [r.1.1])
      (chk (ile 0 kv1 && ile kv1 (tLen o3) && ile (tLen o3) (tLen o3))
      (chk (room (tApp (tApp [] (tCut o3 0 kv1)) [r.1.1]) (tCut o3 kv1 (tLen o3)))
      (Zq114_l0 N (fun o2 => some ((o2, ()), ())) K states4 (IntKind.i64.wrap (i3 + 1)) (tApp (tApp (tApp [] (tCut o3 0 kv1)) [r.1.1]) (tCut o3 kv1 (tLen o3))))))))))))
    ((chk (inb o3 (IntKind.i64.wrap (kv1 - 1)))
     (chk (inb states4 i3)
     ((Zq103 N (rdL o3 (IntKind.i64.wrap (kv1 - 1))) (rdL states4 i3)).bind fun r1 =>
     (br (!r1.1.1)
      ((chk (ile 0 0 && ile 0 kv1 && ile kv1 (tLen o3))
       (chk (room (α := (List Int)) (β := (List Int)) [] (tCut o3 0 kv1))
       (chk (inb states4 i3)
       ((Zq100 N (rdL states4 i3)).bind fun r2 =>
       (chk (room (tApp [] (tCut o3 0 kv1)) [r2.1.1])
        (chk (ile 0 kv1 && ile kv1 (tLen o3) && ile (tLen o3) (tLen o3))
        (chk (room (tApp (tApp [] (tCut o3 0 kv1)) [r2.1.1]) (tCut o3 kv1 (tLen o3)))
        (Zq114_l0 N (fun o2 => some ((o2, ()), ())) K states4 (IntKind.i64.wrap (i3 + 1)) (tApp (tApp (tApp [] (tCut o3 0 kv1)) [r2.1.1]) (tCut o3 kv1 (tLen o3))))))))))))
      (Zq114_l0 N (fun o2 => some ((o2, ()), ())) K states4 (IntKind.i64.wrap (i3 + 1)) o3)))))))) hi hl hol hs (by omega) hN
   rw [k4]
   have hcut0 : tCut o 0 (k : Int) = o.take k := by have := tCut_n o 0 k; simpa using this
   have hcutk : tCut o (k : Int) (tLen o) = o.drop k := by rw [tLen_n, tCut_n, List.take_of_length_le (Nat.le_refl _)]
   have h1 : (ile 0 0 && ile 0 (k : Int) && ile (k : Int) (tLen o)) = true := by rw [ile_t (Int.le_refl _), ile_t (by omega), tLen_n, ile_t (by omega)]; rfl
   have h2 : (ile 0 (k : Int) && ile (k : Int) (tLen o) && ile (tLen o) (tLen o)) = true := by rw [ile_t (by omega), tLen_n, ile_t (by omega), ile_t (Int.le_refl _)]; rfl
   have hxi := hl _ (List.getElem_mem hi)
   have hput : ∀ (hne : ∀ j (h : j < o.length), j < k → o[j] ≠ xs[i]), ∃ ys, Zq114_l0 N (fun o2 => some ((o2, ()), ())) K xs (IntKind.i64.wrap ((i : Int) + 1)) (tApp (tApp (tApp [] (o.take k)) [xs[i]]) (o.drop k)) = some ((ys, ()), ()) ∧ lexSorted ys ∧ ∀ s, s ∈ ys ↔ s ∈ xs := by
    intro hne
    obtain ⟨p1, p2⟩ := put_row hs k1 k2 k3 hne
    have e : tApp (tApp (tApp [] (o.take k)) [xs[i]]) (o.drop k) = o.take k ++ xs[i] :: o.drop k := by simp [tApp]
    rw [e, wrap_succ (by omega)]
    refine ih (i + 1) K _ (by omega) (by omega) (by simp; omega) p1 fun s => ?_
    rw [p2 s, hm s, htk, List.mem_append, List.mem_singleton]
   have r1 : room (α := List Int) (β := List Int) [] (o.take k) = true := room_ok (by rw [List.length_take, List.length_nil]; omega)
   have r2 : room (tApp [] (o.take k)) [xs[i]] = true := room_ok (by simp only [tApp, List.nil_append, List.length_take, List.length_singleton]; omega)
   have r3 : room (tApp (tApp [] (o.take k)) [xs[i]]) (o.drop k) = true := room_ok (by simp only [tApp, List.nil_append, List.length_append, List.length_take, List.length_drop, List.length_singleton]; omega)
   by_cases hk0 : k = 0
   ·subst hk0
    have e0 : ieq ((0 : Nat) : Int) 0 = true := ieq_t rfl
    rw [e0, br_t, h1, chk_t, hcut0, r1, chk_t, inb_n hi, chk_t, rdL_n hi, l1Own_ro hxi, bind_some', h2, hcutk, r2, chk_t, chk_t, r3, chk_t]
    exact hput fun j h h0 => absurd h0 (Nat.not_lt_zero j)
   ·have hk' : k - 1 < o.length := by omega
    rw [ieq_f (by omega), br_f, wrap_pred (by omega) (by omega), inb_n hk', chk_t, inb_n hi, chk_t, rdL_n hk', rdL_n hi, l1Same_eq (hol _ (List.getElem_mem hk')) hN, bind_some']
    by_cases he : o[k - 1] = xs[i]
    ·simp only [decide_eq_true he, Bool.not_true, br_f]
     rw [wrap_succ (by omega)]
     refine ih (i + 1) K o (by omega) (by omega) (by omega) hs fun s => ?_
     rw [hm s, htk, List.mem_append, List.mem_singleton]
     constructor
     ·exact .inl
     ·rintro (h | h)
      ·exact h
      ·rw [h, ← he, ← hm]
       exact List.getElem_mem hk'
    ·simp only [decide_eq_false he, Bool.not_false, br_t]
     rw [h1, chk_t, hcut0, r1, chk_t, l1Own_ro hxi, bind_some', h2, hcutk, r2, chk_t, chk_t, r3, chk_t]
     refine hput fun j h hj e => ?_
     by_cases hj1 : j = k - 1
     ·subst hj1; exact he e
     ·have := List.pairwise_iff_getElem.1 hs j (k - 1) h hk' (by omega)
      rw [e] at this
      exact k2 (k - 1) hk' (by omega) this
 have := go xs.length 0 N [] (by omega) (by omega) (by simp) List.Pairwise.nil (by simp)
 exact this
theorem SortFunc_rows {N : Nat} {xs ys : List (List Int)} (hx : xs.length ≤ 1048576) (hl : ∀ x ∈ xs, x.length ≤ 1048576) (hn : xs.Nodup) (hs : lexSorted ys) (hm : ∀ s, s ∈ ys ↔ s ∈ xs) (hN : 1048577 ≤ N) :
  Zq74 N xs () = some ((), (ys, ())) := by
 have hc : ∀ a ∈ xs, ∀ b ∈ xs, (Zq65 N a b).map (fun z => z.1.1) = some (lexC a b) := fun a ha b hb => by rw [Compare_lex (hl a ha) (hl b hb) hN]; rfl
 have hv : ∀ a ∈ xs, ∀ b ∈ xs, cmpV (fun a b => (Zq65 N a b).map fun z => z.1.1) a b = lexC a b := fun a ha b hb => by
  show ((Zq65 N a b).map fun z => z.1.1).getD 0 = _
  rw [hc a ha b hb]
  rfl
 unfold Zq74
 refine sortF_eq ⟨⟨by omega, fun a ha b hb => ⟨_, hc a ha b hb⟩, fun a ha => ?_, fun a ha b hb c hc' h1 h2 => ?_, fun a ha b hb c hc' h1 h2 => ?_, fun a ha b hb h1 h2 => ?_⟩, (List.perm_ext_iff_of_nodup (lex_nodup hs) hn).2 hm, ?_⟩
 ·rw [hv a ha a ha, lexC_self]; decide
 ·rw [hv a ha b hb] at h1
  rw [hv b hb c hc'] at h2
  rw [hv a ha c hc']
  exact lexC_trans h1 h2
 ·rw [hv a ha b hb] at h1
  rw [hv b hb c hc'] at h2
  rw [hv a ha c hc']
  intro h3
  by_cases e : a = b
  ·exact h2 (e ▸ h3)
  ·exact h2 (lexC_trans (lexC_flip h1 e) h3)
 ·rw [hv a ha b hb] at h1
  rw [hv b hb a ha] at h2
  have := lexC_anti a b
  exact lexC_eq (by omega)
 ·refine hs.imp_of_mem fun {a b} ha hb hab => ?_
  rw [hv b ((hm b).1 hb) a ((hm a).1 ha)]
  have := lexC_anti a b
  omega
noncomputable def rowSteps (p : List Int → List Int → Bool) (xs : List (List Int)) (i : Nat) : List (Int × Int) := ((List.range' (i + 1) (xs.length - (i + 1))).filter fun j : Nat => p (rdL xs (i : Int)) (rdL xs (j : Int))).map fun j : Nat => ((i : Int), (j : Int))
noncomputable def stepsL (p : List Int → List Int → Bool) (xs : List (List Int)) : List (Int × Int) := (List.range' 0 xs.length).flatMap (rowSteps p xs)
theorem rowSteps_len (p : List Int → List Int → Bool) (xs : List (List Int)) (i : Nat) : (rowSteps p xs i).length ≤ xs.length := by
 unfold rowSteps
 rw [List.length_map]
 exact Nat.le_trans (List.length_filter_le ..) (by simp)
theorem stepsL_len (p : List Int → List Int → Bool) (xs : List (List Int)) : (stepsL p xs).length ≤ xs.length * xs.length := by
 unfold stepsL
 rw [List.length_flatMap]
 have := sum_le (f := fun i => (rowSteps p xs i).length) (b := xs.length) (xs := List.range' 0 xs.length) fun i _ => rowSteps_len p xs i
 simpa using this
def okSp (x : List (List Int) × List (Int × Int)) : Prop := x.1.length ≤ 1048576 ∧ (∀ r ∈ x.1, r.length ≤ 1048576) ∧ x.2.length ≤ 1048576 ∧ x.1.length ≤ 1024
theorem spaceOf_g {N : Nat} {xs0 xs : List (List Int)} {is : List Int → List Int → Option Bool} {p : List Int → List Int → Bool} (hsort : Zq74 N xs0 () = some ((), (xs, ()))) (hs : lexSorted xs) (hx : xs.length < 1024) (hp : ∀ a ∈ xs, ∀ b ∈ xs, a ≠ b → is a b = some (p a b)) (hN : 1048577 ≤ N) :
  Zq49 N xs0 is = some (((xs, stepsL p xs), ()), ()) := by
 unfold Zq49
 rw [hsort, bind_some']
 simp only []
 rw [tLen_n]
 have hrd : ∀ j : Nat, j < xs.length → rdL xs (j : Int) ∈ xs := fun j hj => by rw [rdL_n hj]; exact List.getElem_mem hj
 have hne : ∀ i j : Nat, i < j → j < xs.length → rdL xs (i : Int) ≠ rdL xs (j : Int) := fun i j hij hj e => by
  have := List.pairwise_iff_getElem.1 hs i j (by omega) hj hij
  rw [rdL_n (show i < xs.length by omega), rdL_n hj] at e
  rw [e, lexC_self] at this
  omega
 have inner : ∀ (d i j K : Nat) (o : List (Int × Int)) (k0 : (List Int → List Int → Option Bool) → Int → Int → List (List Int) → List (Int × Int) → Option (((List (List Int) × List (Int × Int)) × Unit) × Unit)), i < xs.length → j + d = xs.length - (i + 1) → d < K → o.length + d ≤ 1099511627776 →
   Zq49_l0_0 N k0 K is (i : Int) (i : Int) (xs.length : Int) (i : Int) ((i + 1 : Nat) : Int) (xs.length : Int) ((xs.length - (i + 1) : Nat) : Int) (j : Int) xs o = k0 is (xs.length : Int) (i : Int) xs (o ++ ((List.range' (i + 1 + j) d).filter fun j : Nat => p (rdL xs (i : Int)) (rdL xs (j : Int))).map fun j : Nat => ((i : Int), (j : Int))) := by
  intro d
  induction d with
  | zero =>
   intro i j K o k0 hi hj hK ho
   obtain ⟨k, rfl⟩ := succ_of hK
   simp only [Zq49_l0_0, ilt_nf (show ¬ j < xs.length - (i + 1) by omega), br_f]
   simp
  | succ d ih =>
   intro i j K o k0 hi hj hK ho
   obtain ⟨k, rfl⟩ := succ_of hK
   have hj' : i + 1 + j < xs.length := by omega
   simp only [Zq49_l0_0, ilt_n (show j < xs.length - (i + 1) by omega), br_t]
   rw [ile_t (by omega), ilt_t (show (j : Int) < (xs.length : Int) - ((i + 1 : Nat) : Int) by omega)]
   simp only [Bool.and_self, chk_t]
   rw [show ((i + 1 : Nat) : Int) + (j : Int) = ((i + 1 + j : Nat) : Int) by omega, hp _ (hrd i hi) _ (hrd _ hj') (hne i _ (by omega) hj'), bind_some', wrap_succ (show i < 4611686018427387904 by omega), show ((i + 1 : Nat) : Int) + (j : Int) = ((i + 1 + j : Nat) : Int) by omega, wrap_ok (n := ((i + 1 + j : Nat) : Int)) (by omega) (by omega), room_ok (by simp; omega), chk_t, wrap_succ (by omega), tApp_d, List.range'_succ]
   cases hb : p (rdL xs (i : Int)) (rdL xs ((i + 1 + j : Nat) : Int)) with
   | true =>
    rw [br_t, ih i (j + 1) k _ k0 hi (by omega) (by omega) (by simp; omega), List.filter_cons_of_pos (by exact hb), List.append_assoc]
    rfl
   | false =>
    rw [br_f, ih i (j + 1) k _ k0 hi (by omega) (by omega) (by omega), List.filter_cons_of_neg (by rw [hb]; simp)]
    rfl
 have go : ∀ (d i K : Nat) (o : List (Int × Int)), i + d = xs.length → d < K → o.length ≤ i * xs.length →
   Zq49_l0 N (fun o o1 => some (((o, o1), ()), ())) K is (xs.length : Int) (i : Int) xs o = some (((xs, o ++ (List.range' i d).flatMap (rowSteps p xs)), ()), ()) := by
  intro d
  induction d with
  | zero =>
   intro i K o hd hK ho
   obtain ⟨k, rfl⟩ := succ_of hK
   simp only [Zq49_l0, ilt_nf (show ¬ i < xs.length by omega), br_f]
   simp
  | succ d ih =>
   intro i K o hd hK ho
   obtain ⟨k, rfl⟩ := succ_of hK
   have hi : i < xs.length := by omega
   have hmul : i * xs.length ≤ 1024 * 1024 := Nat.mul_le_mul (by omega) (by omega)
   simp only [Zq49_l0, ilt_n hi, br_t, inb_n hi, chk_t]
   rw [wrap_succ (by omega), tLen_n, ile_t (by omega), ile_t (by omega), ile_t (Int.le_refl _)]
   simp only [Bool.and_self, chk_t]
   rw [show (xs.length : Int) - ((i + 1 : Nat) : Int) = ((xs.length - (i + 1) : Nat) : Int) by omega]
   have h1 := inner (xs.length - (i + 1)) i 0 N o (fun isStep2 x2 x3 o2 o3 => Zq49_l0 N (fun o o1 => some (((o, o1), ()), ())) k isStep2 x2 (IntKind.i64.wrap (x3 + 1)) o2 o3) hi (by omega) (by omega) (by omega)
   simp only [Int.natCast_zero] at h1
   rw [h1, Nat.add_zero, wrap_succ (by omega)]
   have h2 := rowSteps_len p xs i
   have h3 := ih (i + 1) k (o ++ rowSteps p xs i) (by omega) (by omega) (by rw [List.length_append, Nat.add_mul, Nat.one_mul]; omega)
   rw [List.append_assoc] at h3
   rw [List.range'_succ, List.flatMap_cons]
   exact h3
 have := go xs.length 0 N [] (by omega) (by omega) (Nat.zero_le _)
 exact this
theorem nodup_leL : ∀ {a b : List (List Int)}, a.Nodup → (∀ x ∈ a, x ∈ b) → a.length ≤ b.length := by
 intro a
 induction a with
 | nil => intro b _ _; exact Nat.zero_le _
 | cons x a ih =>
  intro b hn hs
  obtain ⟨h1, h2⟩ := List.nodup_cons.1 hn
  have hx := hs x (List.mem_cons_self ..)
  have := ih (b := b.erase x) h2 fun y hy => (List.mem_erase_of_ne (fun (e : y = x) => h1 (e ▸ hy))).2 (hs y (List.mem_cons_of_mem _ hy))
  rw [List.length_erase_of_mem hx] at this
  have := List.length_pos_of_mem hx
  rw [List.length_cons]
  omega
def numP (q : Nat → Bool) (s d : Nat) : Nat := ((List.range' s d).filter q).length
theorem numP_succ (q : Nat → Bool) (s d : Nat) : numP q s (d + 1) = numP q s d + if q (s + d) = true then 1 else 0 := by
 unfold numP
 rw [List.range'_1_concat, List.filter_append, List.length_append]
 congr 1
 by_cases h : q (s + d) = true <;> simp [h]
theorem numP_split (q : Nat → Bool) : ∀ (d s e : Nat), numP q s (d + e) = numP q s d + numP q (s + d) e := by
 intro d s e
 unfold numP
 rw [← List.range'_append_1, List.filter_append, List.length_append]
theorem sum_up (p : Nat → Nat → Bool) (hp : ∀ i j, p i j = p j i) : ∀ n, ((List.range' 0 n).map fun i : Nat => numP (p i) (i + 1) (n - (i + 1))).sum = ((List.range' 0 n).map fun i : Nat => numP (p i) 0 i).sum := by
 intro n
 induction n with
 | zero => rfl
 | succ n ih =>
  rw [List.range'_1_concat, List.map_append, List.sum_append, List.map_append, List.sum_append, ← ih]
  simp only [Nat.zero_add, List.map_cons, List.map_nil, List.sum_cons, List.sum_nil, Nat.add_zero]
  have e0 : numP (p n) (n + 1) (n + 1 - (n + 1)) = 0 := by rw [Nat.sub_self]; rfl
  rw [e0, Nat.add_zero]
  have key : ∀ m, m ≤ n → ((List.range' 0 m).map fun i : Nat => numP (p i) (i + 1) (n + 1 - (i + 1))).sum = ((List.range' 0 m).map fun i : Nat => numP (p i) (i + 1) (n - (i + 1))).sum + numP (p n) 0 m := by
   intro m
   induction m with
   | zero => intro _; rfl
   | succ m ihm =>
    intro hm
    rw [List.range'_1_concat, List.map_append, List.sum_append, List.map_append, List.sum_append, ihm (by omega), numP_succ (p n) 0 m]
    simp only [Nat.zero_add, List.map_cons, List.map_nil, List.sum_cons, List.sum_nil, Nat.add_zero]
    have := numP_succ (p m) (m + 1) (n - (m + 1))
    rw [show n - (m + 1) + 1 = n + 1 - (m + 1) by omega, show m + 1 + (n - (m + 1)) = n by omega] at this
    rw [this, hp m n]
    omega
  exact key n (Nat.le_refl n)
theorem sum_add {f g h : Nat → Nat} : ∀ (xs : List Nat), (∀ i ∈ xs, f i + g i ≤ h i) → (xs.map f).sum + (xs.map g).sum ≤ (xs.map h).sum := by
 intro xs
 induction xs with
 | nil => intro _; simp
 | cons x xs ih =>
  intro hh
  have h1 := hh x (List.mem_cons_self ..)
  have h2 := ih fun i hi => hh i (List.mem_cons_of_mem _ hi)
  simp only [List.map_cons, List.sum_cons]
  omega
theorem steps_half {p : List Int → List Int → Bool} {xs : List (List Int)} {B : Nat} (hsym : ∀ a ∈ xs, ∀ b ∈ xs, p a b = p b a) (hB : ∀ i, i < xs.length → numP (fun j : Nat => p (rdL xs (i : Int)) (rdL xs (j : Int))) 0 xs.length ≤ B) : 2 * (stepsL p xs).length ≤ xs.length * B := by
 have hrd : ∀ j : Nat, j < xs.length → rdL xs (j : Int) ∈ xs := fun j hj => by rw [rdL_n hj]; exact List.getElem_mem hj
 have e : (stepsL p xs).length = ((List.range' 0 xs.length).map fun i : Nat => numP (fun j : Nat => p (rdL xs (i : Int)) (rdL xs (j : Int))) (i + 1) (xs.length - (i + 1))).sum := by
  unfold stepsL
  rw [List.length_flatMap]
  congr 1
  refine List.map_congr_left fun i _ => ?_
  unfold rowSteps numP
  rw [List.length_map]
 have hp' := sum_up (fun i j : Nat => p (rdL xs (i : Int)) (rdL xs (j : Int)) && decide (i < xs.length) && decide (j < xs.length)) (fun i j => by
  by_cases hi : i < xs.length <;> by_cases hj : j < xs.length
  ·rw [hsym _ (hrd i hi) _ (hrd j hj)]; simp [hi, hj]
  ·simp [hi, hj]
  ·simp [hi, hj]
  ·simp [hi, hj]) xs.length
 have c1 : ∀ i, i < xs.length → ∀ s d, s + d ≤ xs.length → numP (fun j : Nat => p (rdL xs (i : Int)) (rdL xs (j : Int)) && decide (i < xs.length) && decide (j < xs.length)) s d = numP (fun j : Nat => p (rdL xs (i : Int)) (rdL xs (j : Int))) s d := by
  intro i hi s d hd
  unfold numP
  congr 1
  refine List.filter_congr fun j hj => ?_
  have := List.mem_range'_1.1 hj
  simp [hi, show j < xs.length by omega]
 have m1 : ((List.range' 0 xs.length).map fun i : Nat => numP (fun j : Nat => p (rdL xs (i : Int)) (rdL xs (j : Int)) && decide (i < xs.length) && decide (j < xs.length)) (i + 1) (xs.length - (i + 1))) = (List.range' 0 xs.length).map fun i : Nat => numP (fun j : Nat => p (rdL xs (i : Int)) (rdL xs (j : Int))) (i + 1) (xs.length - (i + 1)) :=
  List.map_congr_left fun i hi => by have := List.mem_range'_1.1 hi; exact c1 i (by omega) _ _ (by omega)
 have m2 : ((List.range' 0 xs.length).map fun i : Nat => numP (fun j : Nat => p (rdL xs (i : Int)) (rdL xs (j : Int)) && decide (i < xs.length) && decide (j < xs.length)) 0 i) = (List.range' 0 xs.length).map fun i : Nat => numP (fun j : Nat => p (rdL xs (i : Int)) (rdL xs (j : Int))) 0 i :=
  List.map_congr_left fun i hi => by have := List.mem_range'_1.1 hi; exact c1 i (by omega) _ _ (by omega)
 rw [m1, m2] at hp'
 have h3 := sum_add (f := fun i : Nat => numP (fun j : Nat => p (rdL xs (i : Int)) (rdL xs (j : Int))) 0 i) (g := fun i : Nat => numP (fun j : Nat => p (rdL xs (i : Int)) (rdL xs (j : Int))) (i + 1) (xs.length - (i + 1))) (h := fun i : Nat => numP (fun j : Nat => p (rdL xs (i : Int)) (rdL xs (j : Int))) 0 xs.length) (List.range' 0 xs.length) fun i hi => by
  have hi := List.mem_range'_1.1 hi
  have h1 := numP_split (fun j : Nat => p (rdL xs (i : Int)) (rdL xs (j : Int))) (i + 1) 0 (xs.length - (i + 1))
  rw [show i + 1 + (xs.length - (i + 1)) = xs.length by omega, Nat.zero_add] at h1
  have h2 := numP_succ (fun j : Nat => p (rdL xs (i : Int)) (rdL xs (j : Int))) 0 i
  rw [h1, h2]
  omega
 have h4 := sum_le (f := fun i : Nat => numP (fun j : Nat => p (rdL xs (i : Int)) (rdL xs (j : Int))) 0 xs.length) (b := B) (xs := List.range' 0 xs.length) fun i hi => hB i (by have := List.mem_range'_1.1 hi; omega)
 rw [List.length_range'] at h4
 rw [e]
 omega
theorem numP_le {p : List Int → Bool} {xs L : List (List Int)} (hs : xs.Nodup) (h : ∀ b ∈ xs, p b = true → b ∈ L) : numP (fun j : Nat => p (rdL xs (j : Int))) 0 xs.length ≤ L.length := by
 have e : numP (fun j : Nat => p (rdL xs (j : Int))) 0 xs.length = (xs.filter p).length := by
  have go : ∀ (ys zs : List (List Int)), numP (fun j : Nat => p (rdL (zs ++ ys) (j : Int))) zs.length ys.length = (ys.filter p).length := by
   intro ys
   induction ys with
   | nil => intro zs; rfl
   | cons y ys ih =>
    intro zs
    have h1 := ih (zs ++ [y])
    rw [List.append_assoc, List.singleton_append, List.length_append, List.length_singleton] at h1
    have h2 := numP_split (fun j : Nat => p (rdL (zs ++ y :: ys) (j : Int))) 1 zs.length ys.length
    rw [List.length_cons, Nat.add_comm ys.length 1, h2, h1]
    have h3 : rdL (zs ++ y :: ys) (zs.length : Int) = y := by rw [rdL_n (by simp)]; simp
    have h4 : numP (fun j : Nat => p (rdL (zs ++ y :: ys) (j : Int))) zs.length 1 = if p y = true then 1 else 0 := by
     unfold numP
     rw [List.range'_one]
     by_cases hy : p y = true <;> simp [hy, h3]
    rw [h4, List.filter_cons]
    by_cases hy : p y = true
    ·rw [if_pos hy, if_pos hy, List.length_cons]; omega
    ·rw [if_neg hy, if_neg hy]; omega
  exact go xs []
 rw [e]
 exact nodup_leL (List.Pairwise.filter _ hs) fun x hx => h x (List.mem_filter.1 hx).1 (List.mem_filter.1 hx).2
def okSt (n : Nat) (st : List (Int × Int)) : Prop := (st.Pairwise fun a b => a.1 < b.1 ∨ (a.1 = b.1 ∧ a.2 < b.2)) ∧ ∀ e ∈ st, 0 ≤ e.1 ∧ e.1 < e.2 ∧ e.2 < (n : Int)
noncomputable def nbA (st : List (Int × Int)) (v : Int) : List Int := (st.filter fun e => decide (e.2 = v)).map Prod.fst
noncomputable def nbB (st : List (Int × Int)) (v : Int) : List Int := (st.filter fun e => decide (e.1 = v)).map Prod.snd
noncomputable def nbS (st : List (Int × Int)) (v : Int) : List Int := nbA st v ++ nbB st v
noncomputable def nbT (st : List (Int × Int)) (v : Int) : List Int := st.flatMap fun e => (if e.1 = v then [e.2] else []) ++ (if e.2 = v then [e.1] else [])
noncomputable def nbL (n : Nat) (st : List (Int × Int)) : List (List Int) := (List.range n).map fun i : Nat => nbS st (i : Int)
theorem okSt_cons {n : Nat} {e : Int × Int} {st : List (Int × Int)} (h : okSt n (e :: st)) : okSt n st := ⟨(List.pairwise_cons.1 h.1).2, fun e' he' => h.2 e' (List.mem_cons_of_mem _ he')⟩
theorem nbT_eq {n : Nat} : ∀ {st : List (Int × Int)} {v : Int}, okSt n st → nbT st v = nbS st v := by
 intro st v
 induction st with
 | nil => intro _; rfl
 | cons e st ih =>
  intro h
  have ih := ih (okSt_cons h)
  have h1 := h.2 e (List.mem_cons_self ..)
  have h2 := (List.pairwise_cons.1 h.1).1
  unfold nbT at ih ⊢
  rw [List.flatMap_cons, ih]
  unfold nbS nbA nbB
  by_cases he : e.1 = v
  ·have hne : ¬ e.2 = v := by omega
   have hnil : (st.filter fun e => decide (e.2 = v)) = [] := List.filter_eq_nil_iff.2 fun b hb => by
    have hb1 := h2 b hb
    have hb2 := h.2 b (List.mem_cons_of_mem _ hb)
    simp only [decide_eq_true_eq]
    omega
   rw [if_pos he, if_neg hne, List.filter_cons_of_neg (by simp [hne]), List.filter_cons_of_pos (by simp [he]), hnil]
   rfl
  ·by_cases he2 : e.2 = v
   ·rw [if_neg he, if_pos he2, List.filter_cons_of_pos (by simp [he2]), List.filter_cons_of_neg (by simp [he])]
    rfl
   ·rw [if_neg he, if_neg he2, List.filter_cons_of_neg (by simp [he2]), List.filter_cons_of_neg (by simp [he])]
    rfl
theorem nbS_strict {n : Nat} {st : List (Int × Int)} {v : Int} (h : okSt n st) : (nbS st v).Pairwise (· < ·) := by
 unfold nbS nbA nbB
 refine List.pairwise_append.2 ⟨?_, ?_, ?_⟩
 ·refine List.pairwise_map.2 ((h.1.filter _).imp_of_mem fun {a b} ha hb hab => ?_)
  have e1 := of_decide_eq_true (List.mem_filter.1 ha).2
  have e2 := of_decide_eq_true (List.mem_filter.1 hb).2
  omega
 ·refine List.pairwise_map.2 ((h.1.filter _).imp_of_mem fun {a b} ha hb hab => ?_)
  have e1 := of_decide_eq_true (List.mem_filter.1 ha).2
  have e2 := of_decide_eq_true (List.mem_filter.1 hb).2
  omega
 ·intro a ha b hb
  obtain ⟨a', ha1, rfl⟩ := List.mem_map.1 ha
  obtain ⟨b', hb1, rfl⟩ := List.mem_map.1 hb
  have e1 := of_decide_eq_true (List.mem_filter.1 ha1).2
  have e2 := of_decide_eq_true (List.mem_filter.1 hb1).2
  have l1 := h.2 a' (List.mem_filter.1 ha1).1
  have l2 := h.2 b' (List.mem_filter.1 hb1).1
  omega
theorem nbS_in {n : Nat} {st : List (Int × Int)} {v : Int} (h : okSt n st) : ∀ z ∈ nbS st v, InN n z := by
 intro z hz
 unfold nbS nbA nbB at hz
 rcases List.mem_append.1 hz with hz | hz
 ·obtain ⟨a, ha, rfl⟩ := List.mem_map.1 hz
  have := h.2 a (List.mem_filter.1 ha).1
  exact ⟨by omega, by omega⟩
 ·obtain ⟨a, ha, rfl⟩ := List.mem_map.1 hz
  have := h.2 a (List.mem_filter.1 ha).1
  exact ⟨by omega, by omega⟩
theorem nbS_len {n : Nat} {st : List (Int × Int)} {v : Int} (h : okSt n st) : (nbS st v).length ≤ n :=
 inM_len ⟨strict_nodup (nbS_strict h), nbS_in h⟩
theorem mem_nbS {n : Nat} {st : List (Int × Int)} {v w : Int} (h : okSt n st) : w ∈ nbS st v ↔ (w, v) ∈ st ∨ (v, w) ∈ st := by
 unfold nbS nbA nbB
 rw [List.mem_append, List.mem_map, List.mem_map]
 constructor
 ·rintro (⟨a, ha, rfl⟩ | ⟨a, ha, rfl⟩)
  ·have e1 := of_decide_eq_true (List.mem_filter.1 ha).2
   refine .inl ?_
   rw [← e1]
   exact (List.mem_filter.1 ha).1
  ·have e1 := of_decide_eq_true (List.mem_filter.1 ha).2
   refine .inr ?_
   rw [← e1]
   exact (List.mem_filter.1 ha).1
 ·rintro (ha | ha)
  ·exact .inl ⟨_, List.mem_filter.2 ⟨ha, by simp⟩, rfl⟩
  ·exact .inr ⟨_, List.mem_filter.2 ⟨ha, by simp⟩, rfl⟩
theorem nbL_rd {n : Nat} {st : List (Int × Int)} {v : Int} (hv : InN n v) : rdL (nbL n st) v = nbS st v := by
 obtain ⟨i, hi, rfl⟩ := nat_of hv
 rw [rdL_n (by simp [nbL]; exact hi)]
 simp [nbL]
theorem nbL_ok {n : Nat} {st : List (Int × Int)} (hn : n ≤ 1048576) (h : okSt n st) : okLists (nbL n st) n := by
 refine ⟨by simp [nbL], fun l hl => ?_⟩
 obtain ⟨i, _, rfl⟩ := List.mem_map.1 hl
 exact ⟨Nat.le_trans (nbS_len h) hn, nbS_in h⟩
theorem stepsL_ok {p : List Int → List Int → Bool} {xs : List (List Int)} : okSt xs.length (stepsL p xs) := by
 have hin : ∀ i, i < xs.length → ∀ e ∈ rowSteps p xs i, e.1 = (i : Int) ∧ e.1 < e.2 ∧ e.2 < (xs.length : Int) := by
  intro i hi e he
  unfold rowSteps at he
  obtain ⟨j, hj, rfl⟩ := List.mem_map.1 he
  have := List.mem_range'_1.1 (List.mem_filter.1 hj).1
  refine ⟨rfl, ?_, ?_⟩
  ·show (i : Int) < (j : Int)
   omega
  ·show (j : Int) < _
   omega
 constructor
 ·unfold stepsL
  rw [List.pairwise_flatMap]
  refine ⟨fun i hi => ?_, ?_⟩
  ·unfold rowSteps
   refine List.pairwise_map.2 (List.Pairwise.filter _ ?_)
   refine (List.pairwise_lt_range' (step := 1) (by omega)).imp fun {a b} hab => .inr ⟨rfl, ?_⟩
   show (a : Int) < (b : Int)
   omega
  ·refine List.Pairwise.imp_of_mem ?_ (List.pairwise_lt_range' (step := 1) (by omega))
   intro a b ha hb hab x hx y hy
   have ha := List.mem_range'_1.1 ha
   have hb := List.mem_range'_1.1 hb
   have h1 := hin a (by omega) x hx
   have h2 := hin b (by omega) y hy
   omega
 ·intro e he
  unfold stepsL at he
  obtain ⟨i, hi, he⟩ := List.mem_flatMap.1 he
  have hi := List.mem_range'_1.1 hi
  have := hin i (by omega) e he
  omega
theorem set_map {n v : Nat} {f g : Nat → List Int} {u : List Int} (h : g v = u) (ho : ∀ i, i < n → i ≠ v → g i = f i) : tSet ((List.range n).map f) (v : Int) u = (List.range n).map g := by
 rw [tSet_n]
 refine List.ext_getElem (by simp) fun i h1 h2 => ?_
 rw [List.length_set, List.length_map, List.length_range] at h1
 by_cases hi : i = v
 ·subst hi
  rw [List.getElem_set_self]
  simp [h]
 ·rw [List.getElem_set_ne (fun e => hi e.symm)]
  simp [ho i h1 hi]
theorem rdL_map {n : Nat} {f : Nat → List Int} {i : Nat} (hi : i < n) : rdL ((List.range n).map f) (i : Int) = f i := by
 rw [rdL_n (by simp; exact hi)]
 simp
theorem inb_map {n : Nat} {f : Nat → List Int} {i : Nat} (hi : i < n) : inb ((List.range n).map f) (i : Int) = true := inb_n (by simp; exact hi)
theorem rep_map (n : Nat) : List.replicate n ([] : List Int) = (List.range n).map fun _ => [] := by
 refine List.ext_getElem (by simp) fun i h1 h2 => ?_
 simp
theorem rdP_mid (p q : List (Int × Int)) (e : Int × Int) : rdP (p ++ e :: q) ((p.length : Nat) : Int) = e := by simp [rdP]
theorem nbA_snoc (p : List (Int × Int)) (e : Int × Int) (v : Int) : nbA (p ++ [e]) v = nbA p v ++ if e.2 = v then [e.1] else [] := by
 unfold nbA
 by_cases h : e.2 = v <;> simp [h]
theorem nbB_snoc (p : List (Int × Int)) (e : Int × Int) (v : Int) : nbB (p ++ [e]) v = nbB p v ++ if e.1 = v then [e.2] else [] := by
 unfold nbB
 by_cases h : e.1 = v <;> simp [h]
theorem nbT_snoc (p : List (Int × Int)) (e : Int × Int) (v : Int) : nbT (p ++ [e]) v = nbT p v ++ ((if e.1 = v then [e.2] else []) ++ (if e.2 = v then [e.1] else [])) := by
 unfold nbT
 rw [List.flatMap_append]
 simp
theorem nbA_len (p : List (Int × Int)) (v : Int) : (nbA p v).length ≤ p.length := by unfold nbA; rw [List.length_map]; exact List.length_filter_le ..
theorem nbB_len (p : List (Int × Int)) (v : Int) : (nbB p v).length ≤ p.length := by unfold nbB; rw [List.length_map]; exact List.length_filter_le ..
theorem nbT_len (p : List (Int × Int)) (v : Int) : (nbT p v).length ≤ 2 * p.length := by
 induction p with
 | nil => simp [nbT]
 | cons e p ih =>
  unfold nbT at ih ⊢
  rw [List.flatMap_cons, List.length_append, List.length_append, List.length_cons]
  have h1 : (if e.1 = v then [e.2] else []).length ≤ 1 := by by_cases h : e.1 = v <;> simp [h]
  have h2 : (if e.2 = v then [e.1] else []).length ≤ 1 := by by_cases h : e.2 = v <;> simp [h]
  omega
theorem l2Lists_eq {N : Nat} {xs : List (List Int)} {st : List (Int × Int)} (hx : xs.length ≤ 1048576) (hs : st.length ≤ 1048576) (h : okSt xs.length st) (hN : 1048577 ≤ N) : Zq109 N (xs, st) = some ((nbL xs.length st, ()), ()) := by
 have hin : ∀ e ∈ st, ∃ a b : Nat, e = ((a : Int), (b : Int)) ∧ a < xs.length ∧ b < xs.length := fun e he => by
  have := h.2 e he
  exact ⟨e.1.toNat, e.2.toNat, Prod.ext (by simp only []; omega) (by simp only []; omega), by omega, by omega⟩
 have goA : ∀ (q p : List (Int × Int)) (K : Nat) (k0 : List (List Int) → List (Int × Int) → List (List Int) → Option ((List (List Int) × Unit) × Unit)), q.length < K → p ++ q = st →
   Zq109_l0 N k0 K (p.length : Int) xs st ((List.range xs.length).map fun i : Nat => nbA p (i : Int)) = k0 xs st ((List.range xs.length).map fun i : Nat => nbA st (i : Int)) := by
  intro q
  induction q with
  | nil =>
   intro p K k0 hK hp
   obtain ⟨k, rfl⟩ := succ_of hK
   rw [List.append_nil] at hp
   subst hp
   simp only [Zq109_l0, ilt_lenf (Nat.lt_irrefl _), br_f]
  | cons e q ih =>
   intro p K k0 hK hp
   obtain ⟨k, rfl⟩ := succ_of hK
   have hpl : p.length < st.length := by rw [← hp]; simp
   obtain ⟨a, b, rfl, ha, hb⟩ := hin e (by rw [← hp]; simp)
   have hr : rdP st (p.length : Int) = ((a : Int), (b : Int)) := by rw [← hp, rdP_mid]
   have hl := nbA_len p (b : Int)
   simp only [Zq109_l0, ilt_len hpl, br_t, inb_n hpl, chk_t, hr, inb_map hb, rdL_map hb]
   rw [room_ok (by simp; omega), chk_t, ieq_t rfl, chk_t, wrap_succ (by omega), tApp_d, set_map (g := fun i : Nat => nbA (p ++ [((a : Int), (b : Int))]) (i : Int)) (by rw [nbA_snoc]; simp) (fun i _ hi => by rw [nbA_snoc, if_neg (by simp only []; omega), List.append_nil])]
   have := ih (p ++ [((a : Int), (b : Int))]) k k0 (by simp at hK; omega) (by rw [List.append_assoc]; exact hp)
   rw [List.length_append, List.length_singleton] at this
   exact this
 have goB : ∀ (q p : List (Int × Int)) (K : Nat) (k0 : List (List Int) → Option ((List (List Int) × Unit) × Unit)), q.length < K → p ++ q = st →
   Zq109_l1 N k0 K (p.length : Int) xs st ((List.range xs.length).map fun i : Nat => nbA st (i : Int) ++ nbB p (i : Int)) = k0 ((List.range xs.length).map fun i : Nat => nbA st (i : Int) ++ nbB st (i : Int)) := by
  intro q
  induction q with
  | nil =>
   intro p K k0 hK hp
   obtain ⟨k, rfl⟩ := succ_of hK
   rw [List.append_nil] at hp
   subst hp
   simp only [Zq109_l1, ilt_lenf (Nat.lt_irrefl _), br_f]
  | cons e q ih =>
   intro p K k0 hK hp
   obtain ⟨k, rfl⟩ := succ_of hK
   have hpl : p.length < st.length := by rw [← hp]; simp
   obtain ⟨a, b, rfl, ha, hb⟩ := hin e (by rw [← hp]; simp)
   have hr : rdP st (p.length : Int) = ((a : Int), (b : Int)) := by rw [← hp, rdP_mid]
   have hl := nbB_len p (a : Int)
   have hl2 := nbA_len st (a : Int)
   simp only [Zq109_l1, ilt_len hpl, br_t, inb_n hpl, chk_t, hr, inb_map ha, rdL_map ha]
   rw [room_ok (by simp; omega), chk_t, ieq_t rfl, chk_t, wrap_succ (by omega), tApp_d, set_map (g := fun i : Nat => nbA st (i : Int) ++ nbB (p ++ [((a : Int), (b : Int))]) (i : Int)) (by rw [nbB_snoc]; simp) (fun i _ hi => by rw [nbB_snoc, if_neg (by simp only []; omega), List.append_nil])]
   have := ih (p ++ [((a : Int), (b : Int))]) k k0 (by simp at hK; omega) (by rw [List.append_assoc]; exact hp)
   rw [List.length_append, List.length_singleton] at this
   exact this
 unfold Zq109
 simp only []
 rw [tLen_n, ile_t (by omega), ile_t (Int.le_refl _), fits_ok (by omega)]
 simp only [Bool.and_self, chk_t]
 rw [tRep_n, rep_map]
 have g1 := goA st [] N (fun o o1 o2 => Zq109_l1 N (fun o3 => some ((o3, ()), ())) N 0 o o1 o2) (by omega) rfl
 have e1 : ((List.range xs.length).map fun i : Nat => nbA [] (i : Int)) = (List.range xs.length).map fun _ => [] := rfl
 rw [e1] at g1
 simp only [List.length_nil, Int.natCast_zero] at g1
 rw [g1]
 have g2 := goB st [] N (fun o3 => some ((o3, ()), ())) (by omega) rfl
 have e2 : ((List.range xs.length).map fun i : Nat => nbA st (i : Int) ++ nbB [] (i : Int)) = (List.range xs.length).map fun i : Nat => nbA st (i : Int) := List.map_congr_left fun i _ => by show nbA st (i : Int) ++ [] = _; rw [List.append_nil]
 rw [e2] at g2
 simp only [List.length_nil, Int.natCast_zero] at g2
 rw [g2]
 rfl
theorem sroads_eq {N : Nat} {xs : List (List Int)} {st : List (Int × Int)} (hx : xs.length < 1024) (hs : st.length ≤ 1048576) (h : okSt xs.length st) (hN : 1048577 ≤ N) : Zq27 N (xs, st) = some ((nbL xs.length st, ()), ()) := by
 have hin : ∀ e ∈ st, ∃ a b : Nat, e = ((a : Int), (b : Int)) ∧ a < b ∧ b < xs.length := fun e he => by
  have := h.2 e he
  exact ⟨e.1.toNat, e.2.toNat, Prod.ext (by simp only []; omega) (by simp only []; omega), by omega, by omega⟩
 have goA : ∀ (q p : List (Int × Int)) (K : Nat) (k0 : List (List Int) → Option ((List (List Int) × Unit) × Unit)), q.length < K → p ++ q = st →
   Zq27_l0 N k0 K st (st.length : Int) (p.length : Int) ((List.range xs.length).map fun i : Nat => nbT p (i : Int)) = k0 ((List.range xs.length).map fun i : Nat => nbT st (i : Int)) := by
  intro q
  induction q with
  | nil =>
   intro p K k0 hK hp
   obtain ⟨k, rfl⟩ := succ_of hK
   rw [List.append_nil] at hp
   subst hp
   simp only [Zq27_l0, ilt_nf (Nat.lt_irrefl _), br_f]
  | cons e q ih =>
   intro p K k0 hK hp
   obtain ⟨k, rfl⟩ := succ_of hK
   have hpl : p.length < st.length := by rw [← hp]; simp
   obtain ⟨a, b, rfl, hab, hb⟩ := hin e (by rw [← hp]; simp)
   have hr : rdP st (p.length : Int) = ((a : Int), (b : Int)) := by rw [← hp, rdP_mid]
   have hl := nbT_len p (b : Int)
   have hl2 := nbT_len p (a : Int)
   have ha : a < xs.length := by omega
   have hs1 := set_map (n := xs.length) (v := a) (f := fun i : Nat => nbT p (i : Int)) (g := fun i : Nat => nbT p (i : Int) ++ if a = i then [(b : Int)] else []) (u := nbT p (a : Int) ++ [(b : Int)]) (by simp) (fun i _ hi => by rw [if_neg (fun e => hi e.symm), List.append_nil])
   have hs2 := set_map (n := xs.length) (v := b) (f := fun i : Nat => nbT p (i : Int) ++ if a = i then [(b : Int)] else []) (g := fun i : Nat => nbT (p ++ [((a : Int), (b : Int))]) (i : Int)) (u := nbT p (b : Int) ++ [(a : Int)]) (by rw [nbT_snoc, if_neg (show ¬ (a : Int) = (b : Int) by omega), if_pos rfl]; rfl) (fun i _ hi => by
    rw [nbT_snoc, if_neg (show ¬ (b : Int) = (i : Int) by omega)]
    by_cases hai : a = i
    ·rw [if_pos (show (a : Int) = (i : Int) by omega), if_pos hai]; rfl
    ·rw [if_neg (show ¬ (a : Int) = (i : Int) by omega), if_neg hai]; rfl)
   have hrb : rdL ((List.range xs.length).map fun i : Nat => nbT p (i : Int) ++ if a = i then [(b : Int)] else []) (b : Int) = nbT p (b : Int) := by
    rw [rdL_map hb, if_neg (show ¬ a = b by omega), List.append_nil]
   simp only [Zq27_l0, ilt_n hpl, br_t, inb_n hpl, chk_t, hr, inb_map ha, rdL_map ha]
   rw [room_ok (by simp; omega), chk_t, ieq_t rfl, chk_t, wrap_succ (by omega), tApp_d, hs1, inb_map hb, chk_t, hrb, room_ok (by simp; omega), chk_t, ieq_t rfl, chk_t, chk_t, tApp_d, hs2]
   have := ih (p ++ [((a : Int), (b : Int))]) k k0 (by simp at hK; omega) (by rw [List.append_assoc]; exact hp)
   rw [List.length_append, List.length_singleton] at this
   exact this
 have e0 : ((List.range xs.length).map fun i : Nat => nbT st (i : Int)) = nbL xs.length st := List.map_congr_left fun i _ => nbT_eq h
 have hlen : (nbL xs.length st).length = xs.length := by simp [nbL]
 have goB : ∀ (d n K : Nat), n + d = xs.length → d < K → Zq27_l1 N (fun o1 => some ((o1, ()), ())) K (xs.length : Int) n (nbL xs.length st) = some ((nbL xs.length st, ()), ()) := by
  intro d
  induction d with
  | zero =>
   intro n K hd hK
   obtain ⟨k, rfl⟩ := succ_of hK
   simp only [Zq27_l1, ilt_nf (show ¬ n < xs.length by omega), br_f]
  | succ d ih =>
   intro n K hd hK
   obtain ⟨k, rfl⟩ := succ_of hK
   have hn : n < xs.length := by omega
   have hs := nbS_strict (v := (n : Int)) h
   have hl := nbS_len (v := (n : Int)) h
   simp only [Zq27_l1, ilt_n hn, br_t, inb_n (show n < (nbL xs.length st).length by omega), chk_t]
   rw [nbL_rd (in_nat hn), Sort_asc (hs.imp fun hab => by omega) (by omega) hN, bind_some', wrap_succ (by omega), tSet_n]
   have : (nbL xs.length st).set n (nbS st (n : Int)) = nbL xs.length st := by
    refine List.ext_getElem (by simp) fun i h1 h2 => ?_
    by_cases hi : i = n
    ·subst hi
     rw [List.getElem_set_self]
     simp [nbL]
    ·rw [List.getElem_set_ne (fun e => hi e.symm)]
   simp only [this]
   exact ih (n + 1) k (by omega) (by omega)
 unfold Zq27
 simp only []
 rw [tLen_n, tLen_n, ile_t (by omega), ile_t (Int.le_refl _), fits_ok (by omega)]
 simp only [Bool.and_self, chk_t]
 rw [tRep_n, rep_map]
 have g1 := goA st [] N (fun o => Zq27_l1 N (fun o1 => some ((o1, ()), ())) N (tLen o) 0 o) (by omega) rfl
 have e1 : ((List.range xs.length).map fun i : Nat => nbT [] (i : Int)) = (List.range xs.length).map fun _ => [] := rfl
 rw [e1] at g1
 simp only [List.length_nil, Int.natCast_zero] at g1
 rw [g1, e0, tLen_n, hlen]
 exact goB xs.length 0 N (by omega) (by omega)
end Go.Proofs.YtahehkidnfmfnaaGreat
