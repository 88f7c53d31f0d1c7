/- Statements on data alone. -/
import Derived.Test.YtaodifjegdpifaaGreatPvPure
import Derived.Test.YtaodifjegdpifaaGreatHornGb
set_option linter.all false
set_option linter.all false
namespace Go.Proofs.YtaodifjegdpifaaGreat
open Go Go.PV Classical
theorem stepsL_ok {p : List Int → List Int → Bool} {xs : List (List Int)} : okSt xs.length (stepsL p xs) := by
  have hin : ∀ i, i < xs.length → ∀ e ∈ rowSteps p xs i, e.1 = (i : Int) ∧ e.1 < e.2 ∧ e.2 < (xs.length : Int) := by
    intro i hi e he
    unfold rowSteps at he
    obtain ⟨j, hj, rfl⟩ := List.mem_map.1 he
    have := List.mem_range'_1.1 (List.mem_filter.1 hj).1
    refine ⟨rfl, ?_, ?_⟩
    · show (i : Int) < (j : Int)
      omega
    · show (j : Int) < _
      omega
  constructor
  · unfold stepsL
    rw [List.pairwise_flatMap]
    refine ⟨fun i hi => ?_, ?_⟩
    · unfold rowSteps
      refine List.pairwise_map.2 (List.Pairwise.filter _ ?_)
      refine (List.pairwise_lt_range' (step := 1) (by omega)).imp fun {a b} hab => .inr ⟨rfl, ?_⟩
      show (a : Int) < (b : Int)
      omega
    · refine List.Pairwise.imp_of_mem ?_ (List.pairwise_lt_range' (step := 1) (by omega))
      intro a b ha hb hab x hx y hy
      have ha := List.mem_range'_1.1 ha
      have hb := List.mem_range'_1.1 hb
      have h1 := hin a (by omega) x hx
      have h2 := hin b (by omega) y hy
      omega
  · intro e he
    unfold stepsL at he
    obtain ⟨i, hi, he⟩ := List.mem_flatMap.1 he
    have hi := List.mem_range'_1.1 hi
    have := hin i (by omega) e he
    omega
theorem set_map {n v : Nat} {f g : Nat → List Int} {u : List Int} (h : g v = u) (ho : ∀ i, i < n → i ≠ v → g i = f i) : tSet ((List.range n).map f) (v : Int) u = (List.range n).map g := by
  rw [tSet_n]
  refine List.ext_getElem (by simp) fun i h1 h2 => ?_
  rw [List.length_set, List.length_map, List.length_range] at h1
  by_cases hi : i = v
  · subst hi
    rw [List.getElem_set_self]
    simp [h]
  · rw [List.getElem_set_ne (fun e => hi e.symm)]
    simp [ho i h1 hi]
theorem rdL_map {n : Nat} {f : Nat → List Int} {i : Nat} (hi : i < n) : rdL ((List.range n).map f) (i : Int) = f i := by
  rw [rdL_n (by simp; exact hi)]
  simp
theorem inb_map {n : Nat} {f : Nat → List Int} {i : Nat} (hi : i < n) : inb ((List.range n).map f) (i : Int) = true := inb_n (by simp; exact hi)
theorem rep_map (n : Nat) : List.replicate n ([] : List Int) = (List.range n).map fun _ => [] := by
  refine List.ext_getElem (by simp) fun i h1 h2 => ?_
  simp
theorem rdP_mid (p q : List (Int × Int)) (e : Int × Int) : rdP (p ++ e :: q) ((p.length : Nat) : Int) = e := by simp [rdP]
theorem nbA_snoc (p : List (Int × Int)) (e : Int × Int) (v : Int) : nbA (p ++ [e]) v = nbA p v ++ if e.2 = v then [e.1] else [] := by
  unfold nbA
  by_cases h : e.2 = v <;> simp [h]
theorem nbB_snoc (p : List (Int × Int)) (e : Int × Int) (v : Int) : nbB (p ++ [e]) v = nbB p v ++ if e.1 = v then [e.2] else [] := by
  unfold nbB
  by_cases h : e.1 = v <;> simp [h]
theorem nbT_snoc (p : List (Int × Int)) (e : Int × Int) (v : Int) : nbT (p ++ [e]) v = nbT p v ++ ((if e.1 = v then [e.2] else []) ++ (if e.2 = v then [e.1] else [])) := by
  unfold nbT
  rw [List.flatMap_append]
  simp
theorem nbA_len (p : List (Int × Int)) (v : Int) : (nbA p v).length ≤ p.length := by unfold nbA; rw [List.length_map]; exact List.length_filter_le ..
theorem nbB_len (p : List (Int × Int)) (v : Int) : (nbB p v).length ≤ p.length := by unfold nbB; rw [List.length_map]; exact List.length_filter_le ..
theorem nbT_len (p : List (Int × Int)) (v : Int) : (nbT p v).length ≤ 2 * p.length := by
  induction p with
  | nil => simp [nbT]
  | cons e p ih =>
    unfold nbT at ih ⊢
    rw [List.flatMap_cons, List.length_append, List.length_append, List.length_cons]
    have h1 : (if e.1 = v then [e.2] else []).length ≤ 1 := by by_cases h : e.1 = v <;> simp [h]
    have h2 : (if e.2 = v then [e.1] else []).length ≤ 1 := by by_cases h : e.2 = v <;> simp [h]
    omega
theorem l2Lists_eq {N : Nat} {xs : List (List Int)} {st : List (Int × Int)} (hx : xs.length ≤ 1048576) (hs : st.length ≤ 1048576) (h : okSt xs.length st) (hN : 1048577 ≤ N) : spec_l2Lists N (xs, st) = some ((nbL xs.length st, ()), ()) := by
  have hin : ∀ e ∈ st, ∃ a b : Nat, e = ((a : Int), (b : Int)) ∧ a < xs.length ∧ b < xs.length := fun e he => by
    have := h.2 e he
    exact ⟨e.1.toNat, e.2.toNat, Prod.ext (by simp only []; omega) (by simp only []; omega), by omega, by omega⟩
  have goA : ∀ (q p : List (Int × Int)) (K : Nat) (k0 : List (List Int) → List (Int × Int) → List (List Int) → Option ((List (List Int) × Unit) × Unit)), q.length < K → p ++ q = st →
      spec_l2Lists_l0 N k0 K (p.length : Int) xs st ((List.range xs.length).map fun i : Nat => nbA p (i : Int)) = k0 xs st ((List.range xs.length).map fun i : Nat => nbA st (i : Int)) := by
    intro q
    induction q with
    | nil =>
      intro p K k0 hK hp
      obtain ⟨k, rfl⟩ := succ_of hK
      rw [List.append_nil] at hp
      subst hp
      simp only [spec_l2Lists_l0, ilt_lenf (Nat.lt_irrefl _), br_f]
    | cons e q ih =>
      intro p K k0 hK hp
      obtain ⟨k, rfl⟩ := succ_of hK
      have hpl : p.length < st.length := by rw [← hp]; simp
      obtain ⟨a, b, rfl, ha, hb⟩ := hin e (by rw [← hp]; simp)
      have hr : rdP st (p.length : Int) = ((a : Int), (b : Int)) := by rw [← hp, rdP_mid]
      have hl := nbA_len p (b : Int)
      simp only [spec_l2Lists_l0, ilt_len hpl, br_t, inb_n hpl, chk_t, hr, inb_map hb, rdL_map hb]
      rw [room_ok (by simp; omega), chk_t, ieq_t rfl, chk_t, wrap_succ (by omega), tApp_d, set_map (g := fun i : Nat => nbA (p ++ [((a : Int), (b : Int))]) (i : Int)) (by rw [nbA_snoc]; simp) (fun i _ hi => by rw [nbA_snoc, if_neg (by simp only []; omega), List.append_nil])]
      have := ih (p ++ [((a : Int), (b : Int))]) k k0 (by simp at hK; omega) (by rw [List.append_assoc]; exact hp)
      rw [List.length_append, List.length_singleton] at this
      exact this
  have goB : ∀ (q p : List (Int × Int)) (K : Nat) (k0 : List (List Int) → Option ((List (List Int) × Unit) × Unit)), q.length < K → p ++ q = st →
      spec_l2Lists_l1 N k0 K (p.length : Int) xs st ((List.range xs.length).map fun i : Nat => nbA st (i : Int) ++ nbB p (i : Int)) = k0 ((List.range xs.length).map fun i : Nat => nbA st (i : Int) ++ nbB st (i : Int)) := by
    intro q
    induction q with
    | nil =>
      intro p K k0 hK hp
      obtain ⟨k, rfl⟩ := succ_of hK
      rw [List.append_nil] at hp
      subst hp
      simp only [spec_l2Lists_l1, ilt_lenf (Nat.lt_irrefl _), br_f]
    | cons e q ih =>
      intro p K k0 hK hp
      obtain ⟨k, rfl⟩ := succ_of hK
      have hpl : p.length < st.length := by rw [← hp]; simp
      obtain ⟨a, b, rfl, ha, hb⟩ := hin e (by rw [← hp]; simp)
      have hr : rdP st (p.length : Int) = ((a : Int), (b : Int)) := by rw [← hp, rdP_mid]
      have hl := nbB_len p (a : Int)
      have hl2 := nbA_len st (a : Int)
      simp only [spec_l2Lists_l1, ilt_len hpl, br_t, inb_n hpl, chk_t, hr, inb_map ha, rdL_map ha]
      rw [room_ok (by simp; omega), chk_t, ieq_t rfl, chk_t, wrap_succ (by omega), tApp_d, set_map (g := fun i : Nat => nbA st (i : Int) ++ nbB (p ++ [((a : Int), (b : Int))]) (i : Int)) (by rw [nbB_snoc]; simp) (fun i _ hi => by rw [nbB_snoc, if_neg (by simp only []; omega), List.append_nil])]
      have := ih (p ++ [((a : Int), (b : Int))]) k k0 (by simp at hK; omega) (by rw [List.append_assoc]; exact hp)
      rw [List.length_append, List.length_singleton] at this
      exact this
  unfold spec_l2Lists
  simp only []
  rw [tLen_n, ile_t (by omega), ile_t (Int.le_refl _), fits_ok (by omega)]
  simp only [Bool.and_self, chk_t]
  rw [tRep_n, rep_map]
  have g1 := goA st [] N (fun o o1 o2 => spec_l2Lists_l1 N (fun o3 => some ((o3, ()), ())) N 0 o o1 o2) (by omega) rfl
  have e1 : ((List.range xs.length).map fun i : Nat => nbA [] (i : Int)) = (List.range xs.length).map fun _ => [] := rfl
  rw [e1] at g1
  simp only [List.length_nil, Int.natCast_zero] at g1
  rw [g1]
  have g2 := goB st [] N (fun o3 => some ((o3, ()), ())) (by omega) rfl
  have e2 : ((List.range xs.length).map fun i : Nat => nbA st (i : Int) ++ nbB [] (i : Int)) = (List.range xs.length).map fun i : Nat => nbA st (i : Int) := List.map_congr_left fun i _ => by show nbA st (i : Int) ++ [] = _; rw [List.append_nil]
  rw [e2] at g2
  simp only [List.length_nil, Int.natCast_zero] at g2
  rw [g2]
  rfl
theorem sroads_eq {N : Nat} {xs : List (List Int)} {st : List (Int × Int)} (hx : xs.length < 1024) (hs : st.length ≤ 1048576) (h : okSt xs.length st) (hN : 1048577 ≤ N) : impl_Space_roads N (xs, st) = some ((nbL xs.length st, ()), ()) := by
  have hin : ∀ e ∈ st, ∃ a b : Nat, e = ((a : Int), (b : Int)) ∧ a < b ∧ b < xs.length := fun e he => by
    have := h.2 e he
    exact ⟨e.1.toNat, e.2.toNat, Prod.ext (by simp only []; omega) (by simp only []; omega), by omega, by omega⟩
  have goA : ∀ (q p : List (Int × Int)) (K : Nat) (k0 : List (List Int) → Option ((List (List Int) × Unit) × Unit)), q.length < K → p ++ q = st →
      impl_Space_roads_l0 N k0 K st (st.length : Int) (p.length : Int) ((List.range xs.length).map fun i : Nat => nbT p (i : Int)) = k0 ((List.range xs.length).map fun i : Nat => nbT st (i : Int)) := by
    intro q
    induction q with
    | nil =>
      intro p K k0 hK hp
      obtain ⟨k, rfl⟩ := succ_of hK
      rw [List.append_nil] at hp
      subst hp
      simp only [impl_Space_roads_l0, ilt_nf (Nat.lt_irrefl _), br_f]
    | cons e q ih =>
      intro p K k0 hK hp
      obtain ⟨k, rfl⟩ := succ_of hK
      have hpl : p.length < st.length := by rw [← hp]; simp
      obtain ⟨a, b, rfl, hab, hb⟩ := hin e (by rw [← hp]; simp)
      have hr : rdP st (p.length : Int) = ((a : Int), (b : Int)) := by rw [← hp, rdP_mid]
      have hl := nbT_len p (b : Int)
      have hl2 := nbT_len p (a : Int)
      have ha : a < xs.length := by omega
      have hs1 := set_map (n := xs.length) (v := a) (f := fun i : Nat => nbT p (i : Int)) (g := fun i : Nat => nbT p (i : Int) ++ if a = i then [(b : Int)] else []) (u := nbT p (a : Int) ++ [(b : Int)]) (by simp) (fun i _ hi => by rw [if_neg (fun e => hi e.symm), List.append_nil])
      have hs2 := set_map (n := xs.length) (v := b) (f := fun i : Nat => nbT p (i : Int) ++ if a = i then [(b : Int)] else []) (g := fun i : Nat => nbT (p ++ [((a : Int), (b : Int))]) (i : Int)) (u := nbT p (b : Int) ++ [(a : Int)]) (by rw [nbT_snoc, if_neg (show ¬ (a : Int) = (b : Int) by omega), if_pos rfl]; rfl) (fun i _ hi => by
        rw [nbT_snoc, if_neg (show ¬ (b : Int) = (i : Int) by omega)]
        by_cases hai : a = i
        · rw [if_pos (show (a : Int) = (i : Int) by omega), if_pos hai]; rfl
        · rw [if_neg (show ¬ (a : Int) = (i : Int) by omega), if_neg hai]; rfl)
      have hrb : rdL ((List.range xs.length).map fun i : Nat => nbT p (i : Int) ++ if a = i then [(b : Int)] else []) (b : Int) = nbT p (b : Int) := by
        rw [rdL_map hb, if_neg (show ¬ a = b by omega), List.append_nil]
      simp only [impl_Space_roads_l0, ilt_n hpl, br_t, inb_n hpl, chk_t, hr, inb_map ha, rdL_map ha]
      rw [room_ok (by simp; omega), chk_t, ieq_t rfl, chk_t, wrap_succ (by omega), tApp_d, hs1, inb_map hb, chk_t, hrb, room_ok (by simp; omega), chk_t, ieq_t rfl, chk_t, chk_t, tApp_d, hs2]
      have := ih (p ++ [((a : Int), (b : Int))]) k k0 (by simp at hK; omega) (by rw [List.append_assoc]; exact hp)
      rw [List.length_append, List.length_singleton] at this
      exact this
  have e0 : ((List.range xs.length).map fun i : Nat => nbT st (i : Int)) = nbL xs.length st := List.map_congr_left fun i _ => nbT_eq h
  have hlen : (nbL xs.length st).length = xs.length := by simp [nbL]
  have goB : ∀ (d n K : Nat), n + d = xs.length → d < K → impl_Space_roads_l1 N (fun o1 => some ((o1, ()), ())) K (xs.length : Int) n (nbL xs.length st) = some ((nbL xs.length st, ()), ()) := by
    intro d
    induction d with
    | zero =>
      intro n K hd hK
      obtain ⟨k, rfl⟩ := succ_of hK
      simp only [impl_Space_roads_l1, ilt_nf (show ¬ n < xs.length by omega), br_f]
    | succ d ih =>
      intro n K hd hK
      obtain ⟨k, rfl⟩ := succ_of hK
      have hn : n < xs.length := by omega
      have hs := nbS_strict (v := (n : Int)) h
      have hl := nbS_len (v := (n : Int)) h
      simp only [impl_Space_roads_l1, ilt_n hn, br_t, inb_n (show n < (nbL xs.length st).length by omega), chk_t]
      rw [nbL_rd (in_nat hn), Sort_asc (hs.imp fun hab => by omega) (by omega) hN, bind_some', wrap_succ (by omega), tSet_n]
      have : (nbL xs.length st).set n (nbS st (n : Int)) = nbL xs.length st := by
        refine List.ext_getElem (by simp) fun i h1 h2 => ?_
        by_cases hi : i = n
        · subst hi
          rw [List.getElem_set_self]
          simp [nbL]
        · rw [List.getElem_set_ne (fun e => hi e.symm)]
      simp only [this]
      exact ih (n + 1) k (by omega) (by omega)
  unfold impl_Space_roads
  simp only []
  rw [tLen_n, tLen_n, ile_t (by omega), ile_t (Int.le_refl _), fits_ok (by omega)]
  simp only [Bool.and_self, chk_t]
  rw [tRep_n, rep_map]
  have g1 := goA st [] N (fun o => impl_Space_roads_l1 N (fun o1 => some ((o1, ()), ())) N (tLen o) 0 o) (by omega) rfl
  have e1 : ((List.range xs.length).map fun i : Nat => nbT [] (i : Int)) = (List.range xs.length).map fun _ => [] := rfl
  rw [e1] at g1
  simp only [List.length_nil, Int.natCast_zero] at g1
  rw [g1, e0, tLen_n, hlen]
  exact goB xs.length 0 N (by omega) (by omega)
theorem mid_eq {i j : Nat} (h : i + j < 4611686018427387904) : IntKind.i64.wrap (shrI .u64 (IntKind.u64.wrap (IntKind.i64.wrap ((i : Int) + (j : Int)))) 1) = (((i + j) / 2 : Nat) : Int) := by
  have e : (i : Int) + (j : Int) = ((i + j : Nat) : Int) := by omega
  rw [e, wrap_ok (n := ((i + j : Nat) : Int)) (by omega) (by omega), wrap64 (by omega)]
  have e2 : shrI .u64 ((i + j : Nat) : Int) 1 = (((i + j) / 2 : Nat) : Int) := by
    show ((i + j : Nat) : Int).fdiv (2 ^ (min 1 64)) = _
    rw [Int.fdiv_eq_ediv_of_nonneg _ (by decide)]
    show ((i + j : Nat) : Int) / 2 = _
    omega
  rw [e2, wrap_ok (by omega) (by omega)]
theorem bin_eq {R : Type} {N : Nat} {xs : List (List Int)} {a : List Int} {t : Nat} {len : Int} {k0 : List (List Int) → List Int → (List Int → List Int → Option Int) → Int → Int → Option R} (hx : xs.length ≤ 1048576) (hl : ∀ x ∈ xs, x.length ≤ 1048576) (ha : a.length ≤ 1048576) (hN : 1048577 ≤ N)
    (hlo : ∀ k : Nat, k < t → k < xs.length → lexC (rdL xs (k : Int)) a < 0) (hhi : ∀ k : Nat, t ≤ k → k < xs.length → ¬ lexC (rdL xs (k : Int)) a < 0) : ∀ (d i j K : Nat), j - i ≤ d → d < K → i ≤ t → t ≤ j → j ≤ xs.length →
      slices_BinarySearchFunc_LLI_LI_LI_l0 N k0 K xs a (fun y0 y1 => (slices_Compare_LI_int N y0 y1).bind fun z => some z.1.1) len (i : Int) (j : Int) = k0 xs a (fun y0 y1 => (slices_Compare_LI_int N y0 y1).bind fun z => some z.1.1) len (t : Int) := by
  intro d
  induction d with
  | zero =>
    intro i j K hd hK hi hj hjx
    obtain ⟨k, rfl⟩ := succ_of hK
    have : i = t := by omega
    subst this
    simp only [slices_BinarySearchFunc_LLI_LI_LI_l0, ilt_nf (show ¬ i < j by omega), br_f]
  | succ d ih =>
    intro i j K hd hK hi hj hjx
    obtain ⟨k, rfl⟩ := succ_of hK
    by_cases hij : i < j
    · have hm : (i + j) / 2 < xs.length := by omega
      simp only [slices_BinarySearchFunc_LLI_LI_LI_l0, ilt_n hij, br_t, mid_eq (show i + j < 4611686018427387904 by omega), inb_n hm, chk_t]
      rw [Compare_lex (hl _ (by rw [rdL_n hm]; exact List.getElem_mem hm)) ha hN, bind_some', bind_some']
      simp only []
      by_cases hc : lexC (rdL xs (((i + j) / 2 : Nat) : Int)) a < 0
      · rw [ilt_t hc, br_t, wrap_succ (by omega)]
        refine ih ((i + j) / 2 + 1) j k (by omega) (by omega) ?_ hj hjx
        by_cases h : t ≤ (i + j) / 2
        · exact absurd hc (hhi _ h hm)
        · omega
      · rw [ilt_f hc, br_f]
        refine ih i ((i + j) / 2) k (by omega) (by omega) hi ?_ (by omega)
        by_cases h : (i + j) / 2 < t
        · exact absurd (hlo _ h hm) hc
        · omega
    · have : i = t := by omega
      subst this
      simp only [slices_BinarySearchFunc_LLI_LI_LI_l0, ilt_nf hij, br_f]
theorem idx_lt {xs : List (List Int)} {a : List Int} (h : a ∈ xs) : xs.idxOf a < xs.length := List.idxOf_lt_length_iff.2 h
theorem idx_rd {xs : List (List Int)} {a : List Int} (h : a ∈ xs) : rdL xs ((xs.idxOf a : Nat) : Int) = a := by
  rw [rdL_n (idx_lt h)]
  exact List.getElem_idxOf (idx_lt h)
theorem place_in {N : Nat} {xs : List (List Int)} {st : List (Int × Int)} {a : List Int} (hs : lexSorted xs) (hx : xs.length ≤ 1048576) (hl : ∀ x ∈ xs, x.length ≤ 1048576) (ha : a ∈ xs) (hN : 1048577 ≤ N) :
    impl_Space_place N (xs, st) a = some ((((xs.idxOf a : Nat) : Int), true, ()), ()) := by
  have hp := List.pairwise_iff_getElem.1 hs
  have hi := idx_lt ha
  have ht : xs[xs.idxOf a] = a := List.getElem_idxOf hi
  have hal := hl a ha
  unfold impl_Space_place slices_BinarySearchFunc_LLI_LI_LI
  simp only []
  have := bin_eq (N := N) (len := tLen xs) (t := xs.idxOf a) (k0 := fun x1 target1 cmp1 n i => (br (ilt i n) ((chk (inb x1 i) ((cmp1 (rdL x1 i) target1).bind fun v => some ((i, (ieq v 0), ()), ())))) (some ((i, false, ()), ())))) hx hl hal hN (fun k hk hkx => by
    have := hp k _ hkx hi hk
    rwa [ht, ← rdL_n hkx] at this) (fun k hk hkx hc => by
    by_cases he : k = xs.idxOf a
    · subst he
      rw [rdL_n hkx, ht, lexC_self] at hc
      omega
    · have := hp _ k hi hkx (by omega)
      rw [ht, ← rdL_n hkx] at this
      have e := lexC_anti a (rdL xs (k : Int))
      omega) xs.length 0 xs.length N (by omega) (by omega) (Nat.zero_le _) (by omega) (Nat.le_refl _)
  simp only [Int.natCast_zero] at this
  rw [tLen_n] at this ⊢
  rw [this, ilt_n hi, br_t, inb_n hi, chk_t, Compare_lex (by rw [idx_rd ha]; exact hal) hal hN, bind_some', bind_some', bind_some', idx_rd ha, lexC_self]
  rfl
theorem index_in {N : Nat} {xs : List (List Int)} {st : List (Int × Int)} {a : List Int} (hx : xs.length ≤ 1048576) (hl : ∀ x ∈ xs, x.length ≤ 1048576) (ha : a ∈ xs) (hN : 1048577 ≤ N) :
    spec_l2Index N (xs, st) a = some ((((xs.idxOf a : Nat) : Int), ()), ()) := by
  unfold spec_l2Index
  simp only []
  have go : ∀ (d n K : Nat), n + d = xs.idxOf a → d < K → spec_l2Index_l0 N (fun x1 => some ((x1, ()), ())) (fun (_ : Unit) => some (((-1), ()), ())) K a (n : Int) xs st = some ((((xs.idxOf a : Nat) : Int), ()), ()) := by
    intro d
    induction d with
    | zero =>
      intro n K hd hK
      obtain ⟨k, rfl⟩ := succ_of hK
      have : n = xs.idxOf a := by omega
      subst this
      simp only [spec_l2Index_l0, ilt_len (idx_lt ha), br_t, inb_n (idx_lt ha), chk_t, idx_rd ha]
      rw [l1Same_eq (hl a ha) hN, bind_some', decide_eq_true rfl, br_t]
    | succ d ih =>
      intro n K hd hK
      obtain ⟨k, rfl⟩ := succ_of hK
      have hi := idx_lt ha
      have hn : n < xs.length := by omega
      have hne : ¬ rdL xs (n : Int) = a := by
        rw [rdL_n hn]
        intro e
        have := List.not_of_lt_findIdx (p := (· == a)) (xs := xs) (i := n) (by show n < xs.idxOf a; omega)
        simp [e] at this
      simp only [spec_l2Index_l0, ilt_len hn, br_t, inb_n hn, chk_t]
      rw [l1Same_eq (hl _ (by rw [rdL_n hn]; exact List.getElem_mem hn)) hN, bind_some', decide_eq_false hne, br_f, wrap_succ (by omega)]
      exact ih (n + 1) k (by omega) (by omega)
  have hi := idx_lt ha
  exact go (xs.idxOf a) 0 N (by omega) (by omega)
/-! ### The first way -/
noncomputable def fwdL (L : List (List Int)) (F : List Int) : Nat → Int → List Int
  | 0, _ => []
  | d + 1, x => ((nextW L F x).headD x) :: fwdL L F d ((nextW L F x).headD x)
theorem fwdL_len {L : List (List Int)} {F : List Int} : ∀ (d : Nat) (x : Int), (fwdL L F d x).length = d := by
  intro d
  induction d with
  | zero => intro x; rfl
  | succ d ih => intro x; simp [fwdL, ih]
theorem nbL_sym {n : Nat} {st : List (Int × Int)} (h : okSt n st) {y z : Int} (hy : InN n y) (hz : InN n z) (hm : z ∈ rdL (nbL n st) y) : y ∈ rdL (nbL n st) z := by
  rw [nbL_rd hy] at hm
  rw [nbL_rd hz]
  exact (mem_nbS h).2 ((mem_nbS h).1 hm).symm
theorem wl_in {L : List (List Int)} {m : Nat} {x : Int} (hl : okLists L m) (hx : InN m x) {k : Nat} {y : Int} (h : Wl L x k y) : InN m y := by
  induction h with
  | base => exact hx
  | step _ hz ih => exact (okL_row hl ih).2 _ hz
theorem next_some {n : Nat} {st : List (Int × Int)} (hn : n ≤ 1048576) (h : okSt n st) {t x : Int} (ht : InN n t) (hx : InN n x) {d : Nat} (hd : rdI (bfsD (nbL n st) n t) x = ((d + 1 : Nat) : Int)) :
    ∃ z q, nextW (nbL n st) (bfsD (nbL n st) n t) x = z :: q ∧ InN n z ∧ rdI (bfsD (nbL n st) n t) z = (d : Int) := by
  have hl := nbL_ok hn h
  obtain ⟨_, s2, s3, s4, s5, s6⟩ := bfsD_spec hl ht
  have hw := s5 x hx (by omega)
  have e1 : (rdI (bfsD (nbL n st) n t) x).toNat = d + 1 := by omega
  rw [e1] at hw
  have key : ∃ u, u ∈ nextW (nbL n st) (bfsD (nbL n st) n t) x := by
    cases hw with
    | @step _ u _ hu hz =>
      have hui := wl_in hl ht hu
      obtain ⟨_, u1, u2⟩ := s6 _ _ hu
      have hw2 := s5 u hui u1
      have := (s6 _ _ (Wl.step hw2 hz)).2.2
      refine ⟨u, List.mem_filter.2 ⟨nbL_sym h hui hx hz, decide_eq_true ?_⟩⟩
      omega
  obtain ⟨u, hu⟩ := key
  cases hq : nextW (nbL n st) (bfsD (nbL n st) n t) x with
  | nil => rw [hq] at hu; cases hu
  | cons z q =>
    have hz : z ∈ nextW (nbL n st) (bfsD (nbL n st) n t) x := by rw [hq]; exact List.mem_cons_self ..
    obtain ⟨z1, z2⟩ := List.mem_filter.1 hz
    have z2 := of_decide_eq_true z2
    exact ⟨z, q, rfl, (okL_row hl hx).2 _ z1, by omega⟩
theorem fwd_in {n : Nat} {st : List (Int × Int)} (hn : n ≤ 1048576) (h : okSt n st) {t : Int} (ht : InN n t) : ∀ (d : Nat) (x : Int), InN n x → rdI (bfsD (nbL n st) n t) x = (d : Int) → ∀ z ∈ fwdL (nbL n st) (bfsD (nbL n st) n t) d x, InN n z := by
  intro d
  induction d with
  | zero => intro x _ _ z hz; cases hz
  | succ d ih =>
    intro x hx hd z hz
    obtain ⟨u, q, h1, h2, h3⟩ := next_some hn h ht hx hd
    unfold fwdL at hz
    rw [h1] at hz
    rcases List.mem_cons.1 hz with rfl | hz
    · exact h2
    · exact ih _ h2 h3 z hz
theorem firstWay_in {R : Type} {N : Nat} {L : List (List Int)} {F : List Int} {x j y : Int} {q o : List Int} {kk : Int → Int → List (List Int) → List Int → List Int → Option R} {m : Nat} (hl : okLists L m) (hF : F.length = m) (hx : InN m x) (hb : 0 < rdI F x ∧ rdI F x < 1048576) (hm : m ≤ 1048576)
    (hq : nextW L F x = y :: q) (hN : 1048577 ≤ N) : impl_Space_firstWay_l0_0 N kk N x j x (tLen (rdL L x)) 0 L F o = kk y j L F o := by
  obtain ⟨hr1, hr2⟩ := okL_row hl hx
  have go : ∀ (r n K : Nat), n + r = (rdL L x).length → r < K → (((rdL L x).drop n).filter fun y => decide (rdI F y = rdI F x - 1)) = y :: q →
      impl_Space_firstWay_l0_0 N kk K x j x (tLen (rdL L x)) (n : Int) L F o = kk y j L F o := by
    intro r
    induction r with
    | zero =>
      intro n K hr hK hf
      rw [List.drop_of_length_le (by omega)] at hf
      cases hf
    | succ r ih =>
      intro n K hr hK hf
      obtain ⟨k, rfl⟩ := succ_of hK
      have hn : n < (rdL L x).length := by omega
      rw [drop_cons hn, List.filter_cons] at hf
      have hz := hr2 _ (List.getElem_mem hn)
      simp only [impl_Space_firstWay_l0_0, ilt_len hn, br_t, inb_n hn, chk_t, rdI_n hn]
      rw [inb_i hz.1 (by have := hz.2; omega), chk_t, inb_i hx.1 (by have := hx.2; omega), chk_t, wrap_ok (n := rdI F x - 1) (by omega) (by omega)]
      by_cases hc : rdI F (rdL L x)[n] = rdI F x - 1
      · rw [if_pos (by simp [hc])] at hf
        injection hf with h1 h2
        rw [ieq_t hc, br_t, h1]
      · rw [if_neg (by simp [hc])] at hf
        rw [ieq_f hc, br_f, wrap_succ (by omega)]
        exact ih (n + 1) k (by omega) (by omega) hf
  exact go (rdL L x).length 0 N (by omega) (by omega) hq
theorem wlk2_in {R : Type} {N : Nat} {L : List (List Int)} {F : List Int} {x j y : Int} {q o : List Int} {kk : Int → Int → Int → List (List Int) → List Int → List Int → Option R} {m : Nat} (hl : okLists L m) (hF : F.length = m) (hx : InN m x) (hb : 0 < rdI F x ∧ rdI F x < 1048576) (hm : m ≤ 1048576)
    (hq : nextW L F x = y :: q) (hN : 1048577 ≤ N) : ∃ v : Nat, v < (rdL L x).length ∧ rdI (rdL L x) (v : Int) = y ∧ spec_l2Walk_l0_0 N kk N x j 0 L F o = kk x j (v : Int) L F o := by
  obtain ⟨hr1, hr2⟩ := okL_row hl hx
  have go : ∀ (r n K : Nat), n + r = (rdL L x).length → r < K → (((rdL L x).drop n).filter fun y => decide (rdI F y = rdI F x - 1)) = y :: q →
      ∃ v : Nat, v < (rdL L x).length ∧ rdI (rdL L x) (v : Int) = y ∧ spec_l2Walk_l0_0 N kk K x j (n : Int) L F o = kk x j (v : Int) L F o := by
    intro r
    induction r with
    | zero =>
      intro n K hr hK hf
      rw [List.drop_of_length_le (by omega)] at hf
      cases hf
    | succ r ih =>
      intro n K hr hK hf
      obtain ⟨k, rfl⟩ := succ_of hK
      have hn : n < (rdL L x).length := by omega
      rw [drop_cons hn, List.filter_cons] at hf
      have hz := hr2 _ (List.getElem_mem hn)
      have hL : L.length = m := hl.1
      simp only [spec_l2Walk_l0_0, inb_n hn, rdI_n hn]
      rw [inb_i hx.1 (by have := hx.2; omega), chk_t, chk_t, inb_i hz.1 (by have := hz.2; omega), chk_t, inb_i hx.1 (by have := hx.2; omega), chk_t, wrap_ok (n := rdI F x - 1) (by omega) (by omega)]
      by_cases hc : rdI F (rdL L x)[n] = rdI F x - 1
      · rw [if_pos (by simp [hc])] at hf
        injection hf with h1 h2
        rw [ine_f hc, br_f]
        exact ⟨n, hn, by rw [rdI_n hn, h1], rfl⟩
      · rw [if_neg (by simp [hc])] at hf
        rw [ine_t hc, br_t, wrap_succ (by omega)]
        exact ih (n + 1) k (by omega) (by omega) hf
  exact go (rdL L x).length 0 N (by omega) (by omega) hq
noncomputable def wayI (xs : List (List Int)) (st : List (Int × Int)) (i j : Nat) : List Int :=
  if rdI (bfsD (nbL xs.length st) xs.length (j : Int)) (i : Int) < 0 then [] else (i : Int) :: fwdL (nbL xs.length st) (bfsD (nbL xs.length st) xs.length (j : Int)) (rdI (bfsD (nbL xs.length st) xs.length (j : Int)) (i : Int)).toNat (i : Int)
theorem wayI_in {xs : List (List Int)} {st : List (Int × Int)} {i j : Nat} (hn : xs.length ≤ 1048576) (h : okSt xs.length st) (hi : i < xs.length) (hj : j < xs.length) : ∀ z ∈ wayI xs st i j, InN xs.length z := by
  intro z hz
  unfold wayI at hz
  split at hz
  · cases hz
  · rename_i h0
    rcases List.mem_cons.1 hz with rfl | hz
    · exact in_nat hi
    · exact fwd_in hn h (in_nat hj) _ _ (in_nat hi) (by omega) z hz
theorem wayI_len {xs : List (List Int)} {st : List (Int × Int)} {i j : Nat} (hn : xs.length ≤ 1048576) (h : okSt xs.length st) (hi : i < xs.length) (hj : j < xs.length) : (wayI xs st i j).length ≤ xs.length := by
  have hl := nbL_ok hn h
  have := (bfsD_spec hl (in_nat hj)).2.2.1 (i : Int) (in_nat hi)
  unfold wayI
  split
  · simp
  · rw [List.length_cons, fwdL_len]
    omega
theorem firstWay_eq {N : Nat} {xs : List (List Int)} {st : List (Int × Int)} {i j : Nat} (hx : xs.length < 1024) (hs : st.length ≤ 1048576) (h : okSt xs.length st) (hi : i < xs.length) (hj : j < xs.length) (hN : 1048577 ≤ N) :
    impl_Space_firstWay N (xs, st) (i : Int) (j : Int) = some ((wayI xs st i j, decide (wayI xs st i j ≠ []), ()), ()) := by
  have hl := nbL_ok (n := xs.length) (by omega) h
  obtain ⟨s1, s2, s3, s4, s5, s6⟩ := bfsD_spec hl (in_nat hj)
  unfold impl_Space_firstWay wayI
  simp only []
  rw [sroads_eq hx hs h hN, bind_some']
  simp only []
  rw [spread_eq hl (by omega) (in_nat hj) hN, bind_some']
  simp only []
  rw [inb_n (by omega), chk_t]
  by_cases h0 : rdI (bfsD (nbL xs.length st) xs.length (j : Int)) (i : Int) < 0
  · rw [ilt_t h0, br_t, if_pos h0]
    rfl
  · rw [ilt_f h0, br_f, if_neg h0]
    have go : ∀ (d K : Nat) (x : Int) (o : List Int), d < K → InN xs.length x → rdI (bfsD (nbL xs.length st) xs.length (j : Int)) x = (d : Int) → o.length + d ≤ 1048576 →
        impl_Space_firstWay_l0 N (fun o => some ((o, true, ()), ())) K x (j : Int) (nbL xs.length st) (bfsD (nbL xs.length st) xs.length (j : Int)) o = some ((o ++ fwdL (nbL xs.length st) (bfsD (nbL xs.length st) xs.length (j : Int)) d x, true, ()), ()) := by
      intro d
      induction d with
      | zero =>
        intro K x o hK hxi hd ho
        obtain ⟨k, rfl⟩ := succ_of hK
        have := s4 x hxi hd
        simp only [impl_Space_firstWay_l0, ine_f this, br_f, fwdL, List.append_nil]
      | succ d ih =>
        intro K x o hK hxi hd ho
        obtain ⟨k, rfl⟩ := succ_of hK
        have hne : x ≠ (j : Int) := by rintro rfl; omega
        obtain ⟨z, q, h1, h2, h3⟩ := next_some (by omega) h (in_nat hj) hxi hd
        have h4 := s3 x hxi
        have h5 : (nbL xs.length st).length = xs.length := hl.1
        simp only [impl_Space_firstWay_l0, ine_t hne, br_t]
        rw [inb_i hxi.1 (by have := hxi.2; omega), chk_t, firstWay_in hl s1 hxi (by omega) (by omega) h1 hN, room_ok (by simp; omega), chk_t, tApp_d, ih k z _ (by omega) h2 h3 (by simp; omega), fwdL, h1, List.append_assoc]
        rfl
    have hlt := s3 (i : Int) (in_nat hi)
    have := go (rdI (bfsD (nbL xs.length st) xs.length (j : Int)) (i : Int)).toNat N (i : Int) [(i : Int)] (by omega) (in_nat hi) (by omega) (by simp; omega)
    rw [this]
    rfl
theorem l2Walk_eq {N : Nat} {xs : List (List Int)} {st : List (Int × Int)} {i j : Nat} (hx : xs.length < 1024) (hs : st.length ≤ 1048576) (h : okSt xs.length st) (hi : i < xs.length) (hj : j < xs.length) (hN : 1048577 ≤ N) :
    spec_l2Walk N (xs, st) (i : Int) (j : Int) = some ((wayI xs st i j, ()), ()) := by
  have hl := nbL_ok (n := xs.length) (by omega) h
  obtain ⟨s1, s2, s3, s4, s5, s6⟩ := bfsD_spec hl (in_nat hj)
  unfold spec_l2Walk wayI
  simp only []
  rw [l2Lists_eq (by omega) hs h hN, bind_some']
  simp only []
  rw [l2Spread_bfs hl (by omega) (in_nat hj) hN, bind_some']
  simp only []
  rw [inb_n (by omega), chk_t]
  by_cases h0 : rdI (bfsD (nbL xs.length st) xs.length (j : Int)) (i : Int) < 0
  · rw [ilt_t h0, br_t, if_pos h0]
  · rw [ilt_f h0, br_f, if_neg h0]
    have go : ∀ (d K : Nat) (x : Int) (o : List Int), d < K → InN xs.length x → rdI (bfsD (nbL xs.length st) xs.length (j : Int)) x = (d : Int) → o.length + d ≤ 1048576 →
        spec_l2Walk_l0 N (fun o => some ((o, ()), ())) K x (j : Int) (nbL xs.length st) (bfsD (nbL xs.length st) xs.length (j : Int)) o = some ((o ++ fwdL (nbL xs.length st) (bfsD (nbL xs.length st) xs.length (j : Int)) d x, ()), ()) := by
      intro d
      induction d with
      | zero =>
        intro K x o hK hxi hd ho
        obtain ⟨k, rfl⟩ := succ_of hK
        have := s4 x hxi hd
        simp only [spec_l2Walk_l0, ine_f this, br_f, fwdL, List.append_nil]
      | succ d ih =>
        intro K x o hK hxi hd ho
        obtain ⟨k, rfl⟩ := succ_of hK
        have hne : x ≠ (j : Int) := by rintro rfl; omega
        obtain ⟨z, q, h1, h2, h3⟩ := next_some (by omega) h (in_nat hj) hxi hd
        have h4 := s3 x hxi
        have h5 : (nbL xs.length st).length = xs.length := hl.1
        simp only [spec_l2Walk_l0, ine_t hne, br_t]
        obtain ⟨v, v1, v2, v3⟩ := wlk2_in (R := (List Int × Unit) × Unit) (o := o) (j := (j : Int)) (kk := fun i2 j2 kv o3 o4 o5 => (chk (inb o3 i2) (chk (inb (rdL o3 i2) kv) (chk (room o5 [(rdI (rdL o3 i2) kv)]) (spec_l2Walk_l0 N (fun o => some ((o, ()), ())) k (rdI (rdL o3 i2) kv) j2 o3 o4 (tApp o5 [(rdI (rdL o3 i2) kv)])))))) hl s1 hxi (by omega) (by omega) h1 hN
        rw [v3, inb_i hxi.1 (by have := hxi.2; omega), chk_t, inb_n v1, chk_t, v2, room_ok (by simp; omega), chk_t, tApp_d, ih k z _ (by omega) h2 h3 (by simp; omega), fwdL, h1, List.append_assoc]
        rfl
    have hlt := s3 (i : Int) (in_nat hi)
    have := go (rdI (bfsD (nbL xs.length st) xs.length (j : Int)) (i : Int)).toNat N (i : Int) [(i : Int)] (by omega) (in_nat hi) (by omega) (by simp; omega)
    rw [this]
    rfl
noncomputable def wayS (xs : List (List Int)) (st : List (Int × Int)) (a b : List Int) : List (List Int) := (wayI xs st (xs.idxOf a) (xs.idxOf b)).map (rdL xs)
theorem wayS_len {xs : List (List Int)} {st : List (Int × Int)} {a b : List Int} (hn : xs.length ≤ 1048576) (h : okSt xs.length st) (ha : a ∈ xs) (hb : b ∈ xs) : (wayS xs st a b).length ≤ xs.length := by
  unfold wayS
  rw [List.length_map]
  exact wayI_len hn h (idx_lt ha) (idx_lt hb)
theorem wayS_in {xs : List (List Int)} {st : List (Int × Int)} {a b : List Int} (hn : xs.length ≤ 1048576) (h : okSt xs.length st) (ha : a ∈ xs) (hb : b ∈ xs) : ∀ s ∈ wayS xs st a b, s ∈ xs := by
  intro s hs
  obtain ⟨z, hz, rfl⟩ := List.mem_map.1 hs
  obtain ⟨k, hk, rfl⟩ := nat_of (wayI_in hn h (idx_lt ha) (idx_lt hb) z hz)
  rw [rdL_n hk]
  exact List.getElem_mem hk
theorem walk_eq {N : Nat} {xs : List (List Int)} {st : List (Int × Int)} {a b : List Int} (hs : lexSorted xs) (hl : ∀ x ∈ xs, x.length ≤ 1048576) (hx : xs.length < 1024) (hst : st.length ≤ 1048576) (h : okSt xs.length st) (ha : a ∈ xs) (hb : b ∈ xs) (hN : 1048577 ≤ N) :
    impl_Space_walk N (xs, st) a b = some ((wayS xs st a b, decide (wayS xs st a b ≠ []), ()), ()) := by
  have hne : decide (wayS xs st a b ≠ []) = decide (wayI xs st (xs.idxOf a) (xs.idxOf b) ≠ []) := by
    unfold wayS
    cases wayI xs st (xs.idxOf a) (xs.idxOf b) <;> simp
  have hin := wayI_in (by omega) h (idx_lt ha) (idx_lt hb)
  have hlen := wayI_len (by omega) h (idx_lt ha) (idx_lt hb)
  unfold impl_Space_walk
  rw [place_in hs (by omega) hl ha hN, place_in hs (by omega) hl hb hN, bind_some', bind_some']
  simp only [Bool.not_true, br_f]
  rw [firstWay_eq hx hst h (idx_lt ha) (idx_lt hb) hN, bind_some', hne]
  simp only []
  generalize decide (wayI xs st (xs.idxOf a) (xs.idxOf b) ≠ []) = ok
  unfold wayS
  generalize wayI xs st (xs.idxOf a) (xs.idxOf b) = w at hin hlen
  have go : ∀ (d n K : Nat) (o : List (List Int)), n + d = w.length → d < K → o.length ≤ n →
      impl_Space_walk_l0 N (fun ok o => some ((o, ok, ()), ())) K ok (tLen w) (n : Int) xs st o w = some ((o ++ (w.drop n).map (rdL xs), ok, ()), ()) := by
    intro d
    induction d with
    | zero =>
      intro n K o hd hK ho
      obtain ⟨k, rfl⟩ := succ_of hK
      simp only [impl_Space_walk_l0, ilt_lenf (show ¬ n < w.length by omega), br_f]
      rw [List.drop_of_length_le (by omega)]
      simp
    | succ d ih =>
      intro n K o hd hK ho
      obtain ⟨k, rfl⟩ := succ_of hK
      have hn : n < w.length := by omega
      have hz := hin _ (List.getElem_mem hn)
      obtain ⟨z, hz1, hz2⟩ := nat_of hz
      simp only [impl_Space_walk_l0, ilt_len hn, br_t, inb_n hn, chk_t, rdI_n hn]
      rw [hz2, inb_n hz1, chk_t, Clone_eq (hl _ (by rw [rdL_n hz1]; exact List.getElem_mem hz1)), bind_some', room_ok (by simp; omega), chk_t, wrap_succ (by omega), tApp_d, ih (n + 1) k _ (by omega) (by omega) (by simp; omega), drop_cons hn, List.map_cons, hz2, List.append_assoc]
      rfl
  have := go w.length 0 N [] (by omega) (by omega) (Nat.zero_le _)
  simpa using this
theorem named_eq {N : Nat} {xs : List (List Int)} {st : List (Int × Int)} {w : List Int} (hl : ∀ x ∈ xs, x.length ≤ 1048576) (hin : ∀ z ∈ w, InN xs.length z) (hw : w.length ≤ 1048576) (hN : 1048577 ≤ N) :
    spec_l4Named N (xs, st) w = some ((w.map (rdL xs), ()), ()) := by
  unfold spec_l4Named
  have go : ∀ (d n K : Nat) (o : List (List Int)), n + d = w.length → d < K → o.length ≤ n →
      spec_l4Named_l0 N (fun o => some ((o, ()), ())) K w (n : Int) xs st o = some ((o ++ (w.drop n).map (rdL xs), ()), ()) := by
    intro d
    induction d with
    | zero =>
      intro n K o hd hK ho
      obtain ⟨k, rfl⟩ := succ_of hK
      simp only [spec_l4Named_l0, ilt_lenf (show ¬ n < w.length by omega), br_f]
      rw [List.drop_of_length_le (by omega)]
      simp
    | succ d ih =>
      intro n K o hd hK ho
      obtain ⟨k, rfl⟩ := succ_of hK
      have hn : n < w.length := by omega
      have hz := hin _ (List.getElem_mem hn)
      obtain ⟨z, hz1, hz2⟩ := nat_of hz
      simp only [spec_l4Named_l0, ilt_len hn, br_t, inb_n hn, chk_t, rdI_n hn]
      rw [hz2, inb_n hz1, chk_t, l1Own_eq (hl _ (by rw [rdL_n hz1]; exact List.getElem_mem hz1)), bind_some', room_ok (by simp; omega), chk_t, wrap_succ (by omega), tApp_d, ih (n + 1) k _ (by omega) (by omega) (by simp; omega), drop_cons hn, List.map_cons, hz2, List.append_assoc]
      rfl
  have := go w.length 0 N [] (by omega) (by omega) (Nat.zero_le _)
  simpa using this
def bl : Nat → List (List Int)
  | 0 => [[]]
  | m + 1 => (bl m).map (fun b => 0 :: b) ++ (bl m).map (fun b => 1 :: b)
theorem mem_bl : ∀ {b : List Int}, (∀ x ∈ b, x = 0 ∨ x = 1) → b ∈ bl b.length := by
  intro b
  induction b with
  | nil => intro _; simp [bl]
  | cons x b ih =>
    intro h
    have h1 := ih fun y hy => h y (List.mem_cons_of_mem _ hy)
    rw [List.length_cons]
    unfold bl
    rcases h x (List.mem_cons_self ..) with rfl | rfl
    · exact List.mem_append_left _ (List.mem_map.2 ⟨b, h1, rfl⟩)
    · exact List.mem_append_right _ (List.mem_map.2 ⟨b, h1, rfl⟩)
theorem blTab : ((List.range 7).all fun m => (bl m).all fun b => (allB m).any fun c => c == b) = true := by kernel_rfl
theorem mem_allB {b : List Int} (hb : ∀ x ∈ b, x = 0 ∨ x = 1) (h6 : b.length ≤ 6) : b ∈ allB b.length := by
  have h1 := List.all_eq_true.1 (List.all_eq_true.1 blTab b.length (List.mem_range.2 (by omega))) b (mem_bl hb)
  obtain ⟨c, h2, h3⟩ := List.any_eq_true.1 h1
  have := eq_of_beq h3
  rwa [this] at h2
theorem sol_mem {f : Int × List (List Int)} {a : List Int} (h : isSol f a) : a ∈ solsL f := by
  obtain ⟨h1, h2, h3, h4⟩ := isSol_facts h
  have hb : ∀ x ∈ a, x = 0 ∨ x = 1 := fun x hx => by
    have := List.all_eq_true.1 h1 x hx
    unfold isBit at this
    have := of_decide_eq_true this
    omega
  have e : a.length = f.1.toNat := by omega
  have := mem_allB hb h3
  rw [e] at this
  exact List.mem_filter.2 ⟨this, decide_eq_true h.2⟩
/-! ### The way is without repetition -/
theorem fwd_less {n : Nat} {st : List (Int × Int)} (hn : n ≤ 1048576) (h : okSt n st) {t : Int} (ht : InN n t) : ∀ (d : Nat) (x : Int), InN n x → rdI (bfsD (nbL n st) n t) x = (d : Int) → (x :: fwdL (nbL n st) (bfsD (nbL n st) n t) d x).Pairwise fun a b => rdI (bfsD (nbL n st) n t) b < rdI (bfsD (nbL n st) n t) a := by
  intro d
  induction d with
  | zero => intro x _ _; exact List.pairwise_singleton ..
  | succ d ih =>
    intro x hx hd
    obtain ⟨z, q, h1, h2, h3⟩ := next_some hn h ht hx hd
    have := ih z h2 h3
    unfold fwdL
    rw [h1]
    simp only [List.headD_cons]
    refine List.pairwise_cons.2 ⟨fun y hy => ?_, this⟩
    rcases List.mem_cons.1 hy with rfl | hy
    · omega
    · have := (List.pairwise_cons.1 this).1 y hy
      omega
theorem wayI_nodup {xs : List (List Int)} {st : List (Int × Int)} {i j : Nat} (hn : xs.length ≤ 1048576) (h : okSt xs.length st) (hi : i < xs.length) (hj : j < xs.length) : (wayI xs st i j).Nodup := by
  unfold wayI
  split
  · exact List.nodup_nil
  · rename_i h0
    refine (fwd_less hn h (in_nat hj) _ _ (in_nat hi) (by omega)).imp fun {a b} hab e => ?_
    rw [e] at hab
    omega
theorem wayS_nodup {xs : List (List Int)} {st : List (Int × Int)} {a b : List Int} (hs : lexSorted xs) (hn : xs.length ≤ 1048576) (h : okSt xs.length st) (ha : a ∈ xs) (hb : b ∈ xs) : (wayS xs st a b).Nodup := by
  have h1 := wayI_nodup hn h (idx_lt ha) (idx_lt hb)
  have h2 := wayI_in hn h (idx_lt ha) (idx_lt hb)
  unfold wayS
  refine List.pairwise_map.2 (h1.imp_of_mem fun {y z} hy hz hne e => ?_)
  obtain ⟨p, hp, rfl⟩ := nat_of (h2 y hy)
  obtain ⟨q, hq, rfl⟩ := nat_of (h2 z hz)
  rw [rdL_n hp, rdL_n hq] at e
  have := (List.getElem_inj (lexSorted_nodup hs)).1 e
  omega
/-! ### What is flipped -/
noncomputable def diffsL (w : List (List Int)) : List Int := (List.range' 1 (w.length - 1)).map fun i : Nat => (apartL (rdL w ((i - 1 : Nat) : Int)) (rdL w (i : Int))).headD 0
theorem diffsL_len (w : List (List Int)) : (diffsL w).length = w.length - 1 := by simp [diffsL]
theorem impl_diffs {N : Nat} {w : List (List Int)} {m : Nat} (hw : w.Nodup) (hl : w.length ≤ 1048576) (hr : ∀ x ∈ w, x.length = m) (hm : m ≤ 1048576) (hN : 1048577 ≤ N) : impl_FlipWay_l0 N (fun o => some ((o, true, ()), ())) N 1 w [] = some ((diffsL w, true, ()), ()) := by
  have go : ∀ (d n K : Nat) (o : List Int), n + d = w.length → d < K → o.length ≤ n → 1 ≤ n →
      impl_FlipWay_l0 N (fun o => some ((o, true, ()), ())) K (n : Int) w o = some ((o ++ (List.range' n d).map fun i : Nat => (apartL (rdL w ((i - 1 : Nat) : Int)) (rdL w (i : Int))).headD 0, true, ()), ()) := by
    intro d
    induction d with
    | zero =>
      intro n K o hd hK ho h1
      obtain ⟨k, rfl⟩ := succ_of hK
      simp only [impl_FlipWay_l0, ilt_lenf (show ¬ n < w.length by omega), br_f]
      simp
    | succ d ih =>
      intro n K o hd hK ho h1
      obtain ⟨k, rfl⟩ := succ_of hK
      have hn : n < w.length := by omega
      have hn1 : n - 1 < w.length := by omega
      have e1 := hr _ (List.getElem_mem hn)
      have e2 := hr _ (List.getElem_mem hn1)
      rw [← rdL_n hn] at e1
      rw [← rdL_n hn1] at e2
      have hne : rdL w ((n - 1 : Nat) : Int) ≠ rdL w (n : Int) := by
        rw [rdL_n hn1, rdL_n hn]
        intro e
        have := (List.getElem_inj hw).1 e
        omega
      simp only [impl_FlipWay_l0, ilt_len hn, br_t]
      rw [wrap_pred (by omega) (by omega), inb_n hn1, chk_t, inb_n hn, chk_t, places_ap (by omega) (by omega) hN, bind_some']
      simp only []
      cases ha : apartL (rdL w ((n - 1 : Nat) : Int)) (rdL w (n : Int)) with
      | nil => exact absurd (apart_nil (by omega) ha) hne
      | cons x l =>
        have e0 : rdI (x :: l) 0 = x := rfl
        rw [show inb (x :: l) 0 = true from inb_n (by simp), chk_t, room_ok (by simp; omega), chk_t, wrap_succ (by omega), tApp_d, e0, ih (n + 1) k _ (by omega) (by omega) (by simp; omega) (by omega), List.range'_succ, List.map_cons, ha, List.append_assoc]
        rfl
  by_cases h0 : w.length = 0
  · have : w = [] := List.eq_nil_of_length_eq_zero h0
    subst this
    obtain ⟨k, rfl⟩ : ∃ k, N = k + 1 := ⟨N - 1, by omega⟩
    rfl
  · have := go (w.length - 1) 1 N [] (by omega) (by omega) (by simp) (by omega)
    exact this
theorem l6Two_ab {N : Nat} {f : Int × List (List Int)} {a b : List Int} (hl : f.2.length ≤ 1048576) (hc : ∀ c ∈ f.2, c.length ≤ 1048576) (ha : a.length ≤ 1048576) (hb : b.length ≤ 1048576) (hN : 1048577 ≤ N) : spec_l6Two N f a b = some ((decide (isSol f a ∧ isSol f b), ()), ()) := by
  unfold spec_l6Two
  simp only [spec_l6Good_eq hl hc hN, bind_some', l6Bits_eq (show a.length ≤ 1099511627776 by omega) (show a.length < N by omega), l6Bits_eq (show b.length ≤ 1099511627776 by omega) (show b.length < N by omega)]
  by_cases hg : goodF f
  · rw [decide_eq_true hg, br_t]
    by_cases hq : (a.all isBit && decide ((a.length : Int) = f.1)) = true
    · have hle : (a.length : Int) = f.1 := by simp at hq; exact hq.2
      rw [hq, br_t]
      by_cases hq2 : (b.all isBit && decide ((b.length : Int) = f.1)) = true
      · have hle2 : (b.length : Int) = f.1 := by simp at hq2; exact hq2.2
        rw [hq2, br_t, l6Solves_eq hl hc ha (by rw [hle]; exact goodF_lits hg) hN, l6Solves_eq hl hc hb (by rw [hle2]; exact goodF_lits hg) hN]
        simp only [bind_some']
        by_cases hs : solves a f.2
        · rw [decide_eq_true hs, br_t]
          congr 3
          exact decide_eq_decide.2 ⟨fun h => ⟨⟨⟨hg, hq⟩, hs⟩, ⟨⟨hg, hq2⟩, h⟩⟩, fun h => h.2.2⟩
        · rw [decide_eq_false hs, br_f, decide_eq_false (show ¬ (isSol f a ∧ isSol f b) from fun h => hs h.1.2)]
      · rw [Bool.eq_false_iff.2 hq2, br_f, decide_eq_false (show ¬ (isSol f a ∧ isSol f b) from fun h => hq2 h.2.1.2)]
    · rw [Bool.eq_false_iff.2 hq, br_f, decide_eq_false (show ¬ (isSol f a ∧ isSol f b) from fun h => hq h.1.1.2)]
  · rw [decide_eq_false hg, br_f, decide_eq_false (show ¬ (isSol f a ∧ isSol f b) from fun h => hg h.1.1.1)]
noncomputable def fwayS (f : Int × List (List Int)) (a b : List Int) : List (List Int) := wayS (solsL f) (stepsL isCh (solsL f)) a b
theorem fway_ok {f : Int × List (List Int)} {a b : List Int} (ha : isSol f a) (hb : isSol f b) : (fwayS f a b).length ≤ 64 ∧ (fwayS f a b).Nodup ∧ (∀ x ∈ fwayS f a b, x.length = f.1.toNat) ∧ f.1.toNat ≤ 6 := by
  have hg := ha.1.1.1
  have h6 : f.1.toNat ≤ 6 := by omega
  obtain ⟨s1, s2, s3, s4⟩ := sols_ok h6 (fun b => decide (solves b f.2))
  have s3 : (solsL f).length ≤ 64 := s3
  have ma := sol_mem ha
  have mb := sol_mem hb
  have hok := stepsL_ok (p := isCh) (xs := solsL f)
  exact ⟨Nat.le_trans (wayS_len (by omega) hok ma mb) s3, wayS_nodup s1 (by omega) hok ma mb, fun x hx => s2 x (wayS_in (by omega) hok ma mb x hx), h6⟩
theorem l6Way_eq {N : Nat} (hNe : N = 1048577) {f : Int × List (List Int)} {a b : List Int} (hl : f.2.length ≤ 1048576) (hc : ∀ c ∈ f.2, c.length ≤ 1048576) (ha : isSol f a) (hb : isSol f b) : spec_l6Way N f a b = some ((fwayS f a b, ()), ()) := by
  have hN : 1048577 ≤ N := by omega
  have hg := ha.1.1.1
  have h6 : f.1.toNat ≤ 6 := by omega
  obtain ⟨s1, s2, s3, s4⟩ := sols_ok h6 (fun b => decide (solves b f.2))
  obtain ⟨b1, _⟩ := space_both (N := N) h6 (fun b => decide (solves b f.2)) hN
  have ma := sol_mem ha
  have mb := sol_mem hb
  have hok := stepsL_ok (p := isCh) (xs := solsL f)
  have s3 : (solsL f).length ≤ 64 := s3
  have s2 : ∀ x ∈ solsL f, x.length ≤ 1048576 := fun x hx => by have := s2 x hx; omega
  have hst : (stepsL isCh (solsL f)).length ≤ 1048576 := by
    have h3 := stepsL_len isCh (solsL f)
    have h4 : (solsL f).length * (solsL f).length ≤ 64 * 64 := Nat.mul_le_mul s3 s3
    omega
  unfold spec_l6Way
  simp only [show ((f.1, f.2) : Int × List (List Int)) = f from rfl]
  rw [spec_sols_eq hNe ha.1.1 hl hc, bind_some']
  simp only []
  unfold solsL at *
  rw [b1, bind_some']
  simp only []
  rw [index_in (by omega) s2 ma hN, bind_some', index_in (by omega) s2 mb hN, bind_some']
  simp only []
  rw [l2Walk_eq (by omega) hst hok (idx_lt ma) (idx_lt mb) hN, bind_some']
  simp only []
  have hwl := wayI_len (by omega) hok (idx_lt ma) (idx_lt mb)
  rw [named_eq s2 (wayI_in (by omega) hok (idx_lt ma) (idx_lt mb)) (by omega) hN, bind_some']
  rfl
noncomputable def fwayV (f : Int × List (List Int)) (a b : List Int) : List Int × Bool := if isSol f a ∧ isSol f b then (diffsL (fwayS f a b), decide (fwayS f a b ≠ [])) else ([], false)
theorem impl_FlipWay_eq {N : Nat} (hNe : N = 1048577) {f : Int × List (List Int)} {a b : List Int} (hl : f.2.length ≤ 1048576) (hc : ∀ c ∈ f.2, c.length ≤ 1048576) (ha : a.length ≤ 1048576) (hb : b.length ≤ 1048576) : impl_FlipWay N f a b = some (((fwayV f a b).1, (fwayV f a b).2, ()), ()) := by
  have hN : 1048577 ≤ N := by omega
  unfold impl_FlipWay fwayV
  simp only [show ((f.1, f.2) : Int × List (List Int)) = f from rfl]
  rw [impl_isSolution_eq hl hc ha hN, impl_isSolution_eq hl hc hb hN, bind_some', bind_some']
  by_cases h1 : isSol f a
  · rw [decide_eq_true h1]
    simp only [Bool.not_true, br_f]
    by_cases h2 : isSol f b
    · rw [decide_eq_true h2, if_pos ⟨h1, h2⟩]
      simp only [Bool.not_true, br_f]
      have hg := h1.1.1.1
      have h6 : f.1.toNat ≤ 6 := by omega
      obtain ⟨s1, s2, s3, s4⟩ := sols_ok h6 (fun b => decide (solves b f.2))
      obtain ⟨_, b2⟩ := space_both (N := N) h6 (fun b => decide (solves b f.2)) hN
      have ma := sol_mem h1
      have mb := sol_mem h2
      have hok := stepsL_ok (p := isCh) (xs := solsL f)
      have s3 : (solsL f).length ≤ 64 := s3
      have hst : (stepsL isCh (solsL f)).length ≤ 1048576 := by
        have h3 := stepsL_len isCh (solsL f)
        have h4 : (solsL f).length * (solsL f).length ≤ 64 * 64 := Nat.mul_le_mul s3 s3
        omega
      obtain ⟨w1, w2, w3, w4⟩ := fway_ok h1 h2
      unfold impl_Formula_flips
      simp only [show ((f.1, f.2) : Int × List (List Int)) = f from rfl]
      rw [impl_sols_eq h1.1.1 hl hc hN, bind_some']
      simp only []
      have b2' : impl_spaceOf N (solsL f) (fun y0 y1 => (impl_isChange N y0 y1).bind fun z => some z.1.1) = some (((solsL f, stepsL isCh (solsL f)), ()), ()) := b2
      rw [b2', bind_some', bind_some']
      simp only []
      rw [walk_eq (show lexSorted (solsL f) from s1) (fun x hx => by have := s2 x hx; omega) (by omega) hst hok ma mb hN, bind_some']
      simp only []
      show (br (!(decide (fwayS f a b ≠ []))) _ (impl_FlipWay_l0 N _ N 1 (fwayS f a b) [])) = _
      by_cases he : fwayS f a b = []
      · rw [decide_eq_false (not_not_intro he)]
        simp only [Bool.not_false, br_t]
        rw [he]
        rfl
      · rw [decide_eq_true he]
        simp only [Bool.not_true, br_f]
        rw [impl_diffs w2 (by omega) w3 (by omega) hN]
    · rw [decide_eq_false h2, if_neg (fun h => h2 h.2)]
      rfl
  · rw [decide_eq_false h1, if_neg (fun h => h1 h.1)]
    rfl
noncomputable def fdistV (f : Int × List (List Int)) (a b : List Int) : Int × Bool := (((fwayV f a b).1.length : Int), (fwayV f a b).2)
theorem spec_FlipDistance_eq {N : Nat} (hNe : N = 1048577) {f : Int × List (List Int)} {a b : List Int} (hl : f.2.length ≤ 1048576) (hc : ∀ c ∈ f.2, c.length ≤ 1048576) (ha : a.length ≤ 1048576) (hb : b.length ≤ 1048576) : spec_FlipDistance N f a b = some (((fdistV f a b).1, (fdistV f a b).2, ()), ()) := by
  have hN : 1048577 ≤ N := by omega
  unfold spec_FlipDistance fdistV fwayV
  simp only [show ((f.1, f.2) : Int × List (List Int)) = f from rfl]
  rw [l6Two_ab hl hc ha hb hN, bind_some']
  by_cases h1 : isSol f a ∧ isSol f b
  · rw [decide_eq_true h1, if_pos h1]
    simp only [Bool.not_true, br_f]
    obtain ⟨w1, w2, w3, w4⟩ := fway_ok h1.1 h1.2
    rw [l6Way_eq hNe hl hc h1.1 h1.2, bind_some']
    simp only [diffsL_len, tLen_n]
    by_cases he : fwayS f a b = []
    · rw [he]
      rfl
    · have h0 : 0 < (fwayS f a b).length := List.length_pos_iff.2 he
      rw [ieq_f (by omega), br_f, wrap_pred (by omega) h0, decide_eq_true he]
  · rw [decide_eq_false h1, if_neg h1]
    rfl
theorem mem_stepsL {p : List Int → List Int → Bool} {xs : List (List Int)} {e : Int × Int} : e ∈ stepsL p xs ↔ ∃ i j : Nat, e = ((i : Int), (j : Int)) ∧ i < j ∧ j < xs.length ∧ p (rdL xs (i : Int)) (rdL xs (j : Int)) = true := by
  unfold stepsL rowSteps
  rw [List.mem_flatMap]
  constructor
  · rintro ⟨i, hi, he⟩
    obtain ⟨j, hj, rfl⟩ := List.mem_map.1 he
    obtain ⟨h1, h2⟩ := List.mem_filter.1 hj
    have := List.mem_range'_1.1 h1
    exact ⟨i, j, rfl, by omega, by omega, h2⟩
  · rintro ⟨i, j, rfl, h1, h2, h3⟩
    exact ⟨i, List.mem_range'_1.2 (by omega), List.mem_map.2 ⟨j, List.mem_filter.2 ⟨List.mem_range'_1.2 (by omega), h3⟩, rfl⟩⟩
/-! ### A node added or taken away -/
theorem Wk_trans {L : List (List Int)} {x y z : Int} (h1 : Wk L x y) (h2 : Wk L y z) : Wk L x z := by
  induction h2 with
  | base => exact h1
  | step _ h ih => exact .step ih h
theorem wk_wl {L : List (List Int)} {x y : Int} (h : Wk L x y) : ∃ k, Wl L x k y := by
  induction h with
  | base => exact ⟨0, .base⟩
  | step _ hz ih =>
    obtain ⟨k, hk⟩ := ih
    exact ⟨k + 1, .step hk hz⟩
theorem way_some {xs : List (List Int)} {st : List (Int × Int)} {a b : List Int} (hn : xs.length ≤ 1048576) (h : okSt xs.length st) (ha : a ∈ xs) (hb : b ∈ xs) : wayS xs st a b ≠ [] ↔ Wk (nbL xs.length st) ((xs.idxOf b : Nat) : Int) ((xs.idxOf a : Nat) : Int) := by
  have hl := nbL_ok hn h
  obtain ⟨s1, s2, s3, s4, s5, s6⟩ := bfsD_spec hl (in_nat (idx_lt hb))
  unfold wayS wayI
  by_cases hlt : rdI (bfsD (nbL xs.length st) xs.length ((xs.idxOf b : Nat) : Int)) ((xs.idxOf a : Nat) : Int) < 0
  · rw [if_pos hlt]
    refine ⟨fun h => absurd rfl h, fun hw => ?_⟩
    obtain ⟨k, hk⟩ := wk_wl hw
    have := (s6 _ _ hk).2.1
    omega
  · rw [if_neg hlt]
    refine ⟨fun _ => ?_, fun _ => by simp⟩
    have hw := s5 _ (in_nat (idx_lt ha)) (by omega)
    have key : ∀ {k : Nat} {y : Int}, Wl (nbL xs.length st) ((xs.idxOf b : Nat) : Int) k y → Wk (nbL xs.length st) ((xs.idxOf b : Nat) : Int) y := by
      intro k y hk
      induction hk with
      | base => exact .base
      | step _ hz ih => exact .step ih hz
    exact key hw
def CurOk (code : List Int) (k : Nat) (c : List Int × (Int × Int)) : Prop := c.1 = code ∧ 0 ≤ c.2.1 ∧ c.2.1 ≤ (k : Int)
def codeOk (code : List Int) : Prop := code.length ≤ 1048576 ∧ ∀ x ∈ code, 0 ≤ x ∧ x ≤ 255
theorem cur_mono {code : List Int} {k l : Nat} {c : List Int × (Int × Int)} (h : CurOk code k c) (hl : k ≤ l) : CurOk code l c := ⟨h.1, h.2.1, by have := h.2.2; omega⟩
theorem u8_and (x : Int) : 0 ≤ IntKind.i64.wrap (bitop .and .u64 x 255) ∧ IntKind.i64.wrap (bitop .and .u64 x 255) ≤ 255 := by
  have h : ∃ n : Nat, bitop .and .u64 x 255 = (n : Int) ∧ n ≤ 255 := by
    unfold bitop
    simp only []
    have e : (BitVec.ofInt IntKind.u64.bits x &&& BitVec.ofInt IntKind.u64.bits 255).toNat = (BitVec.ofInt IntKind.u64.bits x).toNat &&& 255 := by
      rw [BitVec.toNat_and]; rfl
    have hle : (BitVec.ofInt IntKind.u64.bits x).toNat &&& 255 ≤ 255 := Nat.and_le_right
    refine ⟨(BitVec.ofInt IntKind.u64.bits x).toNat &&& 255, ?_, hle⟩
    rw [e]
    unfold IntKind.wrap
    simp only [IntKind.signed, IntKind.bits]
    have : (((BitVec.ofInt 64 x).toNat &&& 255 : Nat) : Int) % 2 ^ 64 = (((BitVec.ofInt 64 x).toNat &&& 255 : Nat) : Int) := by
      refine Int.emod_eq_of_lt (by omega) ?_
      have : (BitVec.ofInt 64 x).toNat &&& 255 ≤ 255 := Nat.and_le_right
      omega
    simpa using this
  obtain ⟨n, h1, h2⟩ := h
  rw [h1, wrap_ok (by omega) (by omega)]
  omega
theorem next_ok {N : Nat} {code : List Int} {k : Nat} {c : List Int × (Int × Int)} (hco : codeOk code) (h : CurOk code k c) (hk : k ≤ 1000000000) : ∃ x c', spec_l1Cur_next N c = some ((x, ()), (c', ())) ∧ CurOk code (k + 1) c' ∧ 0 ≤ x ∧ x ≤ 255 := by
  obtain ⟨cd, at', seed⟩ := c
  obtain ⟨h1, h2, h3⟩ := h
  simp only at h1 h2 h3
  subst h1
  have hw : IntKind.i64.wrap (at' + 1) = at' + 1 := wrap_ok (by omega) (by omega)
  unfold spec_l1Cur_next
  simp only [hw]
  by_cases hlt : at' < (cd.length : Int)
  · obtain ⟨n, rfl⟩ := Int.eq_ofNat_of_zero_le h2
    have hn : n < cd.length := by omega
    have hb := hco.2 _ (List.getElem_mem hn)
    have hrd : rd U8 cd (n : Int) = cd[n] := by
      unfold rd
      rw [Int.toNat_natCast, List.getD_eq_getElem?_getD, List.getElem?_eq_getElem hn]
      rfl
    rw [ilt_len hn, br_t, inb_n hn, chk_t, hrd]
    by_cases hle : (n : Int) + 1 ≤ (cd.length : Int)
    · rw [tLen_n, ile_t hle, br_t]
      refine ⟨_, _, rfl, ⟨rfl, by show (0 : Int) ≤ (n : Int) + 1; omega, by show (n : Int) + 1 ≤ ((k + 1 : Nat) : Int); omega⟩, ?_⟩
      rw [wrap_ok (by omega) (by omega)]
      exact hb
    · omega
  · rw [tLen_n, ilt_f hlt, br_f]
    by_cases hle : at' + 1 ≤ (cd.length : Int)
    · rw [ile_t hle, br_t]
      exact ⟨_, _, rfl, ⟨rfl, by show (0 : Int) ≤ at' + 1; omega, by show at' + 1 ≤ ((k + 1 : Nat) : Int); omega⟩, by omega, by omega⟩
    · rw [ile_f hle, br_f]
      exact ⟨_, _, rfl, ⟨rfl, by show (0 : Int) ≤ at' + 1; omega, by show at' + 1 ≤ ((k + 1 : Nat) : Int); omega⟩, u8_and _⟩
theorem tmod_in {x n : Int} (hx : 0 ≤ x) (hn : 1 ≤ n) : 0 ≤ x.tmod n ∧ x.tmod n < n ∧ x.tmod n ≤ x := by
  obtain ⟨a, rfl⟩ := Int.eq_ofNat_of_zero_le hx
  obtain ⟨b, rfl⟩ := Int.eq_ofNat_of_zero_le (show 0 ≤ n by omega)
  have e : ((a : Int)).tmod (b : Int) = ((a % b : Nat) : Int) := rfl
  rw [e]
  have := Nat.mod_lt a (show 0 < b by omega)
  have := Nat.mod_le a b
  omega
theorem pick_ok {N : Nat} {code : List Int} {k : Nat} {c : List Int × (Int × Int)} (hco : codeOk code) (h : CurOk code k c) (hk : k ≤ 1000000) (n : Int) : ∃ x c', spec_l1Cur_pick N c n = some ((x, ()), (c', ())) ∧ CurOk code (k + 2) c' ∧ 0 ≤ x ∧ x ≤ 65535 ∧ (1 ≤ n → x < n) := by
  unfold spec_l1Cur_pick
  by_cases h1 : n ≤ 1
  · rw [ile_t h1, br_t]
    exact ⟨_, _, rfl, cur_mono h (by omega), by omega, by omega, fun h => by omega⟩
  · rw [ile_f h1, br_f]
    obtain ⟨x, c', e1, e2, e3, e4⟩ := next_ok (N := N) hco h (by omega)
    rw [e1, bind_some']
    simp only []
    by_cases h2 : 200 < n
    · rw [ilt_t h2, br_t]
      obtain ⟨y, c2, f1, f2, f3, f4⟩ := next_ok (N := N) hco e2 (by omega)
      rw [f1, bind_some', ine_t (show n ≠ 0 by omega), chk_t]
      simp only []
      rw [wrap_ok (n := x * 256) (by omega) (by omega), wrap_ok (by omega) (by omega)]
      have := tmod_in (x := x * 256 + y) (n := n) (by omega) (by omega)
      exact ⟨_, _, rfl, f2, by omega, by omega, fun _ => by omega⟩
    · rw [ilt_f h2, br_f, ine_t (show n ≠ 0 by omega), chk_t]
      have := tmod_in (x := x) (n := n) (by omega) (by omega)
      exact ⟨_, _, rfl, cur_mono e2 (by omega), by omega, by omega, fun _ => by omega⟩
theorem among_ok {N : Nat} {code : List Int} {k : Nat} {c : List Int × (Int × Int)} (hco : codeOk code) (h : CurOk code k c) (hk : k ≤ 1000000) {l : List Int} (hl : l ≠ []) : ∃ x c', spec_l1Cur_among N c l = some ((x, ()), (c', ())) ∧ CurOk code (k + 2) c' ∧ x ∈ l := by
  unfold spec_l1Cur_among
  have hp : 0 < l.length := List.length_pos_iff.2 hl
  obtain ⟨x, c', e1, e2, e3, e4, e5⟩ := pick_ok (N := N) hco h hk (tLen l)
  rw [e1, bind_some']
  simp only []
  rw [tLen_n] at e5
  obtain ⟨n, rfl⟩ := Int.eq_ofNat_of_zero_le e3
  have hn : n < l.length := by have := e5 (by omega); omega
  rw [inb_n hn, chk_t, rdI_n hn]
  exact ⟨_, _, rfl, e2, List.getElem_mem hn⟩
theorem one_ok {N : Nat} {code : List Int} {k : Nat} {c : List Int × (Int × Int)} (hco : codeOk code) (h : CurOk code k c) (hk : k ≤ 1000000) (n : Int) : ∃ b c', spec_l1Cur_one N c n = some ((b, ()), (c', ())) ∧ CurOk code (k + 2) c' := by
  unfold spec_l1Cur_one
  obtain ⟨x, c', e1, e2, _⟩ := pick_ok (N := N) hco h hk n
  rw [e1, bind_some']
  exact ⟨_, _, rfl, e2⟩
theorem cur0 {code : List Int} : CurOk code 0 (code, (0, 0)) := ⟨rfl, Int.le_refl _, by simp⟩
theorem code_ok {x : List Int} (h : ∀ y ∈ x, (Lit.int .u8 y).wf = true) (hl : x.length ≤ 65536) : codeOk x := by
  refine ⟨by omega, fun y hy => ?_⟩
  have := h y hy
  simp [Lit.wf, IntKind.min, IntKind.max, IntKind.signed, IntKind.bits] at this
  omega
def listsOk (n m : Nat) (l : List (List Int)) : Prop := l.length ≤ n ∧ ∀ x ∈ l, x.length ≤ m
theorem f_in {R : Type} {N : Nat} {code : List Int} (hco : codeOk code) (hN : 1048577 ≤ N) {k0 : Int → Int → List Int × (Int × Int) → Int → Int → List Int → List (List Int) → Option R} {x2 x3 x4 o5 o6 : Int} {o8 : List (List Int)} (hx4 : x4 ≤ 10) :
    ∀ (d : Nat) (x5 : Int) (K k : Nat) (c : List Int × (Int × Int)) (o : List Int), x5 + (d : Int) = x4 → d < K → 0 ≤ x5 → CurOk code k c → k + 4 * d ≤ 900000 → o.length + d ≤ 1000 →
      ∃ c' o', spec_l1Cur_formula_l0_0 N k0 K x2 x3 x4 x5 c o5 o6 o o8 = k0 x2 x3 c' o5 o6 o' o8 ∧ CurOk code (k + 4 * d) c' ∧ o'.length ≤ o.length + d := by
  intro d
  induction d with
  | zero =>
    intro x5 K k c o hd hK h0 hc hk ho
    obtain ⟨K, rfl⟩ := succ_of hK
    refine ⟨c, o, ?_, hc, by omega⟩
    simp only [spec_l1Cur_formula_l0_0, ilt_f (show ¬ x5 < x4 by omega), br_f]
  | succ d ih =>
    intro x5 K k c o hd hK h0 hc hk ho
    obtain ⟨K, rfl⟩ := succ_of hK
    have hw : IntKind.i64.wrap (x5 + 1) = x5 + 1 := wrap_ok (by omega) (by omega)
    simp only [spec_l1Cur_formula_l0_0, ilt_t (show x5 < x4 by omega), br_t, hw]
    obtain ⟨x, c1, e1, e2, _⟩ := pick_ok (N := N) hco hc (by omega) o6
    obtain ⟨b, c2, f1, f2⟩ := one_ok (N := N) hco e2 (by omega) 2
    simp only [e1, f1, bind_some', l1Most_eq, l1Put_eq (show o.length ≤ 1048576 by omega) hN]
    have G : ∀ (b : Bool) (x y : Option R), (∃ c' o', x = k0 x2 x3 c' o5 o6 o' o8 ∧ CurOk code (k + 4 * (d + 1)) c' ∧ o'.length ≤ o.length + (d + 1)) → (∃ c' o', y = k0 x2 x3 c' o5 o6 o' o8 ∧ CurOk code (k + 4 * (d + 1)) c' ∧ o'.length ≤ o.length + (d + 1)) → ∃ c' o', br b x y = k0 x2 x3 c' o5 o6 o' o8 ∧ CurOk code (k + 4 * (d + 1)) c' ∧ o'.length ≤ o.length + (d + 1) := by
      intro b x y h1 h2
      cases b
      · exact h2
      · exact h1
    have recl : ∀ o' : List Int, o'.length ≤ o.length + 1 → ∃ c' o'', spec_l1Cur_formula_l0_0 N k0 K x2 x3 x4 (x5 + 1) c2 o5 o6 o' o8 = k0 x2 x3 c' o5 o6 o'' o8 ∧ CurOk code (k + 4 * (d + 1)) c' ∧ o''.length ≤ o.length + (d + 1) := by
      intro o' ho'
      obtain ⟨c', o'', q1, q2, q3⟩ := ih (x5 + 1) K (k + 2 + 2) c2 o' (by omega) (by omega) (by omega) f2 (by omega) (by omega)
      exact ⟨c', o'', q1, cur_mono q2 (by omega), by omega⟩
    have put : ∀ v : Int, (putI v o).length ≤ o.length + 1 := fun v => putI_len v o
    repeat' first
      | exact recl _ (put _)
      | exact recl _ (Nat.le_succ _)
      | refine G _ _ _ ?_ ?_
    exact ⟨c, o, rfl, cur_mono hc (by omega), by omega⟩
theorem f_out {R : Type} {N : Nat} {code : List Int} (hco : codeOk code) (hN : 1048577 ≤ N) {k0 : List Int × (Int × Int) → Int → Int → List (List Int) → Option R} {x o1 o2 : Int} :
    ∀ (d K k : Nat) (c : List Int × (Int × Int)) (o : List (List Int)), d < K → CurOk code k c → k + 20 * d ≤ 900000 → listsOk (1000 - d) 5 o → d ≤ 100 →
      ∃ c' o', spec_l1Cur_formula_l0 N k0 K x (d : Int) c o1 o2 o = k0 c' o1 o2 o' ∧ CurOk code (k + 20 * d) c' ∧ listsOk (o.length + d) 5 o' := by
  intro d
  induction d with
  | zero =>
    intro K k c o hK hc hk ho hd
    obtain ⟨K, rfl⟩ := succ_of hK
    refine ⟨c, o, ?_, hc, Nat.le_refl _, ho.2⟩
    simp only [spec_l1Cur_formula_l0, ilt_f (show ¬ (0 : Int) < ((0 : Nat) : Int) by omega), br_f]
  | succ d ih =>
    intro K k c o hK hc hk ho hd
    obtain ⟨K, rfl⟩ := succ_of hK
    simp only [spec_l1Cur_formula_l0, ilt_t (show (0 : Int) < ((d + 1 : Nat) : Int) by omega), br_t]
    obtain ⟨y, c1, e1, e2, e3, e4, e5⟩ := pick_ok (N := N) hco hc (by omega) 3
    have e5 := e5 (by omega)
    have hw : IntKind.i64.wrap (1 + y) = 1 + y := wrap_ok (by omega) (by omega)
    rw [e1, bind_some']
    simp only [hw]
    obtain ⟨n, hn⟩ : ∃ n : Nat, 1 + y = (n : Int) := ⟨(1 + y).toNat, by omega⟩
    have hp : IntKind.i64.wrap (((d + 1 : Nat) : Int) - 1) = (d : Int) := by rw [wrap_ok (by omega) (by omega)]; omega
    obtain ⟨c2, o2', q1, q2, q3⟩ := f_in (R := R) (N := N) hco hN (k0 := fun x2 x3 o4 o5 o6 o7 o8 => (br (ilt 0 (tLen o7))
          ((chk (room o8 [o7])
            (spec_l1Cur_formula_l0 N k0 K x2 (IntKind.i64.wrap (x3 - 1)) o4 o5 o6 (tApp o8 [o7]))))
          (((spec_l1Cur_one N o4 8).bind fun r4 =>
            (br r4.1.1
              ((chk (room o8 [o7])
                (spec_l1Cur_formula_l0 N k0 K x2 (IntKind.i64.wrap (x3 - 1)) r4.2.1 o5 o6 (tApp o8 [o7]))))
              (spec_l1Cur_formula_l0 N k0 K x2 (IntKind.i64.wrap (x3 - 1)) r4.2.1 o5 o6 o8)))))) (x2 := x) (x3 := ((d + 1 : Nat) : Int)) (x4 := 1 + y) (o5 := o1) (o6 := o2) (o8 := o) (by omega) n 0 N (k + 2) c1 [] (by omega) (by omega) (by omega) e2 (by omega) (by simp; omega)
    rw [q1]
    simp only [hp]
    simp only [List.length_nil, Nat.zero_add] at q3
    have add : ∀ (kk : Nat) (c : List Int × (Int × Int)), CurOk code kk c → kk ≤ k + 18 → ∃ c' o', (chk (room o [o2']) (spec_l1Cur_formula_l0 N k0 K x (d : Int) c o1 o2 (tApp o [o2']))) = k0 c' o1 o2 o' ∧ CurOk code (k + 20 * (d + 1)) c' ∧ listsOk (o.length + (d + 1)) 5 o' := by
      intro kk c hc hkk
      have hol := ho.1
      rw [room_ok (by simp; omega), chk_t, tApp_d]
      obtain ⟨c', o', r1, r2, r3, r4⟩ := ih K kk c (o ++ [o2']) (by omega) hc (by omega) ⟨by simp; omega, fun z hz => by
        rcases List.mem_append.1 hz with hz | hz
        · exact ho.2 z hz
        · rw [List.mem_singleton] at hz; subst hz; omega⟩ (by omega)
      exact ⟨c', o', r1, cur_mono r2 (by omega), by simp at r3; omega, r4⟩
    by_cases hz : 0 < tLen o2'
    · rw [ilt_t hz, br_t]
      exact add _ c2 q2 (by omega)
    · rw [ilt_f hz, br_f]
      obtain ⟨b, c3, f1, f2⟩ := one_ok (N := N) hco q2 (by omega) 8
      rw [f1, bind_some']
      simp only []
      cases b with
      | true => rw [br_t]; exact add _ c3 f2 (by omega)
      | false =>
        rw [br_f]
        obtain ⟨c', o', r1, r2, r3, r4⟩ := ih K (k + 2 + 4 * n + 2) c3 o (by omega) f2 (by omega) ⟨by have := ho.1; omega, ho.2⟩ (by omega)
        exact ⟨c', o', r1, cur_mono r2 (by omega), by omega, r4⟩
end Go.Proofs.YtaodifjegdpifaaGreat
