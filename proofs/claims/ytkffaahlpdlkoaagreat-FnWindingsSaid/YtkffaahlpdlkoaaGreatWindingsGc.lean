/- Statements on data alone. -/
import Derived.Test.YtkffaahlpdlkoaaGreatPvPure
import Derived.Test.YtkffaahlpdlkoaaGreatWindingsGb
set_option linter.all false
set_option linter.all false
namespace Go.Proofs.YtkffaahlpdlkoaaGreat
open Go Go.PV Classical
theorem colSteps_le {g : Int × List (Int × Int)} {k : Int} (h : colCase g k) (hl : (allC g k).length ≤ 300) : (stepsL isCh (allC g k)).length ≤ 4800 := by
  obtain ⟨s1, s2⟩ := allC_sorted g k
  have hr := allC_rows (g := g) (k := k)
  have hg := h.1.1
  have hk := h.2
  have := steps_half (p := isCh) (xs := allC g k) (B := 32) (fun a ha b hb => by unfold isCh; rw [apartL_symm (by rw [hr a ha, hr b hb])]) fun i hi => by
    have hi' : rdL (allC g k) (i : Int) ∈ allC g k := by rw [rdL_n hi]; exact List.getElem_mem hi
    refine Nat.le_trans (numP_le (p := fun b => isCh (rdL (allC g k) (i : Int)) b) (lexSorted_nodup s1) fun b hb hc => isCh_mem (by rw [hr _ hi', hr b hb]) (s2 b hb) hc) ?_
    refine Nat.le_trans (changesL_len (s2 _ hi')) ?_
    rw [hr _ hi']
    exact Nat.le_trans (Nat.mul_le_mul (show g.1.toNat ≤ 8 by omega) (show k.toNat - 1 ≤ 4 by omega)) (by omega)
  omega
theorem orNone_eq {N : Nat} {x : List (List Int) × List (Int × Int)} (h1 : x.1.length ≤ 300) (h2 : x.2.length ≤ 6000) : impl_orNone N x = some ((x, true, ()), ()) := by
  unfold impl_orNone
  rw [tLen_n, tLen_n, ilt_f (by omega), br_f, ilt_f (by omega), br_f]
noncomputable def colSpV (g : Int × List (Int × Int)) (k : Int) : (List (List Int) × List (Int × Int)) × Bool := if colCase g k ∧ (allC g k).length ≤ 300 then ((allC g k, stepsL isCh (allC g k)), true) else (([], []), false)
def okSt (n : Nat) (st : List (Int × Int)) : Prop := (st.Pairwise fun a b => a.1 < b.1 ∨ (a.1 = b.1 ∧ a.2 < b.2)) ∧ ∀ e ∈ st, 0 ≤ e.1 ∧ e.1 < e.2 ∧ e.2 < (n : Int)
noncomputable def nbA (st : List (Int × Int)) (v : Int) : List Int := (st.filter fun e => decide (e.2 = v)).map Prod.fst
noncomputable def nbB (st : List (Int × Int)) (v : Int) : List Int := (st.filter fun e => decide (e.1 = v)).map Prod.snd
noncomputable def nbS (st : List (Int × Int)) (v : Int) : List Int := nbA st v ++ nbB st v
noncomputable def nbT (st : List (Int × Int)) (v : Int) : List Int := st.flatMap fun e => (if e.1 = v then [e.2] else []) ++ (if e.2 = v then [e.1] else [])
noncomputable def nbL (n : Nat) (st : List (Int × Int)) : List (List Int) := (List.range n).map fun i : Nat => nbS st (i : Int)
theorem okSt_cons {n : Nat} {e : Int × Int} {st : List (Int × Int)} (h : okSt n (e :: st)) : okSt n st := ⟨(List.pairwise_cons.1 h.1).2, fun e' he' => h.2 e' (List.mem_cons_of_mem _ he')⟩
theorem nbT_eq {n : Nat} : ∀ {st : List (Int × Int)} {v : Int}, okSt n st → nbT st v = nbS st v := by
  intro st v
  induction st with
  | nil => intro _; rfl
  | cons e st ih =>
    intro h
    have ih := ih (okSt_cons h)
    have h1 := h.2 e (List.mem_cons_self ..)
    have h2 := (List.pairwise_cons.1 h.1).1
    unfold nbT at ih ⊢
    rw [List.flatMap_cons, ih]
    unfold nbS nbA nbB
    by_cases he : e.1 = v
    · have hne : ¬ e.2 = v := by omega
      have hnil : (st.filter fun e => decide (e.2 = v)) = [] := List.filter_eq_nil_iff.2 fun b hb => by
        have hb1 := h2 b hb
        have hb2 := h.2 b (List.mem_cons_of_mem _ hb)
        simp only [decide_eq_true_eq]
        omega
      rw [if_pos he, if_neg hne, List.filter_cons_of_neg (by simp [hne]), List.filter_cons_of_pos (by simp [he]), hnil]
      rfl
    · by_cases he2 : e.2 = v
      · rw [if_neg he, if_pos he2, List.filter_cons_of_pos (by simp [he2]), List.filter_cons_of_neg (by simp [he])]
        rfl
      · rw [if_neg he, if_neg he2, List.filter_cons_of_neg (by simp [he2]), List.filter_cons_of_neg (by simp [he])]
        rfl
theorem nbS_strict {n : Nat} {st : List (Int × Int)} {v : Int} (h : okSt n st) : (nbS st v).Pairwise (· < ·) := by
  unfold nbS nbA nbB
  refine List.pairwise_append.2 ⟨?_, ?_, ?_⟩
  · refine List.pairwise_map.2 ((h.1.filter _).imp_of_mem fun {a b} ha hb hab => ?_)
    have e1 := of_decide_eq_true (List.mem_filter.1 ha).2
    have e2 := of_decide_eq_true (List.mem_filter.1 hb).2
    omega
  · refine List.pairwise_map.2 ((h.1.filter _).imp_of_mem fun {a b} ha hb hab => ?_)
    have e1 := of_decide_eq_true (List.mem_filter.1 ha).2
    have e2 := of_decide_eq_true (List.mem_filter.1 hb).2
    omega
  · intro a ha b hb
    obtain ⟨a', ha1, rfl⟩ := List.mem_map.1 ha
    obtain ⟨b', hb1, rfl⟩ := List.mem_map.1 hb
    have e1 := of_decide_eq_true (List.mem_filter.1 ha1).2
    have e2 := of_decide_eq_true (List.mem_filter.1 hb1).2
    have l1 := h.2 a' (List.mem_filter.1 ha1).1
    have l2 := h.2 b' (List.mem_filter.1 hb1).1
    omega
theorem nbS_in {n : Nat} {st : List (Int × Int)} {v : Int} (h : okSt n st) : ∀ z ∈ nbS st v, InN n z := by
  intro z hz
  unfold nbS nbA nbB at hz
  rcases List.mem_append.1 hz with hz | hz
  · obtain ⟨a, ha, rfl⟩ := List.mem_map.1 hz
    have := h.2 a (List.mem_filter.1 ha).1
    exact ⟨by omega, by omega⟩
  · obtain ⟨a, ha, rfl⟩ := List.mem_map.1 hz
    have := h.2 a (List.mem_filter.1 ha).1
    exact ⟨by omega, by omega⟩
theorem nbS_len {n : Nat} {st : List (Int × Int)} {v : Int} (h : okSt n st) : (nbS st v).length ≤ n :=
  inM_len ⟨strict_nodup (nbS_strict h), nbS_in h⟩
theorem mem_nbS {n : Nat} {st : List (Int × Int)} {v w : Int} (h : okSt n st) : w ∈ nbS st v ↔ (w, v) ∈ st ∨ (v, w) ∈ st := by
  unfold nbS nbA nbB
  rw [List.mem_append, List.mem_map, List.mem_map]
  constructor
  · rintro (⟨a, ha, rfl⟩ | ⟨a, ha, rfl⟩)
    · have e1 := of_decide_eq_true (List.mem_filter.1 ha).2
      refine .inl ?_
      rw [← e1]
      exact (List.mem_filter.1 ha).1
    · have e1 := of_decide_eq_true (List.mem_filter.1 ha).2
      refine .inr ?_
      rw [← e1]
      exact (List.mem_filter.1 ha).1
  · rintro (ha | ha)
    · exact .inl ⟨_, List.mem_filter.2 ⟨ha, by simp⟩, rfl⟩
    · exact .inr ⟨_, List.mem_filter.2 ⟨ha, by simp⟩, rfl⟩
theorem nbL_rd {n : Nat} {st : List (Int × Int)} {v : Int} (hv : InN n v) : rdL (nbL n st) v = nbS st v := by
  obtain ⟨i, hi, rfl⟩ := nat_of hv
  rw [rdL_n (by simp [nbL]; exact hi)]
  simp [nbL]
theorem nbL_ok {n : Nat} {st : List (Int × Int)} (hn : n ≤ 1048576) (h : okSt n st) : okLists (nbL n st) n := by
  refine ⟨by simp [nbL], fun l hl => ?_⟩
  obtain ⟨i, _, rfl⟩ := List.mem_map.1 hl
  exact ⟨Nat.le_trans (nbS_len h) hn, nbS_in h⟩
theorem stepsL_ok {p : List Int → List Int → Bool} {xs : List (List Int)} : okSt xs.length (stepsL p xs) := by
  have hin : ∀ i, i < xs.length → ∀ e ∈ rowSteps p xs i, e.1 = (i : Int) ∧ e.1 < e.2 ∧ e.2 < (xs.length : Int) := by
    intro i hi e he
    unfold rowSteps at he
    obtain ⟨j, hj, rfl⟩ := List.mem_map.1 he
    have := List.mem_range'_1.1 (List.mem_filter.1 hj).1
    refine ⟨rfl, ?_, ?_⟩
    · show (i : Int) < (j : Int)
      omega
    · show (j : Int) < _
      omega
  constructor
  · unfold stepsL
    rw [List.pairwise_flatMap]
    refine ⟨fun i hi => ?_, ?_⟩
    · unfold rowSteps
      refine List.pairwise_map.2 (List.Pairwise.filter _ ?_)
      refine (List.pairwise_lt_range' (step := 1) (by omega)).imp fun {a b} hab => .inr ⟨rfl, ?_⟩
      show (a : Int) < (b : Int)
      omega
    · refine List.Pairwise.imp_of_mem ?_ (List.pairwise_lt_range' (step := 1) (by omega))
      intro a b ha hb hab x hx y hy
      have ha := List.mem_range'_1.1 ha
      have hb := List.mem_range'_1.1 hb
      have h1 := hin a (by omega) x hx
      have h2 := hin b (by omega) y hy
      omega
  · intro e he
    unfold stepsL at he
    obtain ⟨i, hi, he⟩ := List.mem_flatMap.1 he
    have hi := List.mem_range'_1.1 hi
    have := hin i (by omega) e he
    omega
theorem set_map {n v : Nat} {f g : Nat → List Int} {u : List Int} (h : g v = u) (ho : ∀ i, i < n → i ≠ v → g i = f i) : tSet ((List.range n).map f) (v : Int) u = (List.range n).map g := by
  rw [tSet_n]
  refine List.ext_getElem (by simp) fun i h1 h2 => ?_
  rw [List.length_set, List.length_map, List.length_range] at h1
  by_cases hi : i = v
  · subst hi
    rw [List.getElem_set_self]
    simp [h]
  · rw [List.getElem_set_ne (fun e => hi e.symm)]
    simp [ho i h1 hi]
theorem rdL_map {n : Nat} {f : Nat → List Int} {i : Nat} (hi : i < n) : rdL ((List.range n).map f) (i : Int) = f i := by
  rw [rdL_n (by simp; exact hi)]
  simp
theorem inb_map {n : Nat} {f : Nat → List Int} {i : Nat} (hi : i < n) : inb ((List.range n).map f) (i : Int) = true := inb_n (by simp; exact hi)
theorem rep_map (n : Nat) : List.replicate n ([] : List Int) = (List.range n).map fun _ => [] := by
  refine List.ext_getElem (by simp) fun i h1 h2 => ?_
  simp
theorem rdP_mid (p q : List (Int × Int)) (e : Int × Int) : rdP (p ++ e :: q) ((p.length : Nat) : Int) = e := by simp [rdP]
theorem nbT_snoc (p : List (Int × Int)) (e : Int × Int) (v : Int) : nbT (p ++ [e]) v = nbT p v ++ ((if e.1 = v then [e.2] else []) ++ (if e.2 = v then [e.1] else [])) := by
  unfold nbT
  rw [List.flatMap_append]
  simp
theorem nbT_len (p : List (Int × Int)) (v : Int) : (nbT p v).length ≤ 2 * p.length := by
  induction p with
  | nil => simp [nbT]
  | cons e p ih =>
    unfold nbT at ih ⊢
    rw [List.flatMap_cons, List.length_append, List.length_append, List.length_cons]
    have h1 : (if e.1 = v then [e.2] else []).length ≤ 1 := by by_cases h : e.1 = v <;> simp [h]
    have h2 : (if e.2 = v then [e.1] else []).length ≤ 1 := by by_cases h : e.2 = v <;> simp [h]
    omega
theorem sroads_eq {N : Nat} {xs : List (List Int)} {st : List (Int × Int)} (hx : xs.length < 1024) (hs : st.length ≤ 1048576) (h : okSt xs.length st) (hN : 1048577 ≤ N) : impl_Space_roads N (xs, st) = some ((nbL xs.length st, ()), ()) := by
  have hin : ∀ e ∈ st, ∃ a b : Nat, e = ((a : Int), (b : Int)) ∧ a < b ∧ b < xs.length := fun e he => by
    have := h.2 e he
    exact ⟨e.1.toNat, e.2.toNat, Prod.ext (by simp only []; omega) (by simp only []; omega), by omega, by omega⟩
  have goA : ∀ (q p : List (Int × Int)) (K : Nat) (k0 : List (List Int) → Option ((List (List Int) × Unit) × Unit)), q.length < K → p ++ q = st →
      impl_Space_roads_l0 N k0 K st (st.length : Int) (p.length : Int) ((List.range xs.length).map fun i : Nat => nbT p (i : Int)) = k0 ((List.range xs.length).map fun i : Nat => nbT st (i : Int)) := by
    intro q
    induction q with
    | nil =>
      intro p K k0 hK hp
      obtain ⟨k, rfl⟩ := succ_of hK
      rw [List.append_nil] at hp
      subst hp
      simp only [impl_Space_roads_l0, ilt_nf (Nat.lt_irrefl _), br_f]
    | cons e q ih =>
      intro p K k0 hK hp
      obtain ⟨k, rfl⟩ := succ_of hK
      have hpl : p.length < st.length := by rw [← hp]; simp
      obtain ⟨a, b, rfl, hab, hb⟩ := hin e (by rw [← hp]; simp)
      have hr : rdP st (p.length : Int) = ((a : Int), (b : Int)) := by rw [← hp, rdP_mid]
      have hl := nbT_len p (b : Int)
      have hl2 := nbT_len p (a : Int)
      have ha : a < xs.length := by omega
      have hs1 := set_map (n := xs.length) (v := a) (f := fun i : Nat => nbT p (i : Int)) (g := fun i : Nat => nbT p (i : Int) ++ if a = i then [(b : Int)] else []) (u := nbT p (a : Int) ++ [(b : Int)]) (by simp) (fun i _ hi => by rw [if_neg (fun e => hi e.symm), List.append_nil])
      have hs2 := set_map (n := xs.length) (v := b) (f := fun i : Nat => nbT p (i : Int) ++ if a = i then [(b : Int)] else []) (g := fun i : Nat => nbT (p ++ [((a : Int), (b : Int))]) (i : Int)) (u := nbT p (b : Int) ++ [(a : Int)]) (by rw [nbT_snoc, if_neg (show ¬ (a : Int) = (b : Int) by omega), if_pos rfl]; rfl) (fun i _ hi => by
        rw [nbT_snoc, if_neg (show ¬ (b : Int) = (i : Int) by omega)]
        by_cases hai : a = i
        · rw [if_pos (show (a : Int) = (i : Int) by omega), if_pos hai]; rfl
        · rw [if_neg (show ¬ (a : Int) = (i : Int) by omega), if_neg hai]; rfl)
      have hrb : rdL ((List.range xs.length).map fun i : Nat => nbT p (i : Int) ++ if a = i then [(b : Int)] else []) (b : Int) = nbT p (b : Int) := by
        rw [rdL_map hb, if_neg (show ¬ a = b by omega), List.append_nil]
      simp only [impl_Space_roads_l0, ilt_n hpl, br_t, inb_n hpl, chk_t, hr, inb_map ha, rdL_map ha]
      rw [room_ok (by simp; omega), chk_t, ieq_t rfl, chk_t, wrap_succ (by omega), tApp_d, hs1, inb_map hb, chk_t, hrb, room_ok (by simp; omega), chk_t, ieq_t rfl, chk_t, chk_t, tApp_d, hs2]
      have := ih (p ++ [((a : Int), (b : Int))]) k k0 (by simp at hK; omega) (by rw [List.append_assoc]; exact hp)
      rw [List.length_append, List.length_singleton] at this
      exact this
  have e0 : ((List.range xs.length).map fun i : Nat => nbT st (i : Int)) = nbL xs.length st := List.map_congr_left fun i _ => nbT_eq h
  have hlen : (nbL xs.length st).length = xs.length := by simp [nbL]
  have goB : ∀ (d n K : Nat), n + d = xs.length → d < K → impl_Space_roads_l1 N (fun o1 => some ((o1, ()), ())) K (xs.length : Int) n (nbL xs.length st) = some ((nbL xs.length st, ()), ()) := by
    intro d
    induction d with
    | zero =>
      intro n K hd hK
      obtain ⟨k, rfl⟩ := succ_of hK
      simp only [impl_Space_roads_l1, ilt_nf (show ¬ n < xs.length by omega), br_f]
    | succ d ih =>
      intro n K hd hK
      obtain ⟨k, rfl⟩ := succ_of hK
      have hn : n < xs.length := by omega
      have hs := nbS_strict (v := (n : Int)) h
      have hl := nbS_len (v := (n : Int)) h
      simp only [impl_Space_roads_l1, ilt_n hn, br_t, inb_n (show n < (nbL xs.length st).length by omega), chk_t]
      rw [nbL_rd (in_nat hn), Sort_asc (hs.imp fun hab => by omega) (by omega) hN, bind_some', wrap_succ (by omega), tSet_n]
      have : (nbL xs.length st).set n (nbS st (n : Int)) = nbL xs.length st := by
        refine List.ext_getElem (by simp) fun i h1 h2 => ?_
        by_cases hi : i = n
        · subst hi
          rw [List.getElem_set_self]
          simp [nbL]
        · rw [List.getElem_set_ne (fun e => hi e.symm)]
      simp only [this]
      exact ih (n + 1) k (by omega) (by omega)
  unfold impl_Space_roads
  simp only []
  rw [tLen_n, tLen_n, ile_t (by omega), ile_t (Int.le_refl _), fits_ok (by omega)]
  simp only [Bool.and_self, chk_t]
  rw [tRep_n, rep_map]
  have g1 := goA st [] N (fun o => impl_Space_roads_l1 N (fun o1 => some ((o1, ()), ())) N (tLen o) 0 o) (by omega) rfl
  have e1 : ((List.range xs.length).map fun i : Nat => nbT [] (i : Int)) = (List.range xs.length).map fun _ => [] := rfl
  rw [e1] at g1
  simp only [List.length_nil, Int.natCast_zero] at g1
  rw [g1, e0, tLen_n, hlen]
  exact goB xs.length 0 N (by omega) (by omega)
theorem mid_eq {i j : Nat} (h : i + j < 4611686018427387904) : IntKind.i64.wrap (shrI .u64 (IntKind.u64.wrap (IntKind.i64.wrap ((i : Int) + (j : Int)))) 1) = (((i + j) / 2 : Nat) : Int) := by
  have e : (i : Int) + (j : Int) = ((i + j : Nat) : Int) := by omega
  rw [e, wrap_ok (n := ((i + j : Nat) : Int)) (by omega) (by omega), wrap64 (by omega)]
  have e2 : shrI .u64 ((i + j : Nat) : Int) 1 = (((i + j) / 2 : Nat) : Int) := by
    show ((i + j : Nat) : Int).fdiv (2 ^ (min 1 64)) = _
    rw [Int.fdiv_eq_ediv_of_nonneg _ (by decide)]
    show ((i + j : Nat) : Int) / 2 = _
    omega
  rw [e2, wrap_ok (by omega) (by omega)]
theorem bin_eq {R : Type} {N : Nat} {xs : List (List Int)} {a : List Int} {t : Nat} {len : Int} {k0 : List (List Int) → List Int → (List Int → List Int → Option Int) → Int → Int → Option R} (hx : xs.length ≤ 1048576) (hl : ∀ x ∈ xs, x.length ≤ 1048576) (ha : a.length ≤ 1048576) (hN : 1048577 ≤ N)
    (hlo : ∀ k : Nat, k < t → k < xs.length → lexC (rdL xs (k : Int)) a < 0) (hhi : ∀ k : Nat, t ≤ k → k < xs.length → ¬ lexC (rdL xs (k : Int)) a < 0) : ∀ (d i j K : Nat), j - i ≤ d → d < K → i ≤ t → t ≤ j → j ≤ xs.length →
      slices_BinarySearchFunc_LLI_LI_LI_l0 N k0 K xs a (fun y0 y1 => (slices_Compare_LI_int N y0 y1).bind fun z => some z.1.1) len (i : Int) (j : Int) = k0 xs a (fun y0 y1 => (slices_Compare_LI_int N y0 y1).bind fun z => some z.1.1) len (t : Int) := by
  intro d
  induction d with
  | zero =>
    intro i j K hd hK hi hj hjx
    obtain ⟨k, rfl⟩ := succ_of hK
    have : i = t := by omega
    subst this
    simp only [slices_BinarySearchFunc_LLI_LI_LI_l0, ilt_nf (show ¬ i < j by omega), br_f]
  | succ d ih =>
    intro i j K hd hK hi hj hjx
    obtain ⟨k, rfl⟩ := succ_of hK
    by_cases hij : i < j
    · have hm : (i + j) / 2 < xs.length := by omega
      simp only [slices_BinarySearchFunc_LLI_LI_LI_l0, ilt_n hij, br_t, mid_eq (show i + j < 4611686018427387904 by omega), inb_n hm, chk_t]
      rw [Compare_lex (hl _ (by rw [rdL_n hm]; exact List.getElem_mem hm)) ha hN, bind_some', bind_some']
      simp only []
      by_cases hc : lexC (rdL xs (((i + j) / 2 : Nat) : Int)) a < 0
      · rw [ilt_t hc, br_t, wrap_succ (by omega)]
        refine ih ((i + j) / 2 + 1) j k (by omega) (by omega) ?_ hj hjx
        by_cases h : t ≤ (i + j) / 2
        · exact absurd hc (hhi _ h hm)
        · omega
      · rw [ilt_f hc, br_f]
        refine ih i ((i + j) / 2) k (by omega) (by omega) hi ?_ (by omega)
        by_cases h : (i + j) / 2 < t
        · exact absurd (hlo _ h hm) hc
        · omega
    · have : i = t := by omega
      subst this
      simp only [slices_BinarySearchFunc_LLI_LI_LI_l0, ilt_nf hij, br_f]
theorem idx_lt {xs : List (List Int)} {a : List Int} (h : a ∈ xs) : xs.idxOf a < xs.length := List.idxOf_lt_length_iff.2 h
theorem idx_rd {xs : List (List Int)} {a : List Int} (h : a ∈ xs) : rdL xs ((xs.idxOf a : Nat) : Int) = a := by
  rw [rdL_n (idx_lt h)]
  exact List.getElem_idxOf (idx_lt h)
theorem place_in {N : Nat} {xs : List (List Int)} {st : List (Int × Int)} {a : List Int} (hs : lexSorted xs) (hx : xs.length ≤ 1048576) (hl : ∀ x ∈ xs, x.length ≤ 1048576) (ha : a ∈ xs) (hN : 1048577 ≤ N) :
    impl_Space_place N (xs, st) a = some ((((xs.idxOf a : Nat) : Int), true, ()), ()) := by
  have hp := List.pairwise_iff_getElem.1 hs
  have hi := idx_lt ha
  have ht : xs[xs.idxOf a] = a := List.getElem_idxOf hi
  have hal := hl a ha
  unfold impl_Space_place slices_BinarySearchFunc_LLI_LI_LI
  simp only []
  have := bin_eq (N := N) (len := tLen xs) (t := xs.idxOf a) (k0 := fun x1 target1 cmp1 n i => (br (ilt i n) ((chk (inb x1 i) ((cmp1 (rdL x1 i) target1).bind fun v => some ((i, (ieq v 0), ()), ())))) (some ((i, false, ()), ())))) hx hl hal hN (fun k hk hkx => by
    have := hp k _ hkx hi hk
    rwa [ht, ← rdL_n hkx] at this) (fun k hk hkx hc => by
    by_cases he : k = xs.idxOf a
    · subst he
      rw [rdL_n hkx, ht, lexC_self] at hc
      omega
    · have := hp _ k hi hkx (by omega)
      rw [ht, ← rdL_n hkx] at this
      have e := lexC_anti a (rdL xs (k : Int))
      omega) xs.length 0 xs.length N (by omega) (by omega) (Nat.zero_le _) (by omega) (Nat.le_refl _)
  simp only [Int.natCast_zero] at this
  rw [tLen_n] at this ⊢
  rw [this, ilt_n hi, br_t, inb_n hi, chk_t, Compare_lex (by rw [idx_rd ha]; exact hal) hal hN, bind_some', bind_some', bind_some', idx_rd ha, lexC_self]
  rfl
theorem moreC_pre {k : Nat} {es : List (Int × Int)} : ∀ (d : Nat) (b : List Int) (l : List (List Int)), ∃ t, moreC k es d b l = l ++ t := by
  intro d
  induction d with
  | zero => intro b l; exact ⟨[b], rfl⟩
  | succ d ih =>
    intro b l
    unfold moreC
    refine stepsC_inv (p := fun l' => ∃ t, l' = l ++ t) (fun c l' _ ⟨t, ht⟩ => ?_) k 0 l ⟨[], by simp⟩
    by_cases hf : freeC es b (c : Int)
    · rw [if_pos hf]
      obtain ⟨t2, h2⟩ := ih (b ++ [(c : Int)]) l'
      exact ⟨t ++ t2, by rw [h2, ht, List.append_assoc]⟩
    · rw [if_neg hf]; exact ⟨t, ht⟩
theorem stepsC_mem {f : Nat → List (List Int) → List (List Int)} (hf : ∀ c l, ∃ t, f c l = l ++ t) {x : List Int} {c0 : Nat} (hx : ∀ l, (f c0 l).length ≤ 300 → x ∈ f c0 l) : ∀ (r c : Nat) (l : List (List Int)), c ≤ c0 → c0 < c + r → (stepsC f r c l).length ≤ 300 → x ∈ stepsC f r c l := by
  have mono : ∀ (r c : Nat) (l : List (List Int)), ∃ t, stepsC f r c l = l ++ t := fun r c l =>
    stepsC_inv (p := fun l' => ∃ t, l' = l ++ t) (fun c l' _ ⟨t, ht⟩ => by
      obtain ⟨t2, h2⟩ := hf c l'
      exact ⟨t ++ t2, by rw [h2, ht, List.append_assoc]⟩) r c l ⟨[], by simp⟩
  intro r
  induction r with
  | zero => intro c l h1 h2; omega
  | succ r ih =>
    intro c l h1 h2 h3
    have hl : l.length ≤ 300 := by
      obtain ⟨t, ht⟩ := mono (r + 1) c l
      rw [ht] at h3
      simp at h3
      omega
    unfold stepsC at h3 ⊢
    rw [if_pos hl] at h3 ⊢
    by_cases hc : c = c0
    · subst hc
      obtain ⟨t, ht⟩ := mono r (c + 1) (f c l)
      rw [ht] at h3 ⊢
      rw [List.length_append] at h3
      exact List.mem_append_left _ (hx l (by omega))
    · exact ih (c + 1) (f c l) (by omega) (by omega) h3
theorem moreC_mem {k : Nat} {es : List (Int × Int)} {a : List Int} (ha : ∀ z ∈ a, 0 ≤ z ∧ z < (k : Int)) (hp : ∀ i : Nat, i < a.length → freeC es (a.take i) (rdI a (i : Int))) : ∀ (d i : Nat) (l : List (List Int)), i + d = a.length → (moreC k es d (a.take i) l).length ≤ 300 → a ∈ moreC k es d (a.take i) l := by
  intro d
  induction d with
  | zero =>
    intro i l hi _
    unfold moreC
    rw [List.take_of_length_le (by omega)]
    simp
  | succ d ih =>
    intro i l hi hl
    unfold moreC at hl ⊢
    have hil : i < a.length := by omega
    have hz := ha a[i] (List.getElem_mem hil)
    have hri : rdI a (i : Int) = a[i] := rdI_n hil
    obtain ⟨c0, hc0⟩ : ∃ c0 : Nat, a[i] = (c0 : Int) := ⟨a[i].toNat, by omega⟩
    have hfree := hp i hil
    rw [hri, hc0] at hfree
    refine stepsC_mem (c0 := c0) (fun c l => ?_) (fun l' hl' => ?_) k 0 l (Nat.zero_le _) (by omega) hl
    · by_cases hf : freeC es (a.take i) (c : Int)
      · simp only [if_pos hf]; exact moreC_pre ..
      · simp only [if_neg hf]; exact ⟨[], by simp⟩
    · simp only [if_pos hfree] at hl' ⊢
      have e : a.take i ++ [(c0 : Int)] = a.take (i + 1) := by rw [List.take_add_one, List.getElem?_eq_getElem hil, hc0]; rfl
      rw [e] at hl' ⊢
      exact ih (i + 1) l' (by omega) hl'
theorem mem_allC {g : Int × List (Int × Int)} {k : Int} {a : List Int} (hk : colCase g k) (hl : (allC g k).length ≤ 300) (h : proper g k a) : a ∈ allC g k := by
  obtain ⟨h1, h2, h3⟩ := h
  have hk2 := hk.2
  have hg := hk.1.1
  unfold allC at hl ⊢
  have := moreC_mem (k := k.toNat) (es := g.2) (a := a) (fun z hz => by have := h2 z hz; omega) (fun i hi y hy hc => by
    have hy' : y < i := by simp at hy; omega
    obtain ⟨e1, e2⟩ := hc
    rw [rdI_take hy' (by omega)] at e1
    have hlen : (a.take i).length = i := by simp; omega
    rw [hlen] at e2
    rcases e2 with e2 | e2
    · exact h3 _ e2 e1
    · exact h3 _ e2 e1.symm) g.1.toNat 0 [] (by omega) hl
  exact this
theorem impl_ColSp {N : Nat} {g : Int × List (Int × Int)} {k : Int} (hx : g.2.length ≤ 1048576) (hN : 1048577 ≤ N) : impl_ColourSpace N g k = some (((colSpV g k).1, (colSpV g k).2, ()), ()) := by
  unfold impl_ColourSpace colSpV
  simp only [show ((g.1, g.2) : Int × List (Int × Int)) = g from rfl]
  rw [colourings_eq hx hN, bind_some']
  unfold colsR
  by_cases h : colCase g k ∧ (allC g k).length ≤ 300
  · rw [if_pos h, if_pos h]
    obtain ⟨s1, s2⟩ := allC_sorted g k
    have hr := allC_rows (g := g) (k := k)
    have hg := h.1.1.1
    have hst := colSteps_le h.1 h.2
    have hr8 : ∀ x ∈ allC g k, x.length ≤ 8 := fun x hx => by have := hr x hx; omega
    simp only [Bool.not_true, br_f]
    rw [spaceOf_eq (p := isCh) s1 (fun x hx => by have := hr8 x hx; omega) (by omega) (fun a ha b hb => ?_) hN, bind_some']
    · simp only []
      rw [orNone_eq (by simp only []; omega) (by simp only []; omega), bind_some']
    · have e1 := hr a ha
      have e2 := hr b hb
      show (impl_isChange N a b).bind _ = _
      rw [isChange_eq (by omega) (by omega) hN]
      rfl
  · rw [if_neg h, if_neg h]
    rfl
def pairsUp (o : List (Int × Int)) : Prop := o.Pairwise edgeLt
theorem edgeLt_trans {a b c : Int × Int} (h1 : edgeLt a b) (h2 : edgeLt b c) : edgeLt a c := by unfold edgeLt at *; omega
theorem edgeLt_tot {a b : Int × Int} (h : ¬ edgeLt a b) (hne : a ≠ b) : edgeLt b a := by
  unfold edgeLt at *
  by_cases h1 : a.1 = b.1
  · by_cases h2 : a.2 = b.2
    · exact absurd (Prod.ext h1 h2) hne
    · omega
  · omega
theorem putPair_eq {N : Nat} {o : List (Int × Int)} {e : Int × Int} (ho : pairsUp o) (hl : o.length ≤ 1048576) (hN : 1048577 ≤ N) : ∃ o', spec_l2PutPair N o e = some ((o', ()), ()) ∧ pairsUp o' ∧ (∀ f, f ∈ o' ↔ f ∈ o ∨ f = e) ∧ o'.length ≤ o.length + 1 := by
  unfold pairsUp at ho
  have find : ∀ (k K : Nat) (k0 : Int → List (Int × Int) → Int → Int → Option ((List (Int × Int) × Unit) × Unit)), k < K → k ≤ o.length → (∀ j (h : j < o.length), k ≤ j → edgeLt e o[j]) →
      ∃ k2 : Nat, k2 ≤ o.length ∧ (∀ j (h : j < o.length), j < k2 → ¬ edgeLt e o[j]) ∧ (∀ j (h : j < o.length), k2 ≤ j → edgeLt e o[j]) ∧ spec_l2PutPair_l0 N k0 K (k : Int) o e.1 e.2 = k0 (k2 : Int) o e.1 e.2 := by
    intro k
    induction k with
    | zero =>
      intro K k0 hK hk h
      obtain ⟨K, rfl⟩ := succ_of hK
      refine ⟨0, hk, fun j h1 h2 => absurd h2 (Nat.not_lt_zero j), h, ?_⟩
      simp only [spec_l2PutPair_l0, Int.natCast_zero]
      rw [ilt_f (by decide), br_f]
    | succ k ih =>
      intro K k0 hK hk h
      obtain ⟨K, rfl⟩ := succ_of hK
      have hko : k < o.length := by omega
      simp only [spec_l2PutPair_l0]
      rw [ilt_t (by omega), br_t, wrap_pred (by omega) (by omega), show k + 1 - 1 = k by omega, inb_n hko, chk_t, rdP_n hko, l2Edge_eq, bind_some']
      simp only [show ((e.1, e.2) : Int × Int) = e from rfl]
      by_cases hc : edgeLt e o[k]
      · rw [decide_eq_true hc, br_t]
        exact ih K k0 (by omega) (by omega) fun j hj hkj => by
          by_cases he : j = k
          · subst he; exact hc
          · exact h j hj (by omega)
      · rw [decide_eq_false hc, br_f]
        refine ⟨k + 1, hk, fun j hj hjk => ?_, h, rfl⟩
        by_cases he : j = k
        · subst he; exact hc
        · have := List.pairwise_iff_getElem.1 ho j k hj hko (by omega)
          exact fun h2 => hc (edgeLt_trans h2 this)
  unfold spec_l2PutPair
  obtain ⟨k, k1, k2, k3, k4⟩ := find o.length N (fun kv o o1 o2 => (br (ilt 0 kv)
    ((chk (inb o (IntKind.i64.wrap (kv - 1)))
      (br (ieq ((rdP o (IntKind.i64.wrap (kv - 1))).1) o1 && ieq ((rdP o (IntKind.i64.wrap (kv - 1))).2) o2)
      (some ((o, ()), ()))
      ((chk (ile 0 0 && ile 0 kv && ile kv (tLen o))
        (chk (room (α := (Int × Int)) (β := (Int × Int)) [] (tCut o 0 kv))
        (chk (room (tApp [] (tCut o 0 kv)) [(o1, o2)])
        (chk (ile 0 kv && ile kv (tLen o) && ile (tLen o) (tLen o))
        (chk (room (tApp (tApp [] (tCut o 0 kv)) [(o1, o2)]) (tCut o kv (tLen o)))
        (some (((tApp (tApp (tApp [] (tCut o 0 kv)) [(o1, o2)]) (tCut o kv (tLen o))), ()), ())))))))))))
    ((chk (ile 0 0 && ile 0 kv && ile kv (tLen o))
      (chk (room (α := (Int × Int)) (β := (Int × Int)) [] (tCut o 0 kv))
      (chk (room (tApp [] (tCut o 0 kv)) [(o1, o2)])
      (chk (ile 0 kv && ile kv (tLen o) && ile (tLen o) (tLen o))
      (chk (room (tApp (tApp [] (tCut o 0 kv)) [(o1, o2)]) (tCut o kv (tLen o)))
      (some (((tApp (tApp (tApp [] (tCut o 0 kv)) [(o1, o2)]) (tCut o kv (tLen o))), ()), ())))))))))) (by omega) (Nat.le_refl _) (fun j hj h => by omega)
  rw [tLen_n, k4]
  have hcut0 : tCut o 0 (k : Int) = o.take k := by have := tCut_n o 0 k; simpa using this
  have hcutk : tCut o (k : Int) (tLen o) = o.drop k := by rw [tLen_n, tCut_n, List.take_of_length_le (Nat.le_refl _)]
  have h1 : (ile 0 0 && ile 0 (k : Int) && ile (k : Int) (tLen o)) = true := by rw [ile_t (Int.le_refl _), ile_t (by omega), tLen_n, ile_t (by omega)]; rfl
  have h2 : (ile 0 (k : Int) && ile (k : Int) (tLen o) && ile (tLen o) (tLen o)) = true := by rw [ile_t (by omega), tLen_n, ile_t (by omega), ile_t (Int.le_refl _)]; rfl
  have r1 : room (α := Int × Int) (β := Int × Int) [] (o.take k) = true := room_ok (by rw [List.length_take, List.length_nil]; omega)
  have r2 : room (tApp [] (o.take k)) [(e.1, e.2)] = true := room_ok (by simp only [tApp, List.nil_append, List.length_take, List.length_singleton]; omega)
  have r3 : room (tApp (tApp [] (o.take k)) [(e.1, e.2)]) (o.drop k) = true := room_ok (by simp only [tApp, List.nil_append, List.length_append, List.length_take, List.length_drop, List.length_singleton]; omega)
  have ee : tApp (tApp (tApp [] (o.take k)) [(e.1, e.2)]) (o.drop k) = o.take k ++ e :: o.drop k := by simp [tApp]
  have hput : (∀ j (h : j < o.length), j < k → o[j] ≠ e) → pairsUp (o.take k ++ e :: o.drop k) ∧ (∀ f, f ∈ o.take k ++ e :: o.drop k ↔ f ∈ o ∨ f = e) ∧ (o.take k ++ e :: o.drop k).length ≤ o.length + 1 := by
    intro hne
    refine ⟨List.pairwise_append.2 ⟨ho.sublist (List.take_sublist ..), List.pairwise_cons.2 ⟨fun y hy => ?_, ho.sublist (List.drop_sublist ..)⟩, fun a ha b hb => ?_⟩, fun s => ?_, by simp; omega⟩
    · obtain ⟨j, hj, rfl⟩ := List.getElem_of_mem hy
      rw [List.getElem_drop]
      exact k3 _ (by simp at hj; omega) (by omega)
    · obtain ⟨j, hj, rfl⟩ := List.getElem_of_mem ha
      have hj' : j < k ∧ j < o.length := by simp at hj; omega
      rw [List.getElem_take]
      have hax : edgeLt o[j] e := edgeLt_tot (k2 j hj'.2 hj'.1) (fun q => hne j hj'.2 hj'.1 q.symm)
      rcases List.mem_cons.1 hb with rfl | hb
      · exact hax
      · obtain ⟨l, hl', rfl⟩ := List.getElem_of_mem hb
        rw [List.getElem_drop]
        exact List.pairwise_iff_getElem.1 ho _ _ hj'.2 (by simp at hl'; omega) (by omega)
    · rw [List.mem_append, List.mem_cons]
      have := List.take_append_drop k o
      constructor
      · rintro (h | h | h)
        · exact .inl (List.mem_of_mem_take h)
        · exact .inr h
        · exact .inl (List.mem_of_mem_drop h)
      · rintro (h | h)
        · rw [← this, List.mem_append] at h
          rcases h with h | h
          · exact .inl h
          · exact .inr (.inr h)
        · exact .inr (.inl h)
  by_cases hk0 : k = 0
  · subst hk0
    have e0 : ilt 0 ((0 : Nat) : Int) = false := rfl
    rw [e0, br_f, h1, chk_t, hcut0, r1, chk_t, r2, chk_t, h2, chk_t, hcutk, r3, chk_t, ee]
    exact ⟨_, rfl, hput fun j h h0 => absurd h0 (Nat.not_lt_zero j)⟩
  · have hk' : k - 1 < o.length := by omega
    rw [ilt_t (by omega), br_t, wrap_pred (by omega) (by omega), inb_n hk', chk_t, rdP_n hk']
    by_cases he : o[k - 1] = e
    · rw [he, ieq_t rfl, ieq_t rfl]
      simp only [Bool.and_self, br_t]
      refine ⟨o, rfl, ho, fun f => ⟨.inl, ?_⟩, by omega⟩
      rintro (h | h)
      · exact h
      · rw [h, ← he]; exact List.getElem_mem hk'
    · have hb : (ieq o[k - 1].1 e.1 && ieq o[k - 1].2 e.2) = false := by
        by_cases q1 : o[k - 1].1 = e.1
        · by_cases q2 : o[k - 1].2 = e.2
          · exact absurd (Prod.ext q1 q2) he
          · rw [ieq_f q2, Bool.and_false]
        · rw [ieq_f q1]; rfl
      rw [hb, br_f, h1, chk_t, hcut0, r1, chk_t, r2, chk_t, h2, chk_t, hcutk, r3, chk_t, ee]
      refine ⟨_, rfl, hput fun j h hj q => ?_⟩
      by_cases hj1 : j = k - 1
      · subst hj1; exact he q
      · have := List.pairwise_iff_getElem.1 ho j (k - 1) h hk' (by omega)
        rw [q] at this
        exact k2 (k - 1) hk' (by omega) this
theorem mem_stepsL {p : List Int → List Int → Bool} {xs : List (List Int)} {e : Int × Int} : e ∈ stepsL p xs ↔ ∃ i j : Nat, e = ((i : Int), (j : Int)) ∧ i < j ∧ j < xs.length ∧ p (rdL xs (i : Int)) (rdL xs (j : Int)) = true := by
  unfold stepsL rowSteps
  rw [List.mem_flatMap]
  constructor
  · rintro ⟨i, hi, he⟩
    obtain ⟨j, hj, rfl⟩ := List.mem_map.1 he
    obtain ⟨h1, h2⟩ := List.mem_filter.1 hj
    have := List.mem_range'_1.1 h1
    exact ⟨i, j, rfl, by omega, by omega, h2⟩
  · rintro ⟨i, j, rfl, h1, h2, h3⟩
    exact ⟨i, List.mem_range'_1.2 (by omega), List.mem_map.2 ⟨j, List.mem_filter.2 ⟨List.mem_range'_1.2 (by omega), h3⟩, rfl⟩⟩
/-! ### A node added or taken away -/
theorem l1Least_eq {N : Nat} {x y : Int} : spec_l1Least N x y = some (((if x < y then x else y), ()), ()) := by
  unfold spec_l1Least
  by_cases h : x < y
  · rw [ilt_t h, br_t, if_pos h]
  · rw [ilt_f h, br_f, if_neg h]
def CurOk (code : List Int) (k : Nat) (c : List Int × (Int × Int)) : Prop := c.1 = code ∧ 0 ≤ c.2.1 ∧ c.2.1 ≤ (k : Int)
def codeOk (code : List Int) : Prop := code.length ≤ 1048576 ∧ ∀ x ∈ code, 0 ≤ x ∧ x ≤ 255
theorem cur_mono {code : List Int} {k l : Nat} {c : List Int × (Int × Int)} (h : CurOk code k c) (hl : k ≤ l) : CurOk code l c := ⟨h.1, h.2.1, by have := h.2.2; omega⟩
theorem u8_and (x : Int) : 0 ≤ IntKind.i64.wrap (bitop .and .u64 x 255) ∧ IntKind.i64.wrap (bitop .and .u64 x 255) ≤ 255 := by
  have h : ∃ n : Nat, bitop .and .u64 x 255 = (n : Int) ∧ n ≤ 255 := by
    unfold bitop
    simp only []
    have e : (BitVec.ofInt IntKind.u64.bits x &&& BitVec.ofInt IntKind.u64.bits 255).toNat = (BitVec.ofInt IntKind.u64.bits x).toNat &&& 255 := by
      rw [BitVec.toNat_and]; rfl
    have hle : (BitVec.ofInt IntKind.u64.bits x).toNat &&& 255 ≤ 255 := Nat.and_le_right
    refine ⟨(BitVec.ofInt IntKind.u64.bits x).toNat &&& 255, ?_, hle⟩
    rw [e]
    unfold IntKind.wrap
    simp only [IntKind.signed, IntKind.bits]
    have : (((BitVec.ofInt 64 x).toNat &&& 255 : Nat) : Int) % 2 ^ 64 = (((BitVec.ofInt 64 x).toNat &&& 255 : Nat) : Int) := by
      refine Int.emod_eq_of_lt (by omega) ?_
      have : (BitVec.ofInt 64 x).toNat &&& 255 ≤ 255 := Nat.and_le_right
      omega
    simpa using this
  obtain ⟨n, h1, h2⟩ := h
  rw [h1, wrap_ok (by omega) (by omega)]
  omega
theorem next_ok {N : Nat} {code : List Int} {k : Nat} {c : List Int × (Int × Int)} (hco : codeOk code) (h : CurOk code k c) (hk : k ≤ 1000000000) : ∃ x c', spec_l1Cur_next N c = some ((x, ()), (c', ())) ∧ CurOk code (k + 1) c' ∧ 0 ≤ x ∧ x ≤ 255 := by
  obtain ⟨cd, at', seed⟩ := c
  obtain ⟨h1, h2, h3⟩ := h
  simp only at h1 h2 h3
  subst h1
  have hw : IntKind.i64.wrap (at' + 1) = at' + 1 := wrap_ok (by omega) (by omega)
  unfold spec_l1Cur_next
  simp only [hw]
  by_cases hlt : at' < (cd.length : Int)
  · obtain ⟨n, rfl⟩ := Int.eq_ofNat_of_zero_le h2
    have hn : n < cd.length := by omega
    have hb := hco.2 _ (List.getElem_mem hn)
    have hrd : rd U8 cd (n : Int) = cd[n] := by
      unfold rd
      rw [Int.toNat_natCast, List.getD_eq_getElem?_getD, List.getElem?_eq_getElem hn]
      rfl
    rw [ilt_len hn, br_t, inb_n hn, chk_t, hrd]
    by_cases hle : (n : Int) + 1 ≤ (cd.length : Int)
    · rw [tLen_n, ile_t hle, br_t]
      refine ⟨_, _, rfl, ⟨rfl, by show (0 : Int) ≤ (n : Int) + 1; omega, by show (n : Int) + 1 ≤ ((k + 1 : Nat) : Int); omega⟩, ?_⟩
      rw [wrap_ok (by omega) (by omega)]
      exact hb
    · omega
  · rw [tLen_n, ilt_f hlt, br_f]
    by_cases hle : at' + 1 ≤ (cd.length : Int)
    · rw [ile_t hle, br_t]
      exact ⟨_, _, rfl, ⟨rfl, by show (0 : Int) ≤ at' + 1; omega, by show at' + 1 ≤ ((k + 1 : Nat) : Int); omega⟩, by omega, by omega⟩
    · rw [ile_f hle, br_f]
      exact ⟨_, _, rfl, ⟨rfl, by show (0 : Int) ≤ at' + 1; omega, by show at' + 1 ≤ ((k + 1 : Nat) : Int); omega⟩, u8_and _⟩
theorem tmod_in {x n : Int} (hx : 0 ≤ x) (hn : 1 ≤ n) : 0 ≤ x.tmod n ∧ x.tmod n < n ∧ x.tmod n ≤ x := by
  obtain ⟨a, rfl⟩ := Int.eq_ofNat_of_zero_le hx
  obtain ⟨b, rfl⟩ := Int.eq_ofNat_of_zero_le (show 0 ≤ n by omega)
  have e : ((a : Int)).tmod (b : Int) = ((a % b : Nat) : Int) := rfl
  rw [e]
  have := Nat.mod_lt a (show 0 < b by omega)
  have := Nat.mod_le a b
  omega
theorem pick_ok {N : Nat} {code : List Int} {k : Nat} {c : List Int × (Int × Int)} (hco : codeOk code) (h : CurOk code k c) (hk : k ≤ 1000000) (n : Int) : ∃ x c', spec_l1Cur_pick N c n = some ((x, ()), (c', ())) ∧ CurOk code (k + 2) c' ∧ 0 ≤ x ∧ x ≤ 65535 ∧ (1 ≤ n → x < n) := by
  unfold spec_l1Cur_pick
  by_cases h1 : n ≤ 1
  · rw [ile_t h1, br_t]
    exact ⟨_, _, rfl, cur_mono h (by omega), by omega, by omega, fun h => by omega⟩
  · rw [ile_f h1, br_f]
    obtain ⟨x, c', e1, e2, e3, e4⟩ := next_ok (N := N) hco h (by omega)
    rw [e1, bind_some']
    simp only []
    by_cases h2 : 200 < n
    · rw [ilt_t h2, br_t]
      obtain ⟨y, c2, f1, f2, f3, f4⟩ := next_ok (N := N) hco e2 (by omega)
      rw [f1, bind_some', ine_t (show n ≠ 0 by omega), chk_t]
      simp only []
      rw [wrap_ok (n := x * 256) (by omega) (by omega), wrap_ok (by omega) (by omega)]
      have := tmod_in (x := x * 256 + y) (n := n) (by omega) (by omega)
      exact ⟨_, _, rfl, f2, by omega, by omega, fun _ => by omega⟩
    · rw [ilt_f h2, br_f, ine_t (show n ≠ 0 by omega), chk_t]
      have := tmod_in (x := x) (n := n) (by omega) (by omega)
      exact ⟨_, _, rfl, cur_mono e2 (by omega), by omega, by omega, fun _ => by omega⟩
theorem among_ok {N : Nat} {code : List Int} {k : Nat} {c : List Int × (Int × Int)} (hco : codeOk code) (h : CurOk code k c) (hk : k ≤ 1000000) {l : List Int} (hl : l ≠ []) : ∃ x c', spec_l1Cur_among N c l = some ((x, ()), (c', ())) ∧ CurOk code (k + 2) c' ∧ x ∈ l := by
  unfold spec_l1Cur_among
  have hp : 0 < l.length := List.length_pos_iff.2 hl
  obtain ⟨x, c', e1, e2, e3, e4, e5⟩ := pick_ok (N := N) hco h hk (tLen l)
  rw [e1, bind_some']
  simp only []
  rw [tLen_n] at e5
  obtain ⟨n, rfl⟩ := Int.eq_ofNat_of_zero_le e3
  have hn : n < l.length := by have := e5 (by omega); omega
  rw [inb_n hn, chk_t, rdI_n hn]
  exact ⟨_, _, rfl, e2, List.getElem_mem hn⟩
theorem one_ok {N : Nat} {code : List Int} {k : Nat} {c : List Int × (Int × Int)} (hco : codeOk code) (h : CurOk code k c) (hk : k ≤ 1000000) (n : Int) : ∃ b c', spec_l1Cur_one N c n = some ((b, ()), (c', ())) ∧ CurOk code (k + 2) c' := by
  unfold spec_l1Cur_one
  obtain ⟨x, c', e1, e2, _⟩ := pick_ok (N := N) hco h hk n
  rw [e1, bind_some']
  exact ⟨_, _, rfl, e2⟩
theorem sg_in {R : Type} {N : Nat} {code : List Int} (hco : codeOk code) (hN : 1048577 ≤ N) {k0 : Int → Int → Bool → Int → List Int × (Int × Int) → Int → Int → List (Int × Int) → Option R} {x4 x5 x7 o5 o6 : Int} {x6 : Bool} :
    ∀ (d : Nat) (x8 : Int) (K k : Nat) (c : List Int × (Int × Int)) (o : List (Int × Int)), x8 + (d : Int) = max x4 x8 → d < K → 0 ≤ x8 → x8 ≤ 100 → x4 ≤ 100 → CurOk code k c → k + 2 * d ≤ 1000000 → pairsUp o → o.length + d ≤ 1048576 →
      ∃ c' o', spec_l1Cur_someGraph_l0_0 N k0 K x4 x5 x6 x7 x8 c o5 o6 o = k0 x4 x5 x6 x7 c' o5 o6 o' ∧ CurOk code (k + 2 * d) c' ∧ pairsUp o' ∧ o'.length ≤ o.length + d := by
  intro d
  induction d with
  | zero =>
    intro x8 K k c o hd hK h0 h1 h4 hc hk ho hl
    obtain ⟨K, rfl⟩ := succ_of hK
    refine ⟨c, o, ?_, hc, ho, by omega⟩
    simp only [spec_l1Cur_someGraph_l0_0, ilt_f (show ¬ x8 < x4 by omega), br_f]
  | succ d ih =>
    intro x8 K k c o hd hK h0 h1 h4 hc hk ho hl
    obtain ⟨K, rfl⟩ := succ_of hK
    have hlt : x8 < x4 := by omega
    have hw : IntKind.i64.wrap (x8 + 1) = x8 + 1 := wrap_ok (by omega) (by omega)
    simp only [spec_l1Cur_someGraph_l0_0, ilt_t hlt, br_t, hw]
    obtain ⟨x, c1, e1, e2, _⟩ := pick_ok (N := N) hco hc (by omega) x5
    rw [e1, bind_some']
    simp only []
    by_cases hx : x = 0
    · rw [ieq_t hx, br_t]
      obtain ⟨o1, p1, p2, p3, p4⟩ := putPair_eq (N := N) (e := (x7, x8)) ho (by omega) hN
      rw [p1, bind_some']
      simp only []
      obtain ⟨c', o', q1, q2, q3, q4⟩ := ih (x8 + 1) K (k + 2) c1 o1 (by omega) (by omega) (by omega) (by omega) h4 e2 (by omega) p2 (by omega)
      exact ⟨c', o', q1, cur_mono q2 (by omega), q3, by omega⟩
    · rw [ieq_f hx, br_f]
      obtain ⟨c', o', q1, q2, q3, q4⟩ := ih (x8 + 1) K (k + 2) c1 o (by omega) (by omega) (by omega) (by omega) h4 e2 (by omega) ho (by omega)
      exact ⟨c', o', q1, cur_mono q2 (by omega), q3, by omega⟩
theorem sg_out {R : Type} {N : Nat} {code : List Int} (hco : codeOk code) (hN : 1048577 ≤ N) {k0 : List Int × (Int × Int) → Int → Int → List (Int × Int) → Option R} {x x1 o1 o2 : Int} {x2 : Bool} (hx : x ≤ 8) :
    ∀ (d : Nat) (x3 : Int) (K k : Nat) (c : List Int × (Int × Int)) (o : List (Int × Int)), x3 + (d : Int) = max x x3 → d < K → 0 ≤ x3 → x3 ≤ 8 → CurOk code k c → k + 20 * d ≤ 1000000 → pairsUp o → o.length + 10 * d ≤ 1048576 →
      ∃ c' o', spec_l1Cur_someGraph_l0 N k0 K x x1 x2 x3 c o1 o2 o = k0 c' o1 o2 o' ∧ CurOk code (k + 20 * d) c' ∧ pairsUp o' ∧ o'.length ≤ o.length + 10 * d := by
  intro d
  induction d with
  | zero =>
    intro x3 K k c o hd hK h0 h1 hc hk ho hl
    obtain ⟨K, rfl⟩ := succ_of hK
    refine ⟨c, o, ?_, hc, ho, by omega⟩
    simp only [spec_l1Cur_someGraph_l0, ilt_f (show ¬ x3 < x by omega), br_f]
  | succ d ih =>
    intro x3 K k c o hd hK h0 h1 hc hk ho hl
    obtain ⟨K, rfl⟩ := succ_of hK
    have hlt : x3 < x := by omega
    have hw : IntKind.i64.wrap (x3 + 1) = x3 + 1 := wrap_ok (by omega) (by omega)
    simp only [spec_l1Cur_someGraph_l0, ilt_t hlt, br_t, hw]
    obtain ⟨e, he⟩ : ∃ e : Nat, x3 + 1 + (e : Int) = max x (x3 + 1) := ⟨(max x (x3 + 1) - (x3 + 1)).toNat, by omega⟩
    have he8 : e ≤ 8 := by omega
    obtain ⟨c1, p1, q1, q2, q3, q4⟩ := sg_in (R := R) (N := N) hco hN (k0 := fun x4 x5 x6 x7 o4 o5 o6 o7 => (br (ilt 0 x7)
        ((br (!x6)
          (((spec_l1Cur_pick N (o4.1, (o4.2.1, o4.2.2)) x7).bind fun r6 =>
            ((spec_l2PutPair N o7 (r6.1.1, x7)).bind fun r7 =>
              spec_l1Cur_someGraph_l0 N k0 K x4 x5 x6 (IntKind.i64.wrap (x7 + 1)) r6.2.1 o5 o6 r7.1.1)))
          (spec_l1Cur_someGraph_l0 N k0 K x4 x5 x6 (IntKind.i64.wrap (x7 + 1)) o4 o5 o6 o7)))
        (spec_l1Cur_someGraph_l0 N k0 K x4 x5 x6 (IntKind.i64.wrap (x7 + 1)) o4 o5 o6 o7))) (x4 := x) (x5 := x1) (x6 := x2) (x7 := x3) (o5 := o1) (o6 := o2) e (x3 + 1) N k c o he (by omega) (by omega) (by omega) (by omega) hc (by omega) ho (by omega)
    rw [q1]
    simp only [hw]
    have keep : ∃ c' o', spec_l1Cur_someGraph_l0 N k0 K x x1 x2 (x3 + 1) c1 o1 o2 p1 = k0 c' o1 o2 o' ∧ CurOk code (k + 20 * (d + 1)) c' ∧ pairsUp o' ∧ o'.length ≤ o.length + 10 * (d + 1) := by
      obtain ⟨c', o', r1, r2, r3, r4⟩ := ih (x3 + 1) K (k + 2 * e) c1 p1 (by omega) (by omega) (by omega) (by omega) q2 (by omega) q3 (by omega)
      exact ⟨c', o', r1, cur_mono r2 (by omega), r3, by omega⟩
    by_cases hz : 0 < x3
    · rw [ilt_t hz, br_t]
      cases x2 with
      | true => exact keep
      | false =>
        simp only [Bool.not_false, br_t]
        obtain ⟨y, c2, e1, e2, _⟩ := pick_ok (N := N) hco q2 (by omega) x3
        rw [show ((c1.1, (c1.2.1, c1.2.2)) : List Int × (Int × Int)) = c1 from rfl, e1, bind_some']
        simp only []
        obtain ⟨o3, p2, p3, p4, p5⟩ := putPair_eq (N := N) (e := (y, x3)) q3 (by omega) hN
        rw [p2, bind_some']
        simp only []
        obtain ⟨c', o', r1, r2, r3, r4⟩ := ih (x3 + 1) K (k + 2 * e + 2) c2 o3 (by omega) (by omega) (by omega) (by omega) e2 (by omega) p3 (by omega)
        exact ⟨c', o', r1, cur_mono r2 (by omega), r3, by omega⟩
    · rw [ilt_f hz, br_f]
      exact keep
noncomputable def sgTail (N : Nat) (o : List Int × (Int × Int)) (o2 : Int) (o3 : List (Int × Int)) : Option (((Int × List (Int × Int)) × Unit) × ((List Int × (Int × Int)) × Unit)) :=
  ((spec_l1Cur_pick N o 50).bind fun r6 =>
    (br (ieq r6.1.1 0)
      (((spec_l1Cur_among N r6.2.1 [(-1), 8, 9, 0, 4611686018427387904]).bind fun r7 =>
        some (((r7.1.1, o3), ()), (r7.2.1, ()))))
      ((br (ieq r6.1.1 1)
        (((spec_l1Cur_pick N (r6.2.1.1, (r6.2.1.2.1, r6.2.1.2.2)) 4).bind fun r8 =>
          ((spec_l1Cur_pick N r8.2.1 9).bind fun r9 =>
            (chk (room o3 [(r8.1.1, (IntKind.i64.wrap (r9.1.1 - 1)))])
              (some (((o2, (tApp o3 [(r8.1.1, (IntKind.i64.wrap (r9.1.1 - 1)))])), ()), (r9.2.1, ())))))))
        ((br (ieq r6.1.1 2)
          ((br (ilt 0 (tLen o3))
            (((spec_l1Cur_pick N (r6.2.1.1, (r6.2.1.2.1, r6.2.1.2.2)) (tLen o3)).bind fun r10 =>
              (chk (inb o3 r10.1.1)
                (chk (room o3 [(rdP o3 r10.1.1)])
                (some (((o2, (tApp o3 [(rdP o3 r10.1.1)])), ()), (r10.2.1, ())))))))
            (some (((o2, o3), ()), (r6.2.1, ())))))
          (some (((o2, o3), ()), (r6.2.1, ())))))))))
theorem sgTail_ok {N : Nat} {code : List Int} {k : Nat} {c : List Int × (Int × Int)} {o2 : Int} {o3 : List (Int × Int)} (hco : codeOk code) (h : CurOk code k c) (hk : k ≤ 900000) (ho : o3.length ≤ 1000) :
    ∃ g c', sgTail N c o2 o3 = some ((g, ()), (c', ())) ∧ CurOk code (k + 10) c' ∧ g.2.length ≤ o3.length + 1 := by
  unfold sgTail
  obtain ⟨x, c1, e1, e2, _⟩ := pick_ok (N := N) hco h (by omega) 50
  rw [e1, bind_some']
  simp only [show ((c1.1, (c1.2.1, c1.2.2)) : List Int × (Int × Int)) = c1 from rfl]
  by_cases h0 : x = 0
  · rw [ieq_t h0, br_t]
    obtain ⟨y, c2, f1, f2, _⟩ := among_ok (N := N) hco e2 (by omega) (l := [(-1), 8, 9, 0, 4611686018427387904]) (by simp)
    rw [f1, bind_some']
    exact ⟨_, _, rfl, cur_mono f2 (by omega), by simp only []; omega⟩
  · rw [ieq_f h0, br_f]
    by_cases h1 : x = 1
    · rw [ieq_t h1, br_t]
      obtain ⟨y, c2, f1, f2, _⟩ := pick_ok (N := N) hco e2 (by omega) 4
      rw [f1, bind_some']
      simp only []
      obtain ⟨z, c3, g1, g2, _⟩ := pick_ok (N := N) hco f2 (by omega) 9
      rw [g1, bind_some']
      simp only []
      rw [room_ok (by simp; omega), chk_t]
      exact ⟨_, _, rfl, cur_mono g2 (by omega), by simp [tApp]⟩
    · rw [ieq_f h1, br_f]
      by_cases h2 : x = 2
      · rw [ieq_t h2, br_t, tLen_n]
        by_cases h3 : 0 < o3.length
        · rw [ilt_t (by omega), br_t]
          obtain ⟨y, c2, f1, f2, f3, _, f5⟩ := pick_ok (N := N) hco e2 (by omega) (o3.length : Int)
          rw [f1, bind_some']
          simp only []
          obtain ⟨n, rfl⟩ := Int.eq_ofNat_of_zero_le f3
          have hn : n < o3.length := by have := f5 (by omega); omega
          rw [inb_n hn, chk_t, room_ok (by simp; omega), chk_t]
          exact ⟨_, _, rfl, cur_mono f2 (by omega), by simp [tApp]⟩
        · rw [ilt_f (by omega), br_f]
          exact ⟨_, _, rfl, cur_mono e2 (by omega), by simp only []; omega⟩
      · rw [ieq_f h2, br_f]
        exact ⟨_, _, rfl, cur_mono e2 (by omega), by simp only []; omega⟩
theorem sg_fin {N : Nat} {code : List Int} {k : Nat} {c : List Int × (Int × Int)} {n x1 : Int} {x2 : Bool} (hco : codeOk code) (hN : 1048577 ≤ N) (h : CurOk code k c) (hk : k ≤ 100000) (hn : 0 ≤ n ∧ n ≤ 8) :
    ∃ g c', spec_l1Cur_someGraph_l0 N (fun o o1 o2 o3 => sgTail N o o2 o3) N n x1 x2 0 c 0 n [] = some ((g, ()), (c', ())) ∧ CurOk code (k + 180) c' ∧ g.2.length ≤ 100 := by
  obtain ⟨d, hd⟩ : ∃ d : Nat, n = (d : Int) := ⟨n.toNat, by omega⟩
  obtain ⟨c1, o1, e1, e2, e3, e4⟩ := sg_out (N := N) hco hN (k0 := fun o o1 o2 o3 => sgTail N o o2 o3) (x := n) (x1 := x1) (x2 := x2) (o1 := 0) (o2 := n) hn.2 d 0 N k c [] (by omega) (by omega) (by omega) (by omega) h (by omega) List.Pairwise.nil (by simp; omega)
  simp at e4
  obtain ⟨g, c2, f1, f2, f3⟩ := sgTail_ok (N := N) (o2 := n) hco e2 (by omega) (show o1.length ≤ 1000 by omega)
  exact ⟨g, c2, e1.trans f1, cur_mono f2 (by omega), by omega⟩
theorem someGraph_ok {N : Nat} {code : List Int} {k : Nat} {c : List Int × (Int × Int)} {most : Int} (hco : codeOk code) (hN : 1048577 ≤ N) (h : CurOk code k c) (hk : k ≤ 90000) (hm : 6 ≤ most ∧ most ≤ 8) :
    ∃ g c', spec_l1Cur_someGraph N c most = some ((g, ()), (c', ())) ∧ CurOk code (k + 200) c' ∧ g.2.length ≤ 100 := by
  unfold spec_l1Cur_someGraph
  obtain ⟨n, c1, a1, a2, a3⟩ := among_ok (N := N) hco h (by omega) (l := [4, 5, 3, 6, 2, 1, 0]) (by simp)
  rw [a1, bind_some']
  simp only []
  have hn : 0 ≤ n ∧ n ≤ 6 := by simp at a3; omega
  have rest : ∀ (n : Int) (kk : Nat) (c : List Int × (Int × Int)), 0 ≤ n → CurOk code kk c → kk ≤ k + 6 → ∃ g c', ((spec_l1Least N n most).bind fun r3 =>
      ((spec_l1Cur_among N c [1, 3, 4, 6]).bind fun r4 =>
        ((spec_l1Cur_one N r4.2.1 5).bind fun r5 =>
          spec_l1Cur_someGraph_l0 N (fun o o1 o2 o3 => sgTail N o o2 o3) N r3.1.1 r4.1.1 r5.1.1 0 r5.2.1 0 r3.1.1 []))) = some ((g, ()), (c', ())) ∧ CurOk code (k + 200) c' ∧ g.2.length ≤ 100 := by
    intro n kk c hn hc hkk
    rw [l1Least_eq, bind_some']
    simp only []
    obtain ⟨y, c2, b1, b2, _⟩ := among_ok (N := N) hco hc (by omega) (l := [1, 3, 4, 6]) (by simp)
    rw [b1, bind_some']
    simp only []
    obtain ⟨b, c3, d1, d2⟩ := one_ok (N := N) hco b2 (by omega) 5
    rw [d1, bind_some']
    simp only []
    have hr : 0 ≤ (if n < most then n else most) ∧ (if n < most then n else most) ≤ 8 := by split <;> omega
    obtain ⟨g, c', f1, f2, f3⟩ := sg_fin (N := N) (x1 := y) (x2 := b) hco hN d2 (by omega) hr
    exact ⟨g, c', f1, cur_mono f2 (by omega), f3⟩
  by_cases h6 : 6 < most
  · rw [ilt_t h6, br_t]
    obtain ⟨b, c2, d1, d2⟩ := one_ok (N := N) hco a2 (by omega) 4
    rw [d1, bind_some']
    simp only []
    cases b with
    | true =>
      rw [br_t]
      obtain ⟨y, c3, e1, e2, e3, e4, e5⟩ := pick_ok (N := N) hco d2 (by omega) 2
      rw [e1, bind_some']
      simp only []
      have := e5 (by omega)
      rw [wrap_ok (by omega) (by omega)]
      exact rest (7 + y) _ c3 (by omega) e2 (by omega)
    | false =>
      rw [br_f]
      exact rest n _ c2 hn.1 d2 (by omega)
  · rw [ilt_f h6, br_f]
    exact rest n _ c1 hn.1 a2 (by omega)
theorem graph_ok {N : Nat} {code : List Int} {k : Nat} {c : List Int × (Int × Int)} (hco : codeOk code) (hN : 1048577 ≤ N) (h : CurOk code k c) (hk : k ≤ 90000) : ∃ g c', spec_l1Cur_graph N c = some ((g, ()), (c', ())) ∧ CurOk code (k + 200) c' ∧ g.2.length ≤ 100 := by
  unfold spec_l1Cur_graph
  obtain ⟨g, c', e1, e2, e3⟩ := someGraph_ok (N := N) (most := 6) hco hN h hk (by omega)
  rw [e1, bind_some']
  exact ⟨g, c', rfl, e2, e3⟩
theorem good_up {g : Int × List (Int × Int)} (h : goodG g) : pairsUp g.2 := by
  unfold pairsUp
  rw [List.pairwise_iff_getElem]
  intro i j hi hj hij
  have key : ∀ d, ∀ (h2 : i + d + 1 < g.2.length), edgeLt g.2[i] g.2[i + d + 1] := by
    intro d
    induction d with
    | zero =>
      intro h2
      have := (h.2 (i + 1) h2).2 (by omega)
      rw [show i + 1 - 1 = i by omega, rdP_n hi, rdP_n h2] at this
      exact this
    | succ d ih =>
      intro h2
      have h3 := ih (by omega)
      have := (h.2 (i + d + 1 + 1) h2).2 (by omega)
      rw [show i + d + 1 + 1 - 1 = i + d + 1 by omega, rdP_n (show i + d + 1 < g.2.length by omega), rdP_n (show i + d + 1 + 1 < g.2.length by omega)] at this
      exact edgeLt_trans h3 this
  have h4 := key (j - i - 1) (by omega)
  have e : i + (j - i - 1) + 1 = j := by omega
  simp only [e] at h4
  exact h4
theorem dense_loop {R : Type} {N m : Nat} (hm : m ≤ 8) (hN : 1048577 ≤ N) {k0 : List Int × (Int × Int) → Int → Int → List (Int × Int) → Option R} {c : List Int × (Int × Int)} {o1 : Int} :
    ∀ (d x K : Nat) (o : List (Int × Int)), x + d = max m x → 1 ≤ x → x ≤ 100 → d < K → pairsUp o → o.length + d ≤ 1048576 → ∃ o', spec_l1Cur_dense5_l0 N k0 K (x : Int) c o1 (m : Int) o = k0 c o1 (m : Int) o' ∧ o'.length ≤ o.length + d := by
  intro d
  induction d with
  | zero =>
    intro x K o hd h1 h100 hK ho hl
    obtain ⟨K, rfl⟩ := succ_of hK
    refine ⟨o, ?_, by omega⟩
    simp only [spec_l1Cur_dense5_l0, ilt_nf (show ¬ x < m by omega), br_f]
  | succ d ih =>
    intro x K o hd h1 h100 hK ho hl
    obtain ⟨K, rfl⟩ := succ_of hK
    simp only [spec_l1Cur_dense5_l0, ilt_n (show x < m by omega), br_t]
    rw [l2Neighbors_eq hm (by omega) hN, bind_some']
    simp only []
    rw [wrap_succ (by omega)]
    by_cases h2 : tLen (nbr m o (x : Int)) < 2
    · rw [ilt_t h2, br_t]
      obtain ⟨o1', p1, p2, p3, p4⟩ := putPair_eq (N := N) (e := (IntKind.i64.wrap ((x : Int) - 1), (x : Int))) ho (by omega) hN
      rw [p1, bind_some']
      simp only []
      obtain ⟨o', q1, q2⟩ := ih (x + 1) K o1' (by omega) (by omega) (by omega) (by omega) p2 (by omega)
      exact ⟨o', q1, by omega⟩
    · rw [ilt_f h2, br_f]
      obtain ⟨o', q1, q2⟩ := ih (x + 1) K o (by omega) (by omega) (by omega) (by omega) ho (by omega)
      exact ⟨o', q1, by omega⟩
theorem dense5_ok {N : Nat} {code : List Int} {k : Nat} {c : List Int × (Int × Int)} (hco : codeOk code) (hN : 1048577 ≤ N) (h : CurOk code k c) (hk : k ≤ 90000) : ∃ g c', spec_l1Cur_dense5 N c = some ((g, ()), (c', ())) ∧ CurOk code (k + 210) c' ∧ g.2.length ≤ 110 := by
  unfold spec_l1Cur_dense5
  obtain ⟨g, c1, e1, e2, e3⟩ := graph_ok (N := N) hco hN h hk
  rw [e1, bind_some']
  simp only [show ((g.1, g.2) : Int × List (Int × Int)) = g from rfl]
  rw [l2Good_eq (by omega) hN, bind_some']
  by_cases hg : goodG g
  · rw [decide_eq_true hg]
    simp only [Bool.not_true, br_f]
    obtain ⟨b, c2, f1, f2⟩ := one_ok (N := N) hco e2 (by omega) 4
    rw [f1, bind_some']
    cases b with
    | true =>
      simp only [br_t]
      exact ⟨g, c2, rfl, cur_mono f2 (by omega), by omega⟩
    | false =>
      simp only [br_f]
      have hg1 := hg.1
      obtain ⟨m, hm⟩ : ∃ m : Nat, g.1 = (m : Int) := ⟨g.1.toNat, by omega⟩
      rw [hm]
      obtain ⟨o', q1, q2⟩ := dense_loop (N := N) (m := m) (by omega) hN (k0 := fun o o1 o2 o3 => some (((o2, o3), ()), (o, ()))) (c := c2) (o1 := 0) (max m 1 - 1) 1 N g.2 (by omega) (by omega) (by omega) (by omega) (good_up hg) (by omega)
      exact ⟨((m : Int), o'), c2, q1, cur_mono f2 (by omega), by simp only []; omega⟩
  · rw [decide_eq_false hg]
    exact ⟨g, c1, rfl, cur_mono e2 (by omega), by omega⟩
noncomputable def colTail (N : Nat) (o4 : List Int × (Int × Int)) (o5 : List Int) : Option ((List Int × Unit) × ((List Int × (Int × Int)) × Unit)) :=
  ((spec_l1Cur_one N o4 8).bind fun r7 =>
    (br r7.1.1
      (((spec_l1Cur_among N r7.2.1 [(-1), 0, 9]).bind fun r8 =>
        (chk (room o5 [r8.1.1])
          (some (((tApp o5 [r8.1.1]), ()), (r8.2.1, ()))))))
      (some ((o5, ()), (r7.2.1, ())))))
theorem col_loop {N : Nat} {code : List Int} (hco : codeOk code) {o1 : Int} {o2 : List (Int × Int)} : ∀ (d x K k : Nat) (c : List Int × (Int × Int)) (o : List Int), x + d = 9 → d < K → CurOk code k c → k + 2 * d + 20 ≤ 900000 → o.length ≤ x →
    ∃ a c', spec_l1Cur_colours5_l0 N (fun o4 o5 => colTail N o4 o5) K (x : Int) c o1 o2 o = some ((a, ()), (c', ())) ∧ CurOk code (k + 2 * d + 4) c' ∧ a.length ≤ 10 := by
  intro d
  have fin : ∀ (k : Nat) (c : List Int × (Int × Int)) (o : List Int), CurOk code k c → k ≤ 900000 → o.length ≤ 9 → ∃ a c', colTail N c o = some ((a, ()), (c', ())) ∧ CurOk code (k + 4) c' ∧ a.length ≤ 10 := by
    intro k c o hc hk ho
    unfold colTail
    obtain ⟨b, c2, f1, f2⟩ := one_ok (N := N) hco hc (by omega) 8
    rw [f1, bind_some']
    cases b with
    | true =>
      simp only [br_t]
      obtain ⟨y, c3, g1, g2, _⟩ := among_ok (N := N) hco f2 (by omega) (l := [(-1), 0, 9]) (by simp)
      rw [g1, bind_some']
      simp only []
      rw [room_ok (by simp; omega), chk_t]
      exact ⟨_, _, rfl, g2, by simp [tApp]; omega⟩
    | false =>
      simp only [br_f]
      exact ⟨_, _, rfl, cur_mono f2 (by omega), by omega⟩
  induction d with
  | zero =>
    intro x K k c o hd hK hc hk ho
    obtain ⟨K, rfl⟩ := succ_of hK
    have e : x = 9 := by omega
    subst e
    simp only [spec_l1Cur_colours5_l0]
    rw [ilt_f (show ¬ ((9 : Nat) : Int) < 9 by omega), br_f]
    obtain ⟨a, c', f1, f2, f3⟩ := fin k c o hc (by omega) ho
    rw [f1]
    refine ⟨a, c', ?_, cur_mono f2 (by omega), f3⟩
    cases ilt ((9 : Nat) : Int) o1 <;> rfl
  | succ d ih =>
    intro x K k c o hd hK hc hk ho
    obtain ⟨K, rfl⟩ := succ_of hK
    simp only [spec_l1Cur_colours5_l0]
    by_cases h1 : (x : Int) < o1
    · rw [ilt_t h1, br_t, ilt_t (show (x : Int) < 9 by omega), br_t]
      obtain ⟨y, c2, f1, f2, _⟩ := pick_ok (N := N) hco hc (by omega) 4
      rw [f1, bind_some']
      simp only []
      rw [room_ok (by simp; omega), chk_t, wrap_succ (by omega)]
      obtain ⟨a, c', g1, g2, g3⟩ := ih (x + 1) K (k + 2) c2 (tApp o [y]) (by omega) (by omega) f2 (by omega) (by simp [tApp]; omega)
      exact ⟨a, c', g1, cur_mono g2 (by omega), g3⟩
    · rw [ilt_f h1, br_f]
      obtain ⟨a, c', f1, f2, f3⟩ := fin k c o hc (by omega) (by omega)
      exact ⟨a, c', f1, cur_mono f2 (by omega), f3⟩
theorem colours5_ok {N : Nat} {code : List Int} {k : Nat} {c : List Int × (Int × Int)} {g : Int × List (Int × Int)} {q : Int} (hco : codeOk code) (hN : 1048577 ≤ N) (h : CurOk code k c) (hk : k ≤ 800000) (hg : g.2.length ≤ 1048576) :
    ∃ a c', spec_l1Cur_colours5 N c g q = some ((a, ()), (c', ())) ∧ CurOk code (k + 30) c' ∧ a.length ≤ 10 := by
  unfold spec_l1Cur_colours5
  simp only [show ((g.1, g.2) : Int × List (Int × Int)) = g from rfl]
  rw [l5All_eq hg hN, bind_some']
  simp only []
  obtain ⟨r1, r2⟩ := colsR_ok g q
  have other : ∀ (kk : Nat) (c : List Int × (Int × Int)), CurOk code kk c → kk ≤ k + 2 → ∃ a c', spec_l1Cur_colours5_l0 N (fun o4 o5 => colTail N o4 o5) N 0 c g.1 g.2 [] = some ((a, ()), (c', ())) ∧ CurOk code (k + 30) c' ∧ a.length ≤ 10 := by
    intro kk c hc hkk
    obtain ⟨a, c', g1, g2, g3⟩ := col_loop (N := N) hco (o1 := g.1) (o2 := g.2) 9 0 N kk c [] (by omega) (by omega) hc (by omega) (by simp)
    exact ⟨a, c', g1, cur_mono g2 (by omega), g3⟩
  cases (colsR g q).2 with
  | false =>
    rw [br_f]
    exact other k c h (by omega)
  | true =>
    rw [br_t, tLen_n]
    by_cases h0 : 0 < (colsR g q).1.length
    · rw [ilt_t (by omega), br_t]
      obtain ⟨b, c2, f1, f2⟩ := one_ok (N := N) hco h (by omega) 10
      rw [f1, bind_some']
      simp only []
      cases b with
      | true =>
        simp only [Bool.not_true, br_f]
        exact other _ c2 f2 (by omega)
      | false =>
        simp only [Bool.not_false, br_t]
        obtain ⟨y, c3, g1, g2, g3, _, g5⟩ := pick_ok (N := N) hco f2 (by omega) ((colsR g q).1.length : Int)
        rw [g1, bind_some']
        simp only []
        obtain ⟨n, rfl⟩ := Int.eq_ofNat_of_zero_le g3
        have hn : n < (colsR g q).1.length := by have := g5 (by omega); omega
        rw [inb_n hn, chk_t, rdL_n hn]
        have := r2 _ (List.getElem_mem hn)
        exact ⟨_, _, rfl, cur_mono g2 (by omega), by omega⟩
    · rw [ilt_f (by omega), br_f]
      exact other k c h (by omega)
theorem cur0 {code : List Int} : CurOk code 0 (code, (0, 0)) := ⟨rfl, Int.le_refl _, by simp⟩
theorem code_ok {x : List Int} (h : ∀ y ∈ x, (Lit.int .u8 y).wf = true) (hl : x.length ≤ 65536) : codeOk x := by
  refine ⟨by omega, fun y hy => ?_⟩
  have := h y hy
  simp [Lit.wf, IntKind.min, IntKind.max, IntKind.signed, IntKind.bits] at this
  omega
theorem apart_symm {a b : List Int} (h : a.length = b.length) : apartL a b = apartL b a := by
  unfold apartL
  rw [h]
  congr 1
  refine List.filter_congr fun i _ => decide_eq_decide.2 ⟨Ne.symm, Ne.symm⟩
theorem mem_apart {a b : List Int} {x : Int} : x ∈ apartL a b ↔ ∃ i : Nat, i < a.length ∧ rdI a (i : Int) ≠ rdI b (i : Int) ∧ x = (i : Int) := by
  unfold apartL
  rw [List.mem_map]
  constructor
  · rintro ⟨i, hi, rfl⟩
    obtain ⟨h1, h2⟩ := List.mem_filter.1 hi
    have := List.mem_range'_1.1 h1
    exact ⟨i, by omega, of_decide_eq_true h2, rfl⟩
  · rintro ⟨i, h1, h2, rfl⟩
    exact ⟨i, List.mem_filter.2 ⟨List.mem_range'_1.2 (by omega), decide_eq_true h2⟩, rfl⟩
theorem near_step {xs : List (List Int)} {p : List Int → List Int → Bool} {u v : Int} (hp : ∀ x ∈ xs, ∀ y ∈ xs, p x y = true → p y x = true) (hu : InN xs.length u) (hv : v ∈ rdL (nbL xs.length (stepsL p xs)) u) : rdL xs u ∈ xs ∧ rdL xs v ∈ xs ∧ p (rdL xs u) (rdL xs v) = true ∧ InN xs.length v := by
  have hok := stepsL_ok (p := p) (xs := xs)
  rw [nbL_rd hu] at hv
  have hvn := nbS_in hok v hv
  obtain ⟨i, hi, rfl⟩ := nat_of hu
  obtain ⟨j, hj, rfl⟩ := nat_of hvn
  have m1 : rdL xs (i : Int) ∈ xs := by rw [rdL_n hi]; exact List.getElem_mem hi
  have m2 : rdL xs (j : Int) ∈ xs := by rw [rdL_n hj]; exact List.getElem_mem hj
  refine ⟨m1, m2, ?_, hvn⟩
  rcases (mem_nbS hok).1 hv with h | h
  · obtain ⟨i', j', e, _, _, hq⟩ := mem_stepsL.1 h
    have q1 : (j : Int) = (i' : Int) := congrArg Prod.fst e
    have q2 : (i : Int) = (j' : Int) := congrArg Prod.snd e
    rw [← q1, ← q2] at hq
    exact hp _ m2 _ m1 hq
  · obtain ⟨i', j', e, _, _, hq⟩ := mem_stepsL.1 h
    have q1 : (i : Int) = (i' : Int) := congrArg Prod.fst e
    have q2 : (j : Int) = (j' : Int) := congrArg Prod.snd e
    rw [← q1, ← q2] at hq
    exact hq
theorem isCh_symm {a b : List Int} (h : a.length = b.length) (hc : isCh a b = true) : isCh b a = true := by
  unfold isCh at *
  rw [apart_symm h.symm]
  exact hc
theorem wk_of_wl {L : List (List Int)} {x y : Int} {k : Nat} (h : Wl L x k y) : Wk L x y := by
  induction h with
  | base => exact .base
  | step _ hz ih => exact .step ih hz
def preC (es : List (Int × Int)) (b : List Int) : Prop := ∀ i : Nat, i < b.length → freeC es (b.take i) (rdI b (i : Int))
theorem moreC_free {k : Nat} {es : List (Int × Int)} : ∀ (d : Nat) (b : List Int) (l : List (List Int)), preC es b → (∀ x ∈ l, preC es x) → ∀ x ∈ moreC k es d b l, preC es x := by
  intro d
  induction d with
  | zero =>
    intro b l hb h x hx
    simp only [moreC, List.mem_append, List.mem_singleton] at hx
    rcases hx with hx | rfl
    · exact h x hx
    · exact hb
  | succ d ih =>
    intro b l hb h
    unfold moreC
    refine stepsC_inv (p := fun l => ∀ x ∈ l, preC es x) (fun c l h1 h2 => ?_) k 0 l h
    by_cases hf : freeC es b (c : Int)
    · rw [if_pos hf]
      refine ih _ _ (fun i hi => ?_) h2
      by_cases hib : i < b.length
      · rw [List.take_append_of_le_length (by omega), rdI_n hi, List.getElem_append_left hib, ← rdI_n hib]
        exact hb i hib
      · have e : i = b.length := by simp at hi; omega
        subst e
        rw [List.take_left, rdI_n hi, List.getElem_concat_length rfl]
        exact hf
    · rw [if_neg hf]; exact h2
end Go.Proofs.YtkffaahlpdlkoaaGreat
