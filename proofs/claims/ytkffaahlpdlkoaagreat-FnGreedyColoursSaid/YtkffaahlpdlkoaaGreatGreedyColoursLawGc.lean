/- Statements on data alone. -/
import Derived.Test.YtkffaahlpdlkoaaGreatPvPure
import Derived.Test.YtkffaahlpdlkoaaGreatGreedyColoursLawGb
set_option linter.all false
set_option linter.all false
namespace Go.Proofs.YtkffaahlpdlkoaaGreat
open Go Go.PV Classical
theorem colSteps_le {g : Int × List (Int × Int)} {k : Int} (h : colCase g k) (hl : (allC g k).length ≤ 300) : (stepsL isCh (allC g k)).length ≤ 4800 := by
  obtain ⟨s1, s2⟩ := allC_sorted g k
  have hr := allC_rows (g := g) (k := k)
  have hg := h.1.1
  have hk := h.2
  have := steps_half (p := isCh) (xs := allC g k) (B := 32) (fun a ha b hb => by unfold isCh; rw [apartL_symm (by rw [hr a ha, hr b hb])]) fun i hi => by
    have hi' : rdL (allC g k) (i : Int) ∈ allC g k := by rw [rdL_n hi]; exact List.getElem_mem hi
    refine Nat.le_trans (numP_le (p := fun b => isCh (rdL (allC g k) (i : Int)) b) (lexSorted_nodup s1) fun b hb hc => isCh_mem (by rw [hr _ hi', hr b hb]) (s2 b hb) hc) ?_
    refine Nat.le_trans (changesL_len (s2 _ hi')) ?_
    rw [hr _ hi']
    exact Nat.le_trans (Nat.mul_le_mul (show g.1.toNat ≤ 8 by omega) (show k.toNat - 1 ≤ 4 by omega)) (by omega)
  omega
theorem l5Changed_ap {N : Nat} {a b : List Int} (ha : a.length ≤ 1048576) (hab : a.length ≤ b.length) (hN : 1048577 ≤ N) : Zq86 N a b = some ((apartL a b, ()), ()) := by
  unfold Zq86
  refine (loop_iter (L := fun K n o => Zq86_l0 N (fun o => some ((o, ()), ())) K a b n o) (k := fun o => some ((o, ()), ())) (Inv := fun n o => o.length ≤ n) (step := fun n o => if rdI a (n : Int) ≠ rdI b (n : Int) then o ++ [(n : Int)] else o) (fun K n s hn _ => ?_) (fun K n s hn hs => ?_) (fun n s hn h => ?_) (s := []) (m := a.length) (K := N) (by omega) (Nat.zero_le _)).trans ?_
  · simp only [Zq86_l0, ilt_lenf hn, br_f]
  · simp only [Zq86_l0, ilt_len hn, br_t, inb_n hn, inb_n (show n < b.length by omega), chk_t]
    rw [wrap_succ (by omega), room_ok (by simp; omega), chk_t, tApp_d]
    by_cases h : rdI a (n : Int) = rdI b (n : Int)
    · rw [ine_f h, br_f, if_neg (not_not_intro h)]
    · rw [ine_t h, br_t, if_pos h]
  · by_cases hc : rdI a (n : Int) = rdI b (n : Int)
    · rw [if_neg (not_not_intro hc)]; omega
    · rw [if_pos hc]; simp; omega
  · rw [iter_app, List.nil_append]
    rfl
theorem l5Space_loop {N : Nat} {m : Int} {es : List (Int × Int)} {kempe : Bool} {xs : List (List Int)} {p : List Int → List Int → Bool} (hp : ∀ a ∈ xs, ∀ b ∈ xs, Zq91 N (m, es) kempe a b = some ((p a b, ()), ())) (hx : xs.length < 1024) (hN : 1048577 ≤ N) :
    Zq90_l0 N (fun o o1 => some (((o, o1), true, ()), ())) N kempe 0 m es xs [] = some (((xs, stepsL p xs), true, ()), ()) := by
  have hrd : ∀ j : Nat, j < xs.length → rdL xs (j : Int) ∈ xs := fun j hj => by rw [rdL_n hj]; exact List.getElem_mem hj
  have inner : ∀ (d i j K : Nat) (o : List (Int × Int)) (k0 : Bool → Int → Int → List (Int × Int) → List (List Int) → List (Int × Int) → Option (((List (List Int) × List (Int × Int)) × Bool × Unit) × Unit)), i < xs.length → j + d = xs.length → d < K → o.length + d ≤ 1099511627776 →
      Zq90_l0_0 N k0 K kempe (i : Int) (j : Int) m es xs o = k0 kempe (i : Int) m es xs (o ++ ((List.range' j d).filter fun j : Nat => p (rdL xs (i : Int)) (rdL xs (j : Int))).map fun j : Nat => ((i : Int), (j : Int))) := by
    intro d
    induction d with
    | zero =>
      intro i j K o k0 hi hj hK ho
      obtain ⟨k, rfl⟩ := succ_of hK
      simp only [Zq90_l0_0, ilt_lenf (show ¬ j < xs.length by omega), br_f]
      simp
    | succ d ih =>
      intro i j K o k0 hi hj hK ho
      obtain ⟨k, rfl⟩ := succ_of hK
      have hj' : j < xs.length := by omega
      simp only [Zq90_l0_0, ilt_len hj', br_t, inb_n hi, inb_n hj', chk_t]
      rw [hp _ (hrd i hi) _ (hrd j hj'), bind_some', room_ok (by simp; omega), chk_t, wrap_succ (by omega), tApp_d, List.range'_succ]
      simp only []
      cases hb : p (rdL xs (i : Int)) (rdL xs (j : Int)) with
      | true =>
        rw [br_t, ih i (j + 1) k _ k0 hi (by omega) (by omega) (by simp; omega), List.filter_cons_of_pos (by exact hb), List.append_assoc]
        rfl
      | false =>
        rw [br_f, ih i (j + 1) k _ k0 hi (by omega) (by omega) (by omega), List.filter_cons_of_neg (by rw [hb]; simp)]
  have go : ∀ (d i K : Nat) (o : List (Int × Int)), i + d = xs.length → d < K → o.length ≤ i * xs.length →
      Zq90_l0 N (fun o o1 => some (((o, o1), true, ()), ())) K kempe (i : Int) m es xs o = some (((xs, o ++ (List.range' i d).flatMap (rowSteps p xs)), true, ()), ()) := by
    intro d
    induction d with
    | zero =>
      intro i K o hd hK ho
      obtain ⟨k, rfl⟩ := succ_of hK
      simp only [Zq90_l0, ilt_lenf (show ¬ i < xs.length by omega), br_f]
      simp
    | succ d ih =>
      intro i K o hd hK ho
      obtain ⟨k, rfl⟩ := succ_of hK
      have hi : i < xs.length := by omega
      have hmul : i * xs.length ≤ 1024 * 1024 := Nat.mul_le_mul (by omega) (by omega)
      simp only [Zq90_l0, ilt_len hi, br_t]
      rw [wrap_succ (by omega)]
      have h1 := inner (xs.length - (i + 1)) i (i + 1) N o (fun kempe2 i1 o4 o5 o6 o7 => Zq90_l0 N (fun o o1 => some (((o, o1), true, ()), ())) k kempe2 (IntKind.i64.wrap (i1 + 1)) o4 o5 o6 o7) hi (by omega) (by omega) (by omega)
      rw [h1, wrap_succ (by omega)]
      have h2 := rowSteps_len p xs i
      have h3 := ih (i + 1) k (o ++ rowSteps p xs i) (by omega) (by omega) (by rw [List.length_append, Nat.add_mul, Nat.one_mul]; omega)
      rw [List.append_assoc] at h3
      rw [List.range'_succ, List.flatMap_cons]
      exact h3
  have := go xs.length 0 N [] (by omega) (by omega) (Nat.zero_le _)
  exact this
theorem orNone_eq {N : Nat} {x : List (List Int) × List (Int × Int)} (h1 : x.1.length ≤ 300) (h2 : x.2.length ≤ 6000) : Zq31 N x = some ((x, true, ()), ()) := by
  unfold Zq31
  rw [tLen_n, tLen_n, ilt_f (by omega), br_f, ilt_f (by omega), br_f]
noncomputable def colSpV (g : Int × List (Int × Int)) (k : Int) : (List (List Int) × List (Int × Int)) × Bool := if colCase g k ∧ (allC g k).length ≤ 300 then ((allC g k, stepsL isCh (allC g k)), true) else (([], []), false)
def okSt (n : Nat) (st : List (Int × Int)) : Prop := (st.Pairwise fun a b => a.1 < b.1 ∨ (a.1 = b.1 ∧ a.2 < b.2)) ∧ ∀ e ∈ st, 0 ≤ e.1 ∧ e.1 < e.2 ∧ e.2 < (n : Int)
noncomputable def nbA (st : List (Int × Int)) (v : Int) : List Int := (st.filter fun e => decide (e.2 = v)).map Prod.fst
noncomputable def nbB (st : List (Int × Int)) (v : Int) : List Int := (st.filter fun e => decide (e.1 = v)).map Prod.snd
noncomputable def nbS (st : List (Int × Int)) (v : Int) : List Int := nbA st v ++ nbB st v
noncomputable def nbT (st : List (Int × Int)) (v : Int) : List Int := st.flatMap fun e => (if e.1 = v then [e.2] else []) ++ (if e.2 = v then [e.1] else [])
noncomputable def nbL (n : Nat) (st : List (Int × Int)) : List (List Int) := (List.range n).map fun i : Nat => nbS st (i : Int)
theorem okSt_cons {n : Nat} {e : Int × Int} {st : List (Int × Int)} (h : okSt n (e :: st)) : okSt n st := ⟨(List.pairwise_cons.1 h.1).2, fun e' he' => h.2 e' (List.mem_cons_of_mem _ he')⟩
theorem nbT_eq {n : Nat} : ∀ {st : List (Int × Int)} {v : Int}, okSt n st → nbT st v = nbS st v := by
  intro st v
  induction st with
  | nil => intro _; rfl
  | cons e st ih =>
    intro h
    have ih := ih (okSt_cons h)
    have h1 := h.2 e (List.mem_cons_self ..)
    have h2 := (List.pairwise_cons.1 h.1).1
    unfold nbT at ih ⊢
    rw [List.flatMap_cons, ih]
    unfold nbS nbA nbB
    by_cases he : e.1 = v
    · have hne : ¬ e.2 = v := by omega
      have hnil : (st.filter fun e => decide (e.2 = v)) = [] := List.filter_eq_nil_iff.2 fun b hb => by
        have hb1 := h2 b hb
        have hb2 := h.2 b (List.mem_cons_of_mem _ hb)
        simp only [decide_eq_true_eq]
        omega
      rw [if_pos he, if_neg hne, List.filter_cons_of_neg (by simp [hne]), List.filter_cons_of_pos (by simp [he]), hnil]
      rfl
    · by_cases he2 : e.2 = v
      · rw [if_neg he, if_pos he2, List.filter_cons_of_pos (by simp [he2]), List.filter_cons_of_neg (by simp [he])]
        rfl
      · rw [if_neg he, if_neg he2, List.filter_cons_of_neg (by simp [he2]), List.filter_cons_of_neg (by simp [he])]
        rfl
theorem nbS_strict {n : Nat} {st : List (Int × Int)} {v : Int} (h : okSt n st) : (nbS st v).Pairwise (· < ·) := by
  unfold nbS nbA nbB
  refine List.pairwise_append.2 ⟨?_, ?_, ?_⟩
  · refine List.pairwise_map.2 ((h.1.filter _).imp_of_mem fun {a b} ha hb hab => ?_)
    have e1 := of_decide_eq_true (List.mem_filter.1 ha).2
    have e2 := of_decide_eq_true (List.mem_filter.1 hb).2
    omega
  · refine List.pairwise_map.2 ((h.1.filter _).imp_of_mem fun {a b} ha hb hab => ?_)
    have e1 := of_decide_eq_true (List.mem_filter.1 ha).2
    have e2 := of_decide_eq_true (List.mem_filter.1 hb).2
    omega
  · intro a ha b hb
    obtain ⟨a', ha1, rfl⟩ := List.mem_map.1 ha
    obtain ⟨b', hb1, rfl⟩ := List.mem_map.1 hb
    have e1 := of_decide_eq_true (List.mem_filter.1 ha1).2
    have e2 := of_decide_eq_true (List.mem_filter.1 hb1).2
    have l1 := h.2 a' (List.mem_filter.1 ha1).1
    have l2 := h.2 b' (List.mem_filter.1 hb1).1
    omega
theorem nbS_in {n : Nat} {st : List (Int × Int)} {v : Int} (h : okSt n st) : ∀ z ∈ nbS st v, InN n z := by
  intro z hz
  unfold nbS nbA nbB at hz
  rcases List.mem_append.1 hz with hz | hz
  · obtain ⟨a, ha, rfl⟩ := List.mem_map.1 hz
    have := h.2 a (List.mem_filter.1 ha).1
    exact ⟨by omega, by omega⟩
  · obtain ⟨a, ha, rfl⟩ := List.mem_map.1 hz
    have := h.2 a (List.mem_filter.1 ha).1
    exact ⟨by omega, by omega⟩
theorem nbS_len {n : Nat} {st : List (Int × Int)} {v : Int} (h : okSt n st) : (nbS st v).length ≤ n :=
  inM_len ⟨strict_nodup (nbS_strict h), nbS_in h⟩
theorem mem_nbS {n : Nat} {st : List (Int × Int)} {v w : Int} (h : okSt n st) : w ∈ nbS st v ↔ (w, v) ∈ st ∨ (v, w) ∈ st := by
  unfold nbS nbA nbB
  rw [List.mem_append, List.mem_map, List.mem_map]
  constructor
  · rintro (⟨a, ha, rfl⟩ | ⟨a, ha, rfl⟩)
    · have e1 := of_decide_eq_true (List.mem_filter.1 ha).2
      refine .inl ?_
      rw [← e1]
      exact (List.mem_filter.1 ha).1
    · have e1 := of_decide_eq_true (List.mem_filter.1 ha).2
      refine .inr ?_
      rw [← e1]
      exact (List.mem_filter.1 ha).1
  · rintro (ha | ha)
    · exact .inl ⟨_, List.mem_filter.2 ⟨ha, by simp⟩, rfl⟩
    · exact .inr ⟨_, List.mem_filter.2 ⟨ha, by simp⟩, rfl⟩
theorem nbL_rd {n : Nat} {st : List (Int × Int)} {v : Int} (hv : InN n v) : rdL (nbL n st) v = nbS st v := by
  obtain ⟨i, hi, rfl⟩ := nat_of hv
  rw [rdL_n (by simp [nbL]; exact hi)]
  simp [nbL]
theorem nbL_ok {n : Nat} {st : List (Int × Int)} (hn : n ≤ 1048576) (h : okSt n st) : okLists (nbL n st) n := by
  refine ⟨by simp [nbL], fun l hl => ?_⟩
  obtain ⟨i, _, rfl⟩ := List.mem_map.1 hl
  exact ⟨Nat.le_trans (nbS_len h) hn, nbS_in h⟩
theorem stepsL_ok {p : List Int → List Int → Bool} {xs : List (List Int)} : okSt xs.length (stepsL p xs) := by
  have hin : ∀ i, i < xs.length → ∀ e ∈ rowSteps p xs i, e.1 = (i : Int) ∧ e.1 < e.2 ∧ e.2 < (xs.length : Int) := by
    intro i hi e he
    unfold rowSteps at he
    obtain ⟨j, hj, rfl⟩ := List.mem_map.1 he
    have := List.mem_range'_1.1 (List.mem_filter.1 hj).1
    refine ⟨rfl, ?_, ?_⟩
    · show (i : Int) < (j : Int)
      omega
    · show (j : Int) < _
      omega
  constructor
  · unfold stepsL
    rw [List.pairwise_flatMap]
    refine ⟨fun i hi => ?_, ?_⟩
    · unfold rowSteps
      refine List.pairwise_map.2 (List.Pairwise.filter _ ?_)
      refine (List.pairwise_lt_range' (step := 1) (by omega)).imp fun {a b} hab => .inr ⟨rfl, ?_⟩
      show (a : Int) < (b : Int)
      omega
    · refine List.Pairwise.imp_of_mem ?_ (List.pairwise_lt_range' (step := 1) (by omega))
      intro a b ha hb hab x hx y hy
      have ha := List.mem_range'_1.1 ha
      have hb := List.mem_range'_1.1 hb
      have h1 := hin a (by omega) x hx
      have h2 := hin b (by omega) y hy
      omega
  · intro e he
    unfold stepsL at he
    obtain ⟨i, hi, he⟩ := List.mem_flatMap.1 he
    have hi := List.mem_range'_1.1 hi
    have := hin i (by omega) e he
    omega
theorem set_map {n v : Nat} {f g : Nat → List Int} {u : List Int} (h : g v = u) (ho : ∀ i, i < n → i ≠ v → g i = f i) : tSet ((List.range n).map f) (v : Int) u = (List.range n).map g := by
  rw [tSet_n]
  refine List.ext_getElem (by simp) fun i h1 h2 => ?_
  rw [List.length_set, List.length_map, List.length_range] at h1
  by_cases hi : i = v
  · subst hi
    rw [List.getElem_set_self]
    simp [h]
  · rw [List.getElem_set_ne (fun e => hi e.symm)]
    simp [ho i h1 hi]
theorem rdL_map {n : Nat} {f : Nat → List Int} {i : Nat} (hi : i < n) : rdL ((List.range n).map f) (i : Int) = f i := by
  rw [rdL_n (by simp; exact hi)]
  simp
theorem inb_map {n : Nat} {f : Nat → List Int} {i : Nat} (hi : i < n) : inb ((List.range n).map f) (i : Int) = true := inb_n (by simp; exact hi)
theorem rep_map (n : Nat) : List.replicate n ([] : List Int) = (List.range n).map fun _ => [] := by
  refine List.ext_getElem (by simp) fun i h1 h2 => ?_
  simp
theorem rdP_mid (p q : List (Int × Int)) (e : Int × Int) : rdP (p ++ e :: q) ((p.length : Nat) : Int) = e := by simp [rdP]
theorem nbA_snoc (p : List (Int × Int)) (e : Int × Int) (v : Int) : nbA (p ++ [e]) v = nbA p v ++ if e.2 = v then [e.1] else [] := by
  unfold nbA
  by_cases h : e.2 = v <;> simp [h]
theorem nbB_snoc (p : List (Int × Int)) (e : Int × Int) (v : Int) : nbB (p ++ [e]) v = nbB p v ++ if e.1 = v then [e.2] else [] := by
  unfold nbB
  by_cases h : e.1 = v <;> simp [h]
theorem nbT_snoc (p : List (Int × Int)) (e : Int × Int) (v : Int) : nbT (p ++ [e]) v = nbT p v ++ ((if e.1 = v then [e.2] else []) ++ (if e.2 = v then [e.1] else [])) := by
  unfold nbT
  rw [List.flatMap_append]
  simp
theorem nbA_len (p : List (Int × Int)) (v : Int) : (nbA p v).length ≤ p.length := by unfold nbA; rw [List.length_map]; exact List.length_filter_le ..
theorem nbB_len (p : List (Int × Int)) (v : Int) : (nbB p v).length ≤ p.length := by unfold nbB; rw [List.length_map]; exact List.length_filter_le ..
theorem nbT_len (p : List (Int × Int)) (v : Int) : (nbT p v).length ≤ 2 * p.length := by
  induction p with
  | nil => simp [nbT]
  | cons e p ih =>
    unfold nbT at ih ⊢
    rw [List.flatMap_cons, List.length_append, List.length_append, List.length_cons]
    have h1 : (if e.1 = v then [e.2] else []).length ≤ 1 := by by_cases h : e.1 = v <;> simp [h]
    have h2 : (if e.2 = v then [e.1] else []).length ≤ 1 := by by_cases h : e.2 = v <;> simp [h]
    omega
theorem l2Lists_eq {N : Nat} {xs : List (List Int)} {st : List (Int × Int)} (hx : xs.length ≤ 1048576) (hs : st.length ≤ 1048576) (h : okSt xs.length st) (hN : 1048577 ≤ N) : Zq75 N (xs, st) = some ((nbL xs.length st, ()), ()) := by
  have hin : ∀ e ∈ st, ∃ a b : Nat, e = ((a : Int), (b : Int)) ∧ a < xs.length ∧ b < xs.length := fun e he => by
    have := h.2 e he
    exact ⟨e.1.toNat, e.2.toNat, Prod.ext (by simp only []; omega) (by simp only []; omega), by omega, by omega⟩
  have goA : ∀ (q p : List (Int × Int)) (K : Nat) (k0 : List (List Int) → List (Int × Int) → List (List Int) → Option ((List (List Int) × Unit) × Unit)), q.length < K → p ++ q = st →
      Zq75_l0 N k0 K (p.length : Int) xs st ((List.range xs.length).map fun i : Nat => nbA p (i : Int)) = k0 xs st ((List.range xs.length).map fun i : Nat => nbA st (i : Int)) := by
    intro q
    induction q with
    | nil =>
      intro p K k0 hK hp
      obtain ⟨k, rfl⟩ := succ_of hK
      rw [List.append_nil] at hp
      subst hp
      simp only [Zq75_l0, ilt_lenf (Nat.lt_irrefl _), br_f]
    | cons e q ih =>
      intro p K k0 hK hp
      obtain ⟨k, rfl⟩ := succ_of hK
      have hpl : p.length < st.length := by rw [← hp]; simp
      obtain ⟨a, b, rfl, ha, hb⟩ := hin e (by rw [← hp]; simp)
      have hr : rdP st (p.length : Int) = ((a : Int), (b : Int)) := by rw [← hp, rdP_mid]
      have hl := nbA_len p (b : Int)
      simp only [Zq75_l0, ilt_len hpl, br_t, inb_n hpl, chk_t, hr, inb_map hb, rdL_map hb]
      rw [room_ok (by simp; omega), chk_t, ieq_t rfl, chk_t, wrap_succ (by omega), tApp_d, set_map (g := fun i : Nat => nbA (p ++ [((a : Int), (b : Int))]) (i : Int)) (by rw [nbA_snoc]; simp) (fun i _ hi => by rw [nbA_snoc, if_neg (by simp only []; omega), List.append_nil])]
      have := ih (p ++ [((a : Int), (b : Int))]) k k0 (by simp at hK; omega) (by rw [List.append_assoc]; exact hp)
      rw [List.length_append, List.length_singleton] at this
      exact this
  have goB : ∀ (q p : List (Int × Int)) (K : Nat) (k0 : List (List Int) → Option ((List (List Int) × Unit) × Unit)), q.length < K → p ++ q = st →
      Zq75_l1 N k0 K (p.length : Int) xs st ((List.range xs.length).map fun i : Nat => nbA st (i : Int) ++ nbB p (i : Int)) = k0 ((List.range xs.length).map fun i : Nat => nbA st (i : Int) ++ nbB st (i : Int)) := by
    intro q
    induction q with
    | nil =>
      intro p K k0 hK hp
      obtain ⟨k, rfl⟩ := succ_of hK
      rw [List.append_nil] at hp
      subst hp
      simp only [Zq75_l1, ilt_lenf (Nat.lt_irrefl _), br_f]
    | cons e q ih =>
      intro p K k0 hK hp
      obtain ⟨k, rfl⟩ := succ_of hK
      have hpl : p.length < st.length := by rw [← hp]; simp
      obtain ⟨a, b, rfl, ha, hb⟩ := hin e (by rw [← hp]; simp)
      have hr : rdP st (p.length : Int) = ((a : Int), (b : Int)) := by rw [← hp, rdP_mid]
      have hl := nbB_len p (a : Int)
      have hl2 := nbA_len st (a : Int)
      simp only [Zq75_l1, ilt_len hpl, br_t, inb_n hpl, chk_t, hr, inb_map ha, rdL_map ha]
      rw [room_ok (by simp; omega), chk_t, ieq_t rfl, chk_t, wrap_succ (by omega), tApp_d, set_map (g := fun i : Nat => nbA st (i : Int) ++ nbB (p ++ [((a : Int), (b : Int))]) (i : Int)) (by rw [nbB_snoc]; simp) (fun i _ hi => by rw [nbB_snoc, if_neg (by simp only []; omega), List.append_nil])]
      have := ih (p ++ [((a : Int), (b : Int))]) k k0 (by simp at hK; omega) (by rw [List.append_assoc]; exact hp)
      rw [List.length_append, List.length_singleton] at this
      exact this
  unfold Zq75
  simp only []
  rw [tLen_n, ile_t (by omega), ile_t (Int.le_refl _), fits_ok (by omega)]
  simp only [Bool.and_self, chk_t]
  rw [tRep_n, rep_map]
  have g1 := goA st [] N (fun o o1 o2 => Zq75_l1 N (fun o3 => some ((o3, ()), ())) N 0 o o1 o2) (by omega) rfl
  have e1 : ((List.range xs.length).map fun i : Nat => nbA [] (i : Int)) = (List.range xs.length).map fun _ => [] := rfl
  rw [e1] at g1
  simp only [List.length_nil, Int.natCast_zero] at g1
  rw [g1]
  have g2 := goB st [] N (fun o3 => some ((o3, ()), ())) (by omega) rfl
  have e2 : ((List.range xs.length).map fun i : Nat => nbA st (i : Int) ++ nbB [] (i : Int)) = (List.range xs.length).map fun i : Nat => nbA st (i : Int) := List.map_congr_left fun i _ => by show nbA st (i : Int) ++ [] = _; rw [List.append_nil]
  rw [e2] at g2
  simp only [List.length_nil, Int.natCast_zero] at g2
  rw [g2]
  rfl
theorem sroads_eq {N : Nat} {xs : List (List Int)} {st : List (Int × Int)} (hx : xs.length < 1024) (hs : st.length ≤ 1048576) (h : okSt xs.length st) (hN : 1048577 ≤ N) : Zq18 N (xs, st) = some ((nbL xs.length st, ()), ()) := by
  have hin : ∀ e ∈ st, ∃ a b : Nat, e = ((a : Int), (b : Int)) ∧ a < b ∧ b < xs.length := fun e he => by
    have := h.2 e he
    exact ⟨e.1.toNat, e.2.toNat, Prod.ext (by simp only []; omega) (by simp only []; omega), by omega, by omega⟩
  have goA : ∀ (q p : List (Int × Int)) (K : Nat) (k0 : List (List Int) → Option ((List (List Int) × Unit) × Unit)), q.length < K → p ++ q = st →
      Zq18_l0 N k0 K st (st.length : Int) (p.length : Int) ((List.range xs.length).map fun i : Nat => nbT p (i : Int)) = k0 ((List.range xs.length).map fun i : Nat => nbT st (i : Int)) := by
    intro q
    induction q with
    | nil =>
      intro p K k0 hK hp
      obtain ⟨k, rfl⟩ := succ_of hK
      rw [List.append_nil] at hp
      subst hp
      simp only [Zq18_l0, ilt_nf (Nat.lt_irrefl _), br_f]
    | cons e q ih =>
      intro p K k0 hK hp
      obtain ⟨k, rfl⟩ := succ_of hK
      have hpl : p.length < st.length := by rw [← hp]; simp
      obtain ⟨a, b, rfl, hab, hb⟩ := hin e (by rw [← hp]; simp)
      have hr : rdP st (p.length : Int) = ((a : Int), (b : Int)) := by rw [← hp, rdP_mid]
      have hl := nbT_len p (b : Int)
      have hl2 := nbT_len p (a : Int)
      have ha : a < xs.length := by omega
      have hs1 := set_map (n := xs.length) (v := a) (f := fun i : Nat => nbT p (i : Int)) (g := fun i : Nat => nbT p (i : Int) ++ if a = i then [(b : Int)] else []) (u := nbT p (a : Int) ++ [(b : Int)]) (by simp) (fun i _ hi => by rw [if_neg (fun e => hi e.symm), List.append_nil])
      have hs2 := set_map (n := xs.length) (v := b) (f := fun i : Nat => nbT p (i : Int) ++ if a = i then [(b : Int)] else []) (g := fun i : Nat => nbT (p ++ [((a : Int), (b : Int))]) (i : Int)) (u := nbT p (b : Int) ++ [(a : Int)]) (by rw [nbT_snoc, if_neg (show ¬ (a : Int) = (b : Int) by omega), if_pos rfl]; rfl) (fun i _ hi => by
        rw [nbT_snoc, if_neg (show ¬ (b : Int) = (i : Int) by omega)]
        by_cases hai : a = i
        · rw [if_pos (show (a : Int) = (i : Int) by omega), if_pos hai]; rfl
        · rw [if_neg (show ¬ (a : Int) = (i : Int) by omega), if_neg hai]; rfl)
      have hrb : rdL ((List.range xs.length).map fun i : Nat => nbT p (i : Int) ++ if a = i then [(b : Int)] else []) (b : Int) = nbT p (b : Int) := by
        rw [rdL_map hb, if_neg (show ¬ a = b by omega), List.append_nil]
      simp only [Zq18_l0, ilt_n hpl, br_t, inb_n hpl, chk_t, hr, inb_map ha, rdL_map ha]
      rw [room_ok (by simp; omega), chk_t, ieq_t rfl, chk_t, wrap_succ (by omega), tApp_d, hs1, inb_map hb, chk_t, hrb, room_ok (by simp; omega), chk_t, ieq_t rfl, chk_t, chk_t, tApp_d, hs2]
      have := ih (p ++ [((a : Int), (b : Int))]) k k0 (by simp at hK; omega) (by rw [List.append_assoc]; exact hp)
      rw [List.length_append, List.length_singleton] at this
      exact this
  have e0 : ((List.range xs.length).map fun i : Nat => nbT st (i : Int)) = nbL xs.length st := List.map_congr_left fun i _ => nbT_eq h
  have hlen : (nbL xs.length st).length = xs.length := by simp [nbL]
  have goB : ∀ (d n K : Nat), n + d = xs.length → d < K → Zq18_l1 N (fun o1 => some ((o1, ()), ())) K (xs.length : Int) n (nbL xs.length st) = some ((nbL xs.length st, ()), ()) := by
    intro d
    induction d with
    | zero =>
      intro n K hd hK
      obtain ⟨k, rfl⟩ := succ_of hK
      simp only [Zq18_l1, ilt_nf (show ¬ n < xs.length by omega), br_f]
    | succ d ih =>
      intro n K hd hK
      obtain ⟨k, rfl⟩ := succ_of hK
      have hn : n < xs.length := by omega
      have hs := nbS_strict (v := (n : Int)) h
      have hl := nbS_len (v := (n : Int)) h
      simp only [Zq18_l1, ilt_n hn, br_t, inb_n (show n < (nbL xs.length st).length by omega), chk_t]
      rw [nbL_rd (in_nat hn), Sort_asc (hs.imp fun hab => by omega) (by omega) hN, bind_some', wrap_succ (by omega), tSet_n]
      have : (nbL xs.length st).set n (nbS st (n : Int)) = nbL xs.length st := by
        refine List.ext_getElem (by simp) fun i h1 h2 => ?_
        by_cases hi : i = n
        · subst hi
          rw [List.getElem_set_self]
          simp [nbL]
        · rw [List.getElem_set_ne (fun e => hi e.symm)]
      simp only [this]
      exact ih (n + 1) k (by omega) (by omega)
  unfold Zq18
  simp only []
  rw [tLen_n, tLen_n, ile_t (by omega), ile_t (Int.le_refl _), fits_ok (by omega)]
  simp only [Bool.and_self, chk_t]
  rw [tRep_n, rep_map]
  have g1 := goA st [] N (fun o => Zq18_l1 N (fun o1 => some ((o1, ()), ())) N (tLen o) 0 o) (by omega) rfl
  have e1 : ((List.range xs.length).map fun i : Nat => nbT [] (i : Int)) = (List.range xs.length).map fun _ => [] := rfl
  rw [e1] at g1
  simp only [List.length_nil, Int.natCast_zero] at g1
  rw [g1, e0, tLen_n, hlen]
  exact goB xs.length 0 N (by omega) (by omega)
theorem idx_lt {xs : List (List Int)} {a : List Int} (h : a ∈ xs) : xs.idxOf a < xs.length := List.idxOf_lt_length_iff.2 h
theorem idx_rd {xs : List (List Int)} {a : List Int} (h : a ∈ xs) : rdL xs ((xs.idxOf a : Nat) : Int) = a := by
  rw [rdL_n (idx_lt h)]
  exact List.getElem_idxOf (idx_lt h)
theorem moreC_pre {k : Nat} {es : List (Int × Int)} : ∀ (d : Nat) (b : List Int) (l : List (List Int)), ∃ t, moreC k es d b l = l ++ t := by
  intro d
  induction d with
  | zero => intro b l; exact ⟨[b], rfl⟩
  | succ d ih =>
    intro b l
    unfold moreC
    refine stepsC_inv (p := fun l' => ∃ t, l' = l ++ t) (fun c l' _ ⟨t, ht⟩ => ?_) k 0 l ⟨[], by simp⟩
    by_cases hf : freeC es b (c : Int)
    · rw [if_pos hf]
      obtain ⟨t2, h2⟩ := ih (b ++ [(c : Int)]) l'
      exact ⟨t ++ t2, by rw [h2, ht, List.append_assoc]⟩
    · rw [if_neg hf]; exact ⟨t, ht⟩
theorem stepsC_mem {f : Nat → List (List Int) → List (List Int)} (hf : ∀ c l, ∃ t, f c l = l ++ t) {x : List Int} {c0 : Nat} (hx : ∀ l, (f c0 l).length ≤ 300 → x ∈ f c0 l) : ∀ (r c : Nat) (l : List (List Int)), c ≤ c0 → c0 < c + r → (stepsC f r c l).length ≤ 300 → x ∈ stepsC f r c l := by
  have mono : ∀ (r c : Nat) (l : List (List Int)), ∃ t, stepsC f r c l = l ++ t := fun r c l =>
    stepsC_inv (p := fun l' => ∃ t, l' = l ++ t) (fun c l' _ ⟨t, ht⟩ => by
      obtain ⟨t2, h2⟩ := hf c l'
      exact ⟨t ++ t2, by rw [h2, ht, List.append_assoc]⟩) r c l ⟨[], by simp⟩
  intro r
  induction r with
  | zero => intro c l h1 h2; omega
  | succ r ih =>
    intro c l h1 h2 h3
    have hl : l.length ≤ 300 := by
      obtain ⟨t, ht⟩ := mono (r + 1) c l
      rw [ht] at h3
      simp at h3
      omega
    unfold stepsC at h3 ⊢
    rw [if_pos hl] at h3 ⊢
    by_cases hc : c = c0
    · subst hc
      obtain ⟨t, ht⟩ := mono r (c + 1) (f c l)
      rw [ht] at h3 ⊢
      rw [List.length_append] at h3
      exact List.mem_append_left _ (hx l (by omega))
    · exact ih (c + 1) (f c l) (by omega) (by omega) h3
theorem moreC_mem {k : Nat} {es : List (Int × Int)} {a : List Int} (ha : ∀ z ∈ a, 0 ≤ z ∧ z < (k : Int)) (hp : ∀ i : Nat, i < a.length → freeC es (a.take i) (rdI a (i : Int))) : ∀ (d i : Nat) (l : List (List Int)), i + d = a.length → (moreC k es d (a.take i) l).length ≤ 300 → a ∈ moreC k es d (a.take i) l := by
  intro d
  induction d with
  | zero =>
    intro i l hi _
    unfold moreC
    rw [List.take_of_length_le (by omega)]
    simp
  | succ d ih =>
    intro i l hi hl
    unfold moreC at hl ⊢
    have hil : i < a.length := by omega
    have hz := ha a[i] (List.getElem_mem hil)
    have hri : rdI a (i : Int) = a[i] := rdI_n hil
    obtain ⟨c0, hc0⟩ : ∃ c0 : Nat, a[i] = (c0 : Int) := ⟨a[i].toNat, by omega⟩
    have hfree := hp i hil
    rw [hri, hc0] at hfree
    refine stepsC_mem (c0 := c0) (fun c l => ?_) (fun l' hl' => ?_) k 0 l (Nat.zero_le _) (by omega) hl
    · by_cases hf : freeC es (a.take i) (c : Int)
      · simp only [if_pos hf]; exact moreC_pre ..
      · simp only [if_neg hf]; exact ⟨[], by simp⟩
    · simp only [if_pos hfree] at hl' ⊢
      have e : a.take i ++ [(c0 : Int)] = a.take (i + 1) := by rw [List.take_add_one, List.getElem?_eq_getElem hil, hc0]; rfl
      rw [e] at hl' ⊢
      exact ih (i + 1) l' (by omega) hl'
theorem mem_allC {g : Int × List (Int × Int)} {k : Int} {a : List Int} (hk : colCase g k) (hl : (allC g k).length ≤ 300) (h : proper g k a) : a ∈ allC g k := by
  obtain ⟨h1, h2, h3⟩ := h
  have hk2 := hk.2
  have hg := hk.1.1
  unfold allC at hl ⊢
  have := moreC_mem (k := k.toNat) (es := g.2) (a := a) (fun z hz => by have := h2 z hz; omega) (fun i hi y hy hc => by
    have hy' : y < i := by simp at hy; omega
    obtain ⟨e1, e2⟩ := hc
    rw [rdI_take hy' (by omega)] at e1
    have hlen : (a.take i).length = i := by simp; omega
    rw [hlen] at e2
    rcases e2 with e2 | e2
    · exact h3 _ e2 e1
    · exact h3 _ e2 e1.symm) g.1.toNat 0 [] (by omega) hl
  exact this
theorem l5Space_ch {N : Nat} {g : Int × List (Int × Int)} {k : Int} (hx : g.2.length ≤ 1048576) (hN : 1048577 ≤ N) : Zq90 N g k false = some (((colSpV g k).1, (colSpV g k).2, ()), ()) := by
  unfold Zq90 colSpV
  simp only [show ((g.1, g.2) : Int × List (Int × Int)) = g from rfl]
  rw [l5All_eq hx hN, bind_some']
  unfold colsR
  by_cases h : colCase g k ∧ (allC g k).length ≤ 300
  · rw [if_pos h, if_pos h]
    have hr := allC_rows (g := g) (k := k)
    have hg := h.1.1.1
    simp only [Bool.not_true, br_f]
    rw [l5Space_loop (p := isCh) (fun a ha b hb => ?_) (by omega) hN]
    have e1 := hr a ha
    have e2 := hr b hb
    unfold Zq91
    rw [l5Changed_ap (by omega) (by omega) hN, bind_some']
    rw [Bool.not_false, br_t]
    congr 3
    unfold isCh
    by_cases h1 : (apartL a b).length = 1
    · rw [decide_eq_true h1]; exact ieq_t (by simp only [tLen_n]; omega)
    · rw [decide_eq_false h1]; exact ieq_f (by simp only [tLen_n]; omega)
  · rw [if_neg h, if_neg h]
    rfl
theorem impl_ColSp {N : Nat} {g : Int × List (Int × Int)} {k : Int} (hx : g.2.length ≤ 1048576) (hN : 1048577 ≤ N) : Zq3 N g k = some (((colSpV g k).1, (colSpV g k).2, ()), ()) := by
  unfold Zq3 colSpV
  simp only [show ((g.1, g.2) : Int × List (Int × Int)) = g from rfl]
  rw [colourings_eq hx hN, bind_some']
  unfold colsR
  by_cases h : colCase g k ∧ (allC g k).length ≤ 300
  · rw [if_pos h, if_pos h]
    obtain ⟨s1, s2⟩ := allC_sorted g k
    have hr := allC_rows (g := g) (k := k)
    have hg := h.1.1.1
    have hst := colSteps_le h.1 h.2
    have hr8 : ∀ x ∈ allC g k, x.length ≤ 8 := fun x hx => by have := hr x hx; omega
    simp only [Bool.not_true, br_f]
    rw [spaceOf_eq (p := isCh) s1 (fun x hx => by have := hr8 x hx; omega) (by omega) (fun a ha b hb => ?_) hN, bind_some']
    · simp only []
      rw [orNone_eq (by simp only []; omega) (by simp only []; omega), bind_some']
    · have e1 := hr a ha
      have e2 := hr b hb
      show (Zq24 N a b).bind _ = _
      rw [isChange_eq (by omega) (by omega) hN]
      rfl
  · rw [if_neg h, if_neg h]
    rfl
def pairsUp (o : List (Int × Int)) : Prop := o.Pairwise edgeLt
theorem edgeLt_trans {a b c : Int × Int} (h1 : edgeLt a b) (h2 : edgeLt b c) : edgeLt a c := by unfold edgeLt at *; omega
theorem edgeLt_tot {a b : Int × Int} (h : ¬ edgeLt a b) (hne : a ≠ b) : edgeLt b a := by
  unfold edgeLt at *
  by_cases h1 : a.1 = b.1
  · by_cases h2 : a.2 = b.2
    · exact absurd (Prod.ext h1 h2) hne
    · omega
  · omega
theorem putPair_eq {N : Nat} {o : List (Int × Int)} {e : Int × Int} (ho : pairsUp o) (hl : o.length ≤ 1048576) (hN : 1048577 ≤ N) : ∃ o', Zq80 N o e = some ((o', ()), ()) ∧ pairsUp o' ∧ (∀ f, f ∈ o' ↔ f ∈ o ∨ f = e) ∧ o'.length ≤ o.length + 1 := by
  unfold pairsUp at ho
  have find : ∀ (k K : Nat) (k0 : Int → List (Int × Int) → Int → Int → Option ((List (Int × Int) × Unit) × Unit)), k < K → k ≤ o.length → (∀ j (h : j < o.length), k ≤ j → edgeLt e o[j]) →
      ∃ k2 : Nat, k2 ≤ o.length ∧ (∀ j (h : j < o.length), j < k2 → ¬ edgeLt e o[j]) ∧ (∀ j (h : j < o.length), k2 ≤ j → edgeLt e o[j]) ∧ Zq80_l0 N k0 K (k : Int) o e.1 e.2 = k0 (k2 : Int) o e.1 e.2 := by
    intro k
    induction k with
    | zero =>
      intro K k0 hK hk h
      obtain ⟨K, rfl⟩ := succ_of hK
      refine ⟨0, hk, fun j h1 h2 => absurd h2 (Nat.not_lt_zero j), h, ?_⟩
      simp only [Zq80_l0, Int.natCast_zero]
      rw [ilt_f (by decide), br_f]
    | succ k ih =>
      intro K k0 hK hk h
      obtain ⟨K, rfl⟩ := succ_of hK
      have hko : k < o.length := by omega
      simp only [Zq80_l0]
      rw [ilt_t (by omega), br_t, wrap_pred (by omega) (by omega), show k + 1 - 1 = k by omega, inb_n hko, chk_t, rdP_n hko, l2Edge_eq, bind_some']
      simp only [show ((e.1, e.2) : Int × Int) = e from rfl]
      by_cases hc : edgeLt e o[k]
      · rw [decide_eq_true hc, br_t]
        exact ih K k0 (by omega) (by omega) fun j hj hkj => by
          by_cases he : j = k
          · subst he; exact hc
          · exact h j hj (by omega)
      · rw [decide_eq_false hc, br_f]
        refine ⟨k + 1, hk, fun j hj hjk => ?_, h, rfl⟩
        by_cases he : j = k
        · subst he; exact hc
        · have := List.pairwise_iff_getElem.1 ho j k hj hko (by omega)
          exact fun h2 => hc (edgeLt_trans h2 this)
  unfold Zq80
  obtain ⟨k, k1, k2, k3, k4⟩ := find o.length N (fun kv o o1 o2 => (br (ilt 0 kv)
    ((chk (inb o (IntKind.i64.wrap (kv - 1)))
      (br (ieq ((rdP o (IntKind.i64.wrap (kv - 1))).1) o1 && ieq ((rdP o (IntKind.i64.wrap (kv - 1))).2) o2)
      (some ((o, ()), ()))
      ((chk (ile 0 0 && ile 0 kv && ile kv (tLen o))
        (chk (room (α := (Int × Int)) (β := (Int × Int)) [] (tCut o 0 kv))
        (chk (room (tApp [] (tCut o 0 kv)) [(o1, o2)])
        (chk (ile 0 kv && ile kv (tLen o) && ile (tLen o) (tLen o))
        (chk (room (tApp (tApp [] (tCut o 0 kv)) [(o1, o2)]) (tCut o kv (tLen o)))
        (some (((tApp (tApp (tApp [] (tCut o 0 kv)) [(o1, o2)]) (tCut o kv (tLen o))), ()), ())))))))))))
    ((chk (ile 0 0 && ile 0 kv && ile kv (tLen o))
      (chk (room (α := (Int × Int)) (β := (Int × Int)) [] (tCut o 0 kv))
      (chk (room (tApp [] (tCut o 0 kv)) [(o1, o2)])
      (chk (ile 0 kv && ile kv (tLen o) && ile (tLen o) (tLen o))
      (chk (room (tApp (tApp [] (tCut o 0 kv)) [(o1, o2)]) (tCut o kv (tLen o)))
      (some (((tApp (tApp (tApp [] (tCut o 0 kv)) [(o1, o2)]) (tCut o kv (tLen o))), ()), ())))))))))) (by omega) (Nat.le_refl _) (fun j hj h => by omega)
  rw [tLen_n, k4]
  have hcut0 : tCut o 0 (k : Int) = o.take k := by have := tCut_n o 0 k; simpa using this
  have hcutk : tCut o (k : Int) (tLen o) = o.drop k := by rw [tLen_n, tCut_n, List.take_of_length_le (Nat.le_refl _)]
  have h1 : (ile 0 0 && ile 0 (k : Int) && ile (k : Int) (tLen o)) = true := by rw [ile_t (Int.le_refl _), ile_t (by omega), tLen_n, ile_t (by omega)]; rfl
  have h2 : (ile 0 (k : Int) && ile (k : Int) (tLen o) && ile (tLen o) (tLen o)) = true := by rw [ile_t (by omega), tLen_n, ile_t (by omega), ile_t (Int.le_refl _)]; rfl
  have r1 : room (α := Int × Int) (β := Int × Int) [] (o.take k) = true := room_ok (by rw [List.length_take, List.length_nil]; omega)
  have r2 : room (tApp [] (o.take k)) [(e.1, e.2)] = true := room_ok (by simp only [tApp, List.nil_append, List.length_take, List.length_singleton]; omega)
  have r3 : room (tApp (tApp [] (o.take k)) [(e.1, e.2)]) (o.drop k) = true := room_ok (by simp only [tApp, List.nil_append, List.length_append, List.length_take, List.length_drop, List.length_singleton]; omega)
  have ee : tApp (tApp (tApp [] (o.take k)) [(e.1, e.2)]) (o.drop k) = o.take k ++ e :: o.drop k := by simp [tApp]
  have hput : (∀ j (h : j < o.length), j < k → o[j] ≠ e) → pairsUp (o.take k ++ e :: o.drop k) ∧ (∀ f, f ∈ o.take k ++ e :: o.drop k ↔ f ∈ o ∨ f = e) ∧ (o.take k ++ e :: o.drop k).length ≤ o.length + 1 := by
    intro hne
    refine ⟨List.pairwise_append.2 ⟨ho.sublist (List.take_sublist ..), List.pairwise_cons.2 ⟨fun y hy => ?_, ho.sublist (List.drop_sublist ..)⟩, fun a ha b hb => ?_⟩, fun s => ?_, by simp; omega⟩
    · obtain ⟨j, hj, rfl⟩ := List.getElem_of_mem hy
      rw [List.getElem_drop]
      exact k3 _ (by simp at hj; omega) (by omega)
    · obtain ⟨j, hj, rfl⟩ := List.getElem_of_mem ha
      have hj' : j < k ∧ j < o.length := by simp at hj; omega
      rw [List.getElem_take]
      have hax : edgeLt o[j] e := edgeLt_tot (k2 j hj'.2 hj'.1) (fun q => hne j hj'.2 hj'.1 q.symm)
      rcases List.mem_cons.1 hb with rfl | hb
      · exact hax
      · obtain ⟨l, hl', rfl⟩ := List.getElem_of_mem hb
        rw [List.getElem_drop]
        exact List.pairwise_iff_getElem.1 ho _ _ hj'.2 (by simp at hl'; omega) (by omega)
    · rw [List.mem_append, List.mem_cons]
      have := List.take_append_drop k o
      constructor
      · rintro (h | h | h)
        · exact .inl (List.mem_of_mem_take h)
        · exact .inr h
        · exact .inl (List.mem_of_mem_drop h)
      · rintro (h | h)
        · rw [← this, List.mem_append] at h
          rcases h with h | h
          · exact .inl h
          · exact .inr (.inr h)
        · exact .inr (.inl h)
  by_cases hk0 : k = 0
  · subst hk0
    have e0 : ilt 0 ((0 : Nat) : Int) = false := rfl
    rw [e0, br_f, h1, chk_t, hcut0, r1, chk_t, r2, chk_t, h2, chk_t, hcutk, r3, chk_t, ee]
    exact ⟨_, rfl, hput fun j h h0 => absurd h0 (Nat.not_lt_zero j)⟩
  · have hk' : k - 1 < o.length := by omega
    rw [ilt_t (by omega), br_t, wrap_pred (by omega) (by omega), inb_n hk', chk_t, rdP_n hk']
    by_cases he : o[k - 1] = e
    · rw [he, ieq_t rfl, ieq_t rfl]
      simp only [Bool.and_self, br_t]
      refine ⟨o, rfl, ho, fun f => ⟨.inl, ?_⟩, by omega⟩
      rintro (h | h)
      · exact h
      · rw [h, ← he]; exact List.getElem_mem hk'
    · have hb : (ieq o[k - 1].1 e.1 && ieq o[k - 1].2 e.2) = false := by
        by_cases q1 : o[k - 1].1 = e.1
        · by_cases q2 : o[k - 1].2 = e.2
          · exact absurd (Prod.ext q1 q2) he
          · rw [ieq_f q2, Bool.and_false]
        · rw [ieq_f q1]; rfl
      rw [hb, br_f, h1, chk_t, hcut0, r1, chk_t, r2, chk_t, h2, chk_t, hcutk, r3, chk_t, ee]
      refine ⟨_, rfl, hput fun j h hj q => ?_⟩
      by_cases hj1 : j = k - 1
      · subst hj1; exact he q
      · have := List.pairwise_iff_getElem.1 ho j (k - 1) h hk' (by omega)
        rw [q] at this
        exact k2 (k - 1) hk' (by omega) this
theorem mem_stepsL {p : List Int → List Int → Bool} {xs : List (List Int)} {e : Int × Int} : e ∈ stepsL p xs ↔ ∃ i j : Nat, e = ((i : Int), (j : Int)) ∧ i < j ∧ j < xs.length ∧ p (rdL xs (i : Int)) (rdL xs (j : Int)) = true := by
  unfold stepsL rowSteps
  rw [List.mem_flatMap]
  constructor
  · rintro ⟨i, hi, he⟩
    obtain ⟨j, hj, rfl⟩ := List.mem_map.1 he
    obtain ⟨h1, h2⟩ := List.mem_filter.1 hj
    have := List.mem_range'_1.1 h1
    exact ⟨i, j, rfl, by omega, by omega, h2⟩
  · rintro ⟨i, j, rfl, h1, h2, h3⟩
    exact ⟨i, List.mem_range'_1.2 (by omega), List.mem_map.2 ⟨j, List.mem_filter.2 ⟨List.mem_range'_1.2 (by omega), h3⟩, rfl⟩⟩
/-! ### A node added or taken away -/
theorem rdB_setN {o : List Bool} {i j : Nat} (hi : i < o.length) (v : Bool) : rdB (tSet o (i : Int) v) (j : Int) = if j = i then v else rdB o (j : Int) := by
  unfold rdB tSet
  simp only [Int.toNat_natCast, List.getD_eq_getElem?_getD, List.getElem?_set]
  by_cases h : i = j
  · subst h
    rw [if_pos rfl, if_pos hi, if_pos rfl]
    rfl
  · rw [if_neg h, if_neg (fun e => h e.symm)]
theorem Wk_in {L : List (List Int)} {m : Nat} {x y : Int} (hl : okLists L m) (hx : InN m x) (h : Wk L x y) : InN m y := by
  induction h with
  | base => exact hx
  | step _ hz ih => exact (okL_row hl ih).2 _ hz
theorem Wk_trans {L : List (List Int)} {x y z : Int} (h1 : Wk L x y) (h2 : Wk L y z) : Wk L x z := by
  induction h2 with
  | base => exact h1
  | step _ h ih => exact .step ih h
noncomputable def cntN (L : List (List Int)) (i : Nat) : Nat := ((List.range i).filter fun k => decide (∀ j : Nat, j < k → ¬ Wk L (j : Int) (k : Int))).length
theorem cntN_le (L : List (List Int)) (i : Nat) : cntN L i ≤ i := by
  unfold cntN
  refine Nat.le_trans (List.length_filter_le ..) ?_
  simp
theorem cntN_first {L : List (List Int)} {i : Nat} (h : ¬ ∃ j : Nat, j < i ∧ Wk L (j : Int) (i : Int)) : cntN L (i + 1) = cntN L i + 1 := by
  unfold cntN
  rw [List.range_succ, List.filter_append, List.length_append, List.filter_cons_of_pos (by simpa using fun j hj hw => h ⟨j, hj, hw⟩)]
  rfl
theorem cntN_seen {L : List (List Int)} {i : Nat} (h : ∃ j : Nat, j < i ∧ Wk L (j : Int) (i : Int)) : cntN L (i + 1) = cntN L i := by
  unfold cntN
  obtain ⟨j, h1, h2⟩ := h
  rw [List.range_succ, List.filter_append, List.length_append, List.filter_cons_of_neg (by simpa using ⟨j, h1, h2⟩)]
  rfl
theorem mark_loop {R : Type} {N m : Nat} {k0 : Int → List (List Int) → List (List Int) → List Bool → List Int → Option R} {i1 : Int} {o3 o4 : List (List Int)} {o7 : List Int} (ho7 : o7.length = m) (hm : m ≤ 1048575) :
    ∀ (d n K : Nat) (o5 : List Bool) (o6 : List Int), n + d = m → d < K → o5.length = m → o6.length ≤ n → ∃ o5' o6', Zq79_l0_0 N k0 K i1 (n : Int) o3 o4 o5 o6 o7 = k0 i1 o3 o4 o5' o6' ∧ o5'.length = m ∧ ∀ y : Nat, y < m → (rdB o5' (y : Int) = true ↔ rdB o5 (y : Int) = true ∨ (n ≤ y ∧ 0 ≤ rdI o7 (y : Int))) := by
  intro d
  induction d with
  | zero =>
    intro n K o5 o6 hd hK h5 h6
    obtain ⟨K, rfl⟩ := succ_of hK
    refine ⟨o5, o6, ?_, h5, fun y hy => ⟨.inl, ?_⟩⟩
    · simp only [Zq79_l0_0, ilt_lenf (show ¬ n < o7.length by omega), br_f]
    · rintro (h | ⟨h, _⟩)
      · exact h
      · omega
  | succ d ih =>
    intro n K o5 o6 hd hK h5 h6
    obtain ⟨K, rfl⟩ := succ_of hK
    have hn : n < o7.length := by omega
    simp only [Zq79_l0_0, ilt_len hn, br_t, inb_n hn, chk_t]
    by_cases h : 0 ≤ rdI o7 (n : Int)
    · rw [ile_t h, br_t, room_ok (by simp; omega), chk_t, inb_n (show n < o5.length by omega), chk_t, wrap_succ (by omega)]
      obtain ⟨a, b, h1, h2, h3⟩ := ih (n + 1) K (tSet o5 (n : Int) true) (tApp o6 [(n : Int)]) (by omega) (by omega) (by simp [tSet, h5]) (by rw [tApp_d]; simp; omega)
      refine ⟨a, b, h1, h2, fun y hy => ?_⟩
      rw [h3 y hy, rdB_setN (by omega)]
      by_cases e : y = n
      · subst e; simp [h]
      · rw [if_neg e]
        exact ⟨fun q => q.imp_right fun q => ⟨by omega, q.2⟩, fun q => q.imp_right fun q => ⟨by omega, q.2⟩⟩
    · rw [ile_f h, br_f, wrap_succ (by omega)]
      obtain ⟨a, b, h1, h2, h3⟩ := ih (n + 1) K o5 o6 (by omega) (by omega) h5 (by omega)
      refine ⟨a, b, h1, h2, fun y hy => ?_⟩
      rw [h3 y hy]
      by_cases e : y = n
      · subst e
        exact ⟨fun q => q.imp_right fun q => ⟨by omega, q.2⟩, fun q => q.imp_right fun q => absurd q.2 h⟩
      · exact ⟨fun q => q.imp_right fun q => ⟨by omega, q.2⟩, fun q => q.imp_right fun q => ⟨by omega, q.2⟩⟩
def seenP (L : List (List Int)) (i : Nat) (y : Int) : Prop := ∃ j : Nat, j < i ∧ Wk L (j : Int) y
theorem seen_old {L : List (List Int)} {i : Nat} {y : Int} (h : seenP L i (i : Int)) : seenP L (i + 1) y ↔ seenP L i y := by
  constructor
  · rintro ⟨j, h1, h2⟩
    by_cases e : j = i
    · subst e
      obtain ⟨k, h3, h4⟩ := h
      exact ⟨k, h3, Wk_trans h4 h2⟩
    · exact ⟨j, by omega, h2⟩
  · rintro ⟨j, h1, h2⟩
    exact ⟨j, by omega, h2⟩
theorem seen_new {L : List (List Int)} {i : Nat} {y : Int} : seenP L (i + 1) y ↔ seenP L i y ∨ Wk L (i : Int) y := by
  constructor
  · rintro ⟨j, h1, h2⟩
    by_cases e : j = i
    · subst e; exact .inr h2
    · exact .inl ⟨j, by omega, h2⟩
  · rintro (⟨j, h1, h2⟩ | h)
    · exact ⟨j, by omega, h2⟩
    · exact ⟨i, by omega, h⟩
theorem specParts {N m : Nat} {L : List (List Int)} (hl : okLists L m) (hm : m ≤ 1000) (hN : 1048577 ≤ N) :
    ∀ (d i K : Nat) (o : List (List Int)) (o2 : List Bool), i + d = m → d < K → o.length = cntN L i → o2.length = m → (∀ y : Nat, y < m → (rdB o2 (y : Int) = true ↔ seenP L i (y : Int))) → ∃ o' : List (List Int), Zq79_l0 N (fun o => some ((o, ()), ())) K (i : Int) o L o2 = some ((o', ()), ()) ∧ o'.length = cntN L m := by
  intro d
  induction d with
  | zero =>
    intro i K o o2 hd hK ho h2 hs
    obtain ⟨K, rfl⟩ := succ_of hK
    have e : i = m := by omega
    subst e
    refine ⟨o, ?_, ho⟩
    simp only [Zq79_l0, ilt_lenf (show ¬ i < L.length by have := hl.1; omega), br_f]
  | succ d ih =>
    intro i K o o2 hd hK ho h2 hs
    obtain ⟨K, rfl⟩ := succ_of hK
    have hi : i < m := by omega
    simp only [Zq79_l0, ilt_len (show i < L.length by have := hl.1; omega), br_t, inb_n (show i < o2.length by omega), chk_t]
    by_cases h : rdB o2 (i : Int) = true
    · rw [h, br_t, wrap_succ (by omega)]
      have hse := (hs i hi).1 h
      exact ih (i + 1) K o o2 (by omega) (by omega) (by rw [cntN_seen hse, ho]) h2 fun y hy => (hs y hy).trans (seen_old hse).symm
    · have hse : ¬ seenP L i (i : Int) := fun q => h ((hs i hi).2 q)
      rw [Bool.eq_false_iff.2 h, br_f]
      obtain ⟨F, f1, f2, f3⟩ := l2Spread_eq (N := N) hl.1 (by omega) hl.2 (in_nat hi) hN
      rw [f1, bind_some']
      simp only []
      obtain ⟨a, b, g1, g2, g3⟩ := mark_loop (N := N) (k0 := fun i1 o3 o4 o5 o6 => (chk (room o3 [o6]) (Zq79_l0 N (fun o => some ((o, ()), ())) K (IntKind.i64.wrap (i1 + 1)) (tApp o3 [o6]) o4 o5))) (i1 := (i : Int)) (o3 := o) (o4 := L) f2 (by omega) m 0 N o2 [] (by omega) (by omega) h2 (Nat.le_refl 0)
      simp only [Int.natCast_zero] at g1
      have hc := cntN_le L i
      rw [g1, room_ok (by simp; omega), chk_t, wrap_succ (by omega)]
      refine ih (i + 1) K _ a (by omega) (by omega) (by rw [tApp_d, List.length_append, List.length_singleton, cntN_first hse, ho]) g2 fun y hy => ?_
      rw [g3 y hy, hs y hy, seen_new, f3 _ (in_nat hy)]
      simp
def PI (L : List (List Int)) (m : Nat) (s0 : List Bool) (x : Int) (o : List Bool) (q : List Int) : Prop :=
  o.length = m ∧ q.Nodup ∧ (∀ z ∈ q, InN m z ∧ Wk L x z) ∧ ∀ y : Nat, y < m → (rdB o (y : Int) = true ↔ rdB s0 (y : Int) = true ∨ (y : Int) ∈ q)
theorem PI_len {L : List (List Int)} {m : Nat} {s0 : List Bool} {x : Int} {o : List Bool} {q : List Int} (h : PI L m s0 x o q) : q.length ≤ m := inM_len ⟨h.2.1, fun z hz => (h.2.2.1 z hz).1⟩
theorem partIn {R : Type} {N m : Nat} {L : List (List Int)} {s0 : List Bool} {x : Int} (hl : okLists L m) (hm : m ≤ 1000) {k0 : List (List Int) → Int → Int → Int → List (List Int) → List Bool → List Int → Option R} {x8 x9 x10 : Int} {o5 : List (List Int)} {u : Int} (hu : InN m u) (hux : Wk L x u) :
    ∀ (d n K : Nat) (o6 : List Bool) (q : List Int), n + d = (rdL L u).length → d < K → PI L m s0 x o6 q → ∃ o6' q', Zq33_l0_0_0 N k0 K L x8 x9 x10 (rdL L u) (((rdL L u).length : Nat) : Int) (n : Int) o5 o6 q = k0 L x8 x9 x10 o5 o6' q' ∧ PI L m s0 x o6' q' ∧ (∃ t, q' = q ++ t) ∧ ∀ i (h : i < (rdL L u).length), n ≤ i → rdB o6' ((rdL L u)[i]) = true := by
  obtain ⟨hr1, hr2⟩ := okL_row hl hu
  intro d
  induction d with
  | zero =>
    intro n K o6 q hd hK hp
    obtain ⟨K, rfl⟩ := succ_of hK
    refine ⟨o6, q, ?_, hp, ⟨[], by simp⟩, fun i h1 h2 => by omega⟩
    simp only [Zq33_l0_0_0, ilt_nf (show ¬ n < (rdL L u).length by omega), br_f]
  | succ d ih =>
    intro n K o6 q hd hK hp
    obtain ⟨K, rfl⟩ := succ_of hK
    have hn : n < (rdL L u).length := by omega
    have hz := hr2 _ (List.getElem_mem hn)
    obtain ⟨z, hz1, hz2⟩ := nat_of hz
    have hpl := PI_len hp
    simp only [Zq33_l0_0_0, ilt_n hn, br_t, inb_n hn, chk_t, rdI_n hn]
    rw [hz2, inb_n (show z < o6.length by have := hp.1; omega), chk_t]
    by_cases h : rdB o6 (z : Int) = true
    · rw [h]
      simp only [Bool.not_true, br_f]
      rw [wrap_succ (by omega)]
      obtain ⟨a, b, h1, h2, h3, h4⟩ := ih (n + 1) K o6 q (by omega) (by omega) hp
      refine ⟨a, b, h1, h2, h3, fun i hi hni => ?_⟩
      by_cases e : i = n
      · subst e
        rw [hz2]
        refine (h2.2.2.2 z hz1).2 (((hp.2.2.2 z hz1).1 h).imp_right fun hq => ?_)
        obtain ⟨t, rfl⟩ := h3
        exact List.mem_append_left _ hq
      · exact h4 i hi (by omega)
    · have hnq : ¬ ((rdB s0 (z : Int) = true) ∨ (z : Int) ∈ q) := fun q => h ((hp.2.2.2 z hz1).2 q)
      rw [Bool.eq_false_iff.2 h]
      simp only [Bool.not_false, br_t, chk_t]
      rw [room_ok (by simp; omega), chk_t, wrap_succ (by omega), tApp_d]
      have hp' : PI L m s0 x (tSet o6 (z : Int) true) (q ++ [(z : Int)]) := by
        refine ⟨by simp [tSet, hp.1], ?_, fun y hy => ?_, fun y hy => ?_⟩
        · rw [List.nodup_append]
          exact ⟨hp.2.1, (by simp), fun a ha b hb e => by
            rw [List.mem_singleton] at hb
            subst hb e
            exact hnq (.inr ha)⟩
        · rcases List.mem_append.1 hy with hy | hy
          · exact hp.2.2.1 y hy
          · rw [List.mem_singleton] at hy
            subst hy
            refine ⟨in_nat hz1, .step hux ?_⟩
            rw [← hz2]
            exact List.getElem_mem hn
        · rw [rdB_setN (by have := hp.1; omega), List.mem_append, List.mem_singleton]
          by_cases e : y = z
          · subst e; simp
          · rw [if_neg e, hp.2.2.2 y hy]
            exact ⟨fun q => q.imp_right .inl, fun q => q.imp_right fun q => q.resolve_right (by omega)⟩
      obtain ⟨a, b, h1, h2, h3, h4⟩ := ih (n + 1) K _ _ (by omega) (by omega) hp'
      obtain ⟨t, rfl⟩ := h3
      refine ⟨a, _, h1, h2, ⟨(z : Int) :: t, by simp⟩, fun i hi hni => ?_⟩
      by_cases e : i = n
      · subst e
        rw [hz2]
        exact (h2.2.2.2 z hz1).2 (.inr (by simp))
      · exact h4 i hi (by omega)
theorem partLoop {R : Type} {N m : Nat} {L : List (List Int)} {s0 : List Bool} {x : Int} (hl : okLists L m) (hm : m ≤ 1000) {k0 : List (List Int) → Int → Int → List (List Int) → List Bool → List Int → Option R} {x5 x6 : Int} {o2 : List (List Int)} (hN : 1048577 ≤ N) :
    ∀ (d n K : Nat) (o3 : List Bool) (q : List Int), n + d = m → d < K → n ≤ q.length → PI L m s0 x o3 q → (∀ i, i < n → ∀ z ∈ rdL L (rdI q (i : Int)), rdB o3 z = true) → ∃ o3' q', Zq33_l0_0 N k0 K L (n : Int) x5 x6 o2 o3 q = k0 L x5 x6 o2 o3' q' ∧ PI L m s0 x o3' q' ∧ (∃ t, q' = q ++ t) ∧ ∀ u ∈ q', ∀ z ∈ rdL L u, rdB o3' z = true := by
  intro d
  have done : ∀ (n : Nat) (o3 : List Bool) (q : List Int), q.length ≤ n → (∀ i, i < n → ∀ z ∈ rdL L (rdI q (i : Int)), rdB o3 z = true) → ∀ u ∈ q, ∀ z ∈ rdL L u, rdB o3 z = true := by
    intro n o3 q hq hc u hu
    obtain ⟨i, hi, rfl⟩ := List.getElem_of_mem hu
    have := hc i (by omega)
    rwa [rdI_n hi] at this
  induction d with
  | zero =>
    intro n K o3 q hd hK hn hp hc
    obtain ⟨K, rfl⟩ := succ_of hK
    have hpl := PI_len hp
    refine ⟨o3, q, ?_, hp, ⟨[], by simp⟩, done n o3 q (by omega) hc⟩
    simp only [Zq33_l0_0, ilt_lenf (show ¬ n < q.length by omega), br_f]
  | succ d ih =>
    intro n K o3 q hd hK hn hp hc
    obtain ⟨K, rfl⟩ := succ_of hK
    have hpl := PI_len hp
    by_cases hnq : n < q.length
    · simp only [Zq33_l0_0, ilt_len hnq, br_t, inb_n hnq, chk_t, rdI_n hnq]
      obtain ⟨hu, hux⟩ := hp.2.2.1 _ (List.getElem_mem hnq)
      obtain ⟨u, hu1, hu2⟩ := nat_of hu
      have hr := okL_row hl hu
      rw [hu2] at hu hux hr ⊢
      rw [inb_n (show u < L.length by have := hl.1; omega), chk_t, tLen_n]
      obtain ⟨a, b, h1, h2, ⟨t, rfl⟩, h4⟩ := partIn (N := N) hl hm (k0 := fun x7 x8 x9 x10 o5 o6 o7 => Zq33_l0_0 N k0 K x7 (IntKind.i64.wrap (x8 + 1)) x9 x10 o5 o6 o7) (x8 := (n : Int)) (x9 := x5) (x10 := x6) (o5 := o2) hu hux (rdL L (u : Int)).length 0 N o3 q (by omega) (by have := hr.1; omega) hp
      simp only [Int.natCast_zero] at h1
      rw [h1, wrap_succ (by omega)]
      have mono : ∀ z, InN m z → rdB o3 z = true → rdB a z = true := fun z hz h => by
        obtain ⟨y, hy, rfl⟩ := nat_of hz
        exact (h2.2.2.2 y hy).2 (((hp.2.2.2 y hy).1 h).imp_right (List.mem_append_left _))
      obtain ⟨a', b', g1, g2, ⟨t', g3⟩, g4⟩ := ih (n + 1) K a (q ++ t) (by omega) (by omega) (by rw [List.length_append]; omega) h2 fun i hi z hz => by
        have hiq : i < q.length := by omega
        have e1 : rdI (q ++ t) (i : Int) = q[i] := by rw [rdI_n (by rw [List.length_append]; omega), List.getElem_append_left hiq]
        rw [e1] at hz
        by_cases e : i = n
        · subst e
          rw [hu2] at hz
          obtain ⟨j, hj, rfl⟩ := List.getElem_of_mem hz
          exact h4 j hj (Nat.zero_le _)
        · exact mono z ((okL_row hl (hp.2.2.1 _ (List.getElem_mem hiq)).1).2 _ hz) (hc i (by omega) z (by rw [rdI_n hiq]; exact hz))
      exact ⟨a', b', g1, g2, ⟨t ++ t', by rw [g3, List.append_assoc]⟩, g4⟩
    · refine ⟨o3, q, ?_, hp, ⟨[], by simp⟩, done n o3 q (by omega) hc⟩
      simp only [Zq33_l0_0, ilt_lenf hnq, br_f]
theorem implParts {N m : Nat} {L : List (List Int)} (hl : okLists L m) (hm : m ≤ 1000) (hN : 1048577 ≤ N) :
    ∀ (d i K : Nat) (o : List (List Int)) (o2 : List Bool), i + d = m → d < K → o.length = cntN L i → o2.length = m → (∀ y : Nat, y < m → (rdB o2 (y : Int) = true ↔ seenP L i (y : Int))) → ∃ o' : List (List Int), Zq33_l0 N (fun o => some ((o, ()), ())) K L (m : Int) (i : Int) o o2 = some ((o', ()), ()) ∧ o'.length = cntN L m := by
  intro d
  induction d with
  | zero =>
    intro i K o o2 hd hK ho h2 hs
    obtain ⟨K, rfl⟩ := succ_of hK
    have e : i = m := by omega
    subst e
    refine ⟨o, ?_, ho⟩
    simp only [Zq33_l0, ilt_nf (Nat.lt_irrefl i), br_f]
  | succ d ih =>
    intro i K o o2 hd hK ho h2 hs
    obtain ⟨K, rfl⟩ := succ_of hK
    have hi : i < m := by omega
    simp only [Zq33_l0, ilt_n hi, br_t, inb_n (show i < o2.length by omega), chk_t]
    by_cases h : rdB o2 (i : Int) = true
    · rw [h, br_t, wrap_succ (by omega)]
      have hse := (hs i hi).1 h
      exact ih (i + 1) K o o2 (by omega) (by omega) (by rw [cntN_seen hse, ho]) h2 fun y hy => (hs y hy).trans (seen_old hse).symm
    · have hse : ¬ seenP L i (i : Int) := fun q => h ((hs i hi).2 q)
      rw [Bool.eq_false_iff.2 h, br_f]
      have hp : PI L m o2 (i : Int) (tSet o2 (i : Int) true) [(i : Int)] := by
        refine ⟨by simp [tSet, h2], (by simp), fun z hz => ?_, fun y hy => ?_⟩
        · rw [List.mem_singleton] at hz
          subst hz
          exact ⟨in_nat hi, .base⟩
        · rw [rdB_setN (by omega), List.mem_singleton]
          by_cases e : y = i
          · subst e; simp
          · rw [if_neg e]
            exact ⟨.inl, fun q => q.resolve_right (by omega)⟩
      obtain ⟨a, q, g1, g2, ⟨t, g3⟩, g4⟩ := partLoop (N := N) hl hm (k0 := fun x3 x4 x5 o2 o3 o4 => ((Zq52 N o4).bind fun r =>
          (chk (room o2 [r.2.1])
            (Zq33_l0 N (fun o => some ((o, ()), ())) K x3 x4 (IntKind.i64.wrap (x5 + 1)) (tApp o2 [r.2.1]) o3)))) (x5 := (m : Int)) (x6 := (i : Int)) (o2 := o) hN m 0 N _ _ (by omega) (by omega) (Nat.zero_le _) hp (fun j hj => absurd hj (Nat.not_lt_zero j))
      simp only [Int.natCast_zero] at g1
      have hc := cntN_le L i
      have hq := PI_len g2
      rw [g1, Sort_any (by omega), bind_some']
      simp only []
      rw [room_ok (by simp; omega), chk_t, wrap_succ (by omega)]
      refine ih (i + 1) K _ a (by omega) (by omega) (by rw [tApp_d, List.length_append, List.length_singleton, cntN_first hse, ho]) g2.1 fun y hy => ?_
      rw [g2.2.2.2 y hy, seen_new, hs y hy]
      constructor
      · exact fun q => q.imp_right fun q => (g2.2.2.1 _ q).2
      · rintro (q | q')
        · exact .inl q
        · have key : ∀ z, Wk L (i : Int) z → seenP L i z ∨ z ∈ q := by
            intro z hz
            induction hz with
            | base => exact .inr (by rw [g3]; simp)
            | step h1 h5 ih =>
              have hy := Wk_in hl (in_nat hi) h1
              rcases ih with ⟨j, j1, j2⟩ | h6
              · exact .inl ⟨j, j1, .step j2 h5⟩
              · obtain ⟨w, hw, e⟩ := nat_of ((okL_row hl hy).2 _ h5)
                have h7 := g4 _ h6 _ h5
                rw [e] at h7 ⊢
                exact ((g2.2.2.2 w hw).1 h7).imp_left (hs w hw).1
          exact key _ q'
theorem l1Least_eq {N : Nat} {x y : Int} : Zq69 N x y = some (((if x < y then x else y), ()), ()) := by
  unfold Zq69
  by_cases h : x < y
  · rw [ilt_t h, br_t, if_pos h]
  · rw [ilt_f h, br_f, if_neg h]
def CurOk (code : List Int) (k : Nat) (c : List Int × (Int × Int)) : Prop := c.1 = code ∧ 0 ≤ c.2.1 ∧ c.2.1 ≤ (k : Int)
def codeOk (code : List Int) : Prop := code.length ≤ 1048576 ∧ ∀ x ∈ code, 0 ≤ x ∧ x ≤ 255
theorem cur_mono {code : List Int} {k l : Nat} {c : List Int × (Int × Int)} (h : CurOk code k c) (hl : k ≤ l) : CurOk code l c := ⟨h.1, h.2.1, by have := h.2.2; omega⟩
theorem u8_and (x : Int) : 0 ≤ IntKind.i64.wrap (bitop .and .u64 x 255) ∧ IntKind.i64.wrap (bitop .and .u64 x 255) ≤ 255 := by
  have h : ∃ n : Nat, bitop .and .u64 x 255 = (n : Int) ∧ n ≤ 255 := by
    unfold bitop
    simp only []
    have e : (BitVec.ofInt IntKind.u64.bits x &&& BitVec.ofInt IntKind.u64.bits 255).toNat = (BitVec.ofInt IntKind.u64.bits x).toNat &&& 255 := by
      rw [BitVec.toNat_and]; rfl
    have hle : (BitVec.ofInt IntKind.u64.bits x).toNat &&& 255 ≤ 255 := Nat.and_le_right
    refine ⟨(BitVec.ofInt IntKind.u64.bits x).toNat &&& 255, ?_, hle⟩
    rw [e]
    unfold IntKind.wrap
    simp only [IntKind.signed, IntKind.bits]
    have : (((BitVec.ofInt 64 x).toNat &&& 255 : Nat) : Int) % 2 ^ 64 = (((BitVec.ofInt 64 x).toNat &&& 255 : Nat) : Int) := by
      refine Int.emod_eq_of_lt (by omega) ?_
      have : (BitVec.ofInt 64 x).toNat &&& 255 ≤ 255 := Nat.and_le_right
      omega
    simpa using this
  obtain ⟨n, h1, h2⟩ := h
  rw [h1, wrap_ok (by omega) (by omega)]
  omega
theorem next_ok {N : Nat} {code : List Int} {k : Nat} {c : List Int × (Int × Int)} (hco : codeOk code) (h : CurOk code k c) (hk : k ≤ 1000000000) : ∃ x c', Zq63 N c = some ((x, ()), (c', ())) ∧ CurOk code (k + 1) c' ∧ 0 ≤ x ∧ x ≤ 255 := by
  obtain ⟨cd, at', seed⟩ := c
  obtain ⟨h1, h2, h3⟩ := h
  simp only at h1 h2 h3
  subst h1
  have hw : IntKind.i64.wrap (at' + 1) = at' + 1 := wrap_ok (by omega) (by omega)
  unfold Zq63
  simp only [hw]
  by_cases hlt : at' < (cd.length : Int)
  · obtain ⟨n, rfl⟩ := Int.eq_ofNat_of_zero_le h2
    have hn : n < cd.length := by omega
    have hb := hco.2 _ (List.getElem_mem hn)
    have hrd : rd U8 cd (n : Int) = cd[n] := by
      unfold rd
      rw [Int.toNat_natCast, List.getD_eq_getElem?_getD, List.getElem?_eq_getElem hn]
      rfl
    rw [ilt_len hn, br_t, inb_n hn, chk_t, hrd]
    by_cases hle : (n : Int) + 1 ≤ (cd.length : Int)
    · rw [tLen_n, ile_t hle, br_t]
      refine ⟨_, _, rfl, ⟨rfl, by show (0 : Int) ≤ (n : Int) + 1; omega, by show (n : Int) + 1 ≤ ((k + 1 : Nat) : Int); omega⟩, ?_⟩
      rw [wrap_ok (by omega) (by omega)]
      exact hb
    · omega
  · rw [tLen_n, ilt_f hlt, br_f]
    by_cases hle : at' + 1 ≤ (cd.length : Int)
    · rw [ile_t hle, br_t]
      exact ⟨_, _, rfl, ⟨rfl, by show (0 : Int) ≤ at' + 1; omega, by show at' + 1 ≤ ((k + 1 : Nat) : Int); omega⟩, by omega, by omega⟩
    · rw [ile_f hle, br_f]
      exact ⟨_, _, rfl, ⟨rfl, by show (0 : Int) ≤ at' + 1; omega, by show at' + 1 ≤ ((k + 1 : Nat) : Int); omega⟩, u8_and _⟩
theorem tmod_in {x n : Int} (hx : 0 ≤ x) (hn : 1 ≤ n) : 0 ≤ x.tmod n ∧ x.tmod n < n ∧ x.tmod n ≤ x := by
  obtain ⟨a, rfl⟩ := Int.eq_ofNat_of_zero_le hx
  obtain ⟨b, rfl⟩ := Int.eq_ofNat_of_zero_le (show 0 ≤ n by omega)
  have e : ((a : Int)).tmod (b : Int) = ((a % b : Nat) : Int) := rfl
  rw [e]
  have := Nat.mod_lt a (show 0 < b by omega)
  have := Nat.mod_le a b
  omega
theorem pick_ok {N : Nat} {code : List Int} {k : Nat} {c : List Int × (Int × Int)} (hco : codeOk code) (h : CurOk code k c) (hk : k ≤ 1000000) (n : Int) : ∃ x c', Zq65 N c n = some ((x, ()), (c', ())) ∧ CurOk code (k + 2) c' ∧ 0 ≤ x ∧ x ≤ 65535 ∧ (1 ≤ n → x < n) := by
  unfold Zq65
  by_cases h1 : n ≤ 1
  · rw [ile_t h1, br_t]
    exact ⟨_, _, rfl, cur_mono h (by omega), by omega, by omega, fun h => by omega⟩
  · rw [ile_f h1, br_f]
    obtain ⟨x, c', e1, e2, e3, e4⟩ := next_ok (N := N) hco h (by omega)
    rw [e1, bind_some']
    simp only []
    by_cases h2 : 200 < n
    · rw [ilt_t h2, br_t]
      obtain ⟨y, c2, f1, f2, f3, f4⟩ := next_ok (N := N) hco e2 (by omega)
      rw [f1, bind_some', ine_t (show n ≠ 0 by omega), chk_t]
      simp only []
      rw [wrap_ok (n := x * 256) (by omega) (by omega), wrap_ok (by omega) (by omega)]
      have := tmod_in (x := x * 256 + y) (n := n) (by omega) (by omega)
      exact ⟨_, _, rfl, f2, by omega, by omega, fun _ => by omega⟩
    · rw [ilt_f h2, br_f, ine_t (show n ≠ 0 by omega), chk_t]
      have := tmod_in (x := x) (n := n) (by omega) (by omega)
      exact ⟨_, _, rfl, cur_mono e2 (by omega), by omega, by omega, fun _ => by omega⟩
theorem among_ok {N : Nat} {code : List Int} {k : Nat} {c : List Int × (Int × Int)} (hco : codeOk code) (h : CurOk code k c) (hk : k ≤ 1000000) {l : List Int} (hl : l ≠ []) : ∃ x c', Zq59 N c l = some ((x, ()), (c', ())) ∧ CurOk code (k + 2) c' ∧ x ∈ l := by
  unfold Zq59
  have hp : 0 < l.length := List.length_pos_iff.2 hl
  obtain ⟨x, c', e1, e2, e3, e4, e5⟩ := pick_ok (N := N) hco h hk (tLen l)
  rw [e1, bind_some']
  simp only []
  rw [tLen_n] at e5
  obtain ⟨n, rfl⟩ := Int.eq_ofNat_of_zero_le e3
  have hn : n < l.length := by have := e5 (by omega); omega
  rw [inb_n hn, chk_t, rdI_n hn]
  exact ⟨_, _, rfl, e2, List.getElem_mem hn⟩
theorem one_ok {N : Nat} {code : List Int} {k : Nat} {c : List Int × (Int × Int)} (hco : codeOk code) (h : CurOk code k c) (hk : k ≤ 1000000) (n : Int) : ∃ b c', Zq64 N c n = some ((b, ()), (c', ())) ∧ CurOk code (k + 2) c' := by
  unfold Zq64
  obtain ⟨x, c', e1, e2, _⟩ := pick_ok (N := N) hco h hk n
  rw [e1, bind_some']
  exact ⟨_, _, rfl, e2⟩
end Go.Proofs.YtkffaahlpdlkoaaGreat
