/- Statements on data alone. -/
import Derived.Test.YtfilchmabmfmaaaGreatPvPure
import Derived.Test.YtfilchmabmfmaaaGreatClosuresGa
set_option linter.all false
set_option linter.all false
namespace Go.Proofs.YtfilchmabmfmaaaGreat
open Go Go.PV Classical
theorem Zq20_eq {m : Nat} {ss : List (List Int)} {N : Nat} (hNe : N = 1048577) (hm : m ≤ 6) (hx : ss.length ≤ 1048576) (hs : ∀ s ∈ ss, s.length ≤ 1048576) : Zq20 N (m : Int) ss = some ((((m : Int), formR m ss), ()), ()) := by
  have hp := pow_small hm
  have hN : 1048577 ≤ N := by omega
  have hl := allB_len m
  have key := loop_list (xs := allB m) (L := fun K n o => Zq20_l0 N (fun o o1 o2 => some (((o1, o2), ()), ())) K ss (allB m) ((allB m).length : Int) n 0 (m : Int) o) (k := fun o => some ((((m : Int), o), ()), ())) (formStep ss) (fun n o => o.length ≤ n) (K := N) (s := []) (fun K n s hn _ => ?_) (fun K n s hn hs' => ?_) (fun n s hn h => Nat.le_trans formStep_len (by omega)) (by omega) (Nat.zero_le _)
  · unfold Zq20
    rw [show Zq16 N (m : Int) (fun y0 => (Zq21 N y0).bind fun z => some z.1.1) = some ((allB m, ()), ()) by rw [hNe]; exact allB_impl m hm]
    simp only [bind_some']
    exact key.1
  · simp only [Zq20_l0, ilt_nf hn, br_f]
  · have hr := allB_row (List.getElem_mem hn)
    simp only [Zq20_l0, ilt_n hn, br_t, inb_n hn, chk_t, tLen_n (rdL (allB m) n)]
    rw [ContainsFunc_LLI_LI_eq (g := fun s => decide (s = (allB m)[n])) (fun s h => by simp only [Zq22, Equal_eq (hs s h) hN, bind_some', rdL_n hn]) (by omega) (by omega), bind_some', rdL_n hn]
    have e := formula_both_eq (N := N) (fun solutions2 x3 x4 x5 o3 o4 o5 o6 => ((Zq47 N o5).bind fun r2 =>
            (chk (room o6 [r2.2.1])
              (Zq20_l0 N (fun o o1 o2 => some (((o1, o2), ()), ())) K solutions2 x3 x4 (IntKind.i64.wrap (x5 + 1)) o3 o4 (tApp o6 [r2.2.1]))))) (x2 := ss) (x3 := allB m) (x4 := ((allB m).length : Int)) (x5 := (n : Int)) (o3 := 0) (o4 := (m : Int)) (x6 := (allB m)[n]) (o6 := s) (by omega) (allB m)[n].length 0 N [] (by omega) (by omega) (by simp; omega)
    rw [show ((0 : Nat) : Int) = 0 from rfl] at e
    have hbl := bothF_len (allB m)[n] (allB m)[n].length 0
    rw [e, List.nil_append, Sort_eq (by omega) hN]
    simp only [bind_some']
    rw [clause_sorted hm (List.getElem_mem hn), wrap_succ (by omega), room_ok (by simp; omega), chk_t, br_ite]
    unfold formStep
    have hany : (ss.any fun s => decide (s = (allB m)[n])) = decide ((allB m)[n] ∈ ss) := by
      by_cases h : (allB m)[n] ∈ ss
      · rw [decide_eq_true h]
        exact List.any_eq_true.2 ⟨_, h, decide_eq_true rfl⟩
      · rw [decide_eq_false h]
        refine List.any_eq_false.2 fun x hx h' => h ?_
        have := of_decide_eq_true h'
        rw [← this]
        exact hx
    rw [hany]
    by_cases h : (allB m)[n] ∈ ss
    · rw [if_pos (decide_eq_true h), if_pos h]
    · rw [if_neg (by simpa using h), if_neg h]
      rfl
theorem formR_rows {m : Nat} (hm : m ≤ 6) (ss : List (List Int)) : ∀ x ∈ formR m ss, x.length ≤ 1048576 := by
  have go : ∀ (xs o : List (List Int)), (∀ b ∈ xs, b.length ≤ 6) → (∀ x ∈ o, x.length ≤ 1048576) → ∀ x ∈ xs.foldl (formStep ss) o, x.length ≤ 1048576 := by
    intro xs
    induction xs with
    | nil => intro o _ h; exact h
    | cons b xs ih =>
      intro o hb ho
      refine ih _ (fun c hc => hb c (List.mem_cons_of_mem _ hc)) fun x hx => ?_
      unfold formStep at hx
      by_cases h : b ∈ ss
      · rw [if_pos h] at hx
        exact ho x hx
      · rw [if_neg h] at hx
        rcases List.mem_append.1 hx with hx | hx
        · exact ho x hx
        · have h1 := clauseF_len b
          have h2 := hb b (List.mem_cons_self ..)
          simp at hx
          rw [hx]
          omega
  exact go _ [] (fun b hb => by have := allB_row hb; omega) (by simp)
def formOk (c : Int) (ss : List (List Int)) : Prop := (0 ≤ c ∧ c ≤ 6) ∧ ∀ s ∈ ss, (s.all isBit && decide ((s.length : Int) = c)) = true
noncomputable def formV (c : Int) (ss : List (List Int)) : (Int × List (List Int)) × Bool := if formOk c ss then ((c, formR c.toNat ss), true) else ((0, []), false)
theorem formV_small (c : Int) {ss : List (List Int)} (hx : ss.length ≤ 1048576) (hs : ∀ s ∈ ss, s.length ≤ 1048576) : (formV c ss).1.2.length ≤ 64 ∧ ∀ x ∈ (formV c ss).1.2, x.length ≤ 1048576 := by
  unfold formV
  by_cases h : formOk c ss
  · rw [if_pos h]
    have hc := h.1
    exact ⟨(Zq74_eq (m := c.toNat) rfl (by omega) hx hs).2, formR_rows (by omega) ss⟩
  · rw [if_neg h]
    exact ⟨Nat.zero_le _, by simp⟩
theorem Zq54_eq {N : Nat} (hNe : N = 1048577) {c : Int} {ss : List (List Int)} (hx : ss.length ≤ 1048576) (hs : ∀ s ∈ ss, s.length ≤ 1048576) : Zq54 N c ss = some (((formV c ss).1, (formV c ss).2, ()), ()) := by
  have hN : 1048577 ≤ N := by omega
  unfold Zq54
  rw [l1In_eq, bind_some']
  by_cases hc : 0 ≤ c ∧ c ≤ 6
  · obtain ⟨m, rfl⟩ : ∃ m : Nat, c = m := ⟨c.toNat, by omega⟩
    have hm : m ≤ 6 := by omega
    rw [decide_eq_true hc, Bool.not_true, br_f]
    have key := loop_all_if (P := ∀ s ∈ ss, (s.all isBit && decide ((s.length : Int) = (m : Int))) = true) (m := ss.length) (L := fun K i => Zq54_l0 N (fun x o => some (((o, []), x, ()), ())) (fun vars1 solutions1 o1 => ((Zq74 N vars1 solutions1).bind fun r1 =>
        some (((r1.1.1.1, r1.1.1.2), true, ()), ()))) K (m : Int) ss i 0) (fun i => ((rdL ss i).all isBit && decide (((rdL ss i).length : Int) = (m : Int))) = true) all_rdL (kt := some ((((m : Int), formR m ss), true, ()), ())) (kf := some (((0, []), false, ()), ())) (fun K n hn => ?_) (fun K n hn hp => ?_) (fun K n hn hp => ?_) (show ss.length < N by omega)
    · rw [show ((0 : Nat) : Int) = 0 from rfl] at key
      rw [key]
      unfold formV
      by_cases h : ∀ s ∈ ss, (s.all isBit && decide ((s.length : Int) = (m : Int))) = true
      · rw [if_pos h, if_pos (show formOk (m : Int) ss from ⟨hc, h⟩), Int.toNat_natCast]
      · rw [if_neg h, if_neg (fun h' : formOk (m : Int) ss => h h'.2)]
    · simp only [Zq54_l0, ilt_lenf hn, br_f, (Zq74_eq hNe hm hx hs).1, bind_some']
    · have hb := rdL_len hs n
      simp only [Zq54_l0, ilt_len hn, br_t, inb_n hn, chk_t, l6Bits_eq (show (rdL ss n).length ≤ 1099511627776 by omega) (show (rdL ss n).length < N by omega), bind_some']
      rw [hp, Bool.not_true, br_f, wrap_succ (by omega)]
    · have hb := rdL_len hs n
      simp only [Zq54_l0, ilt_len hn, br_t, inb_n hn, chk_t, l6Bits_eq (show (rdL ss n).length ≤ 1099511627776 by omega) (show (rdL ss n).length < N by omega), bind_some']
      rw [Bool.eq_false_iff.2 hp, Bool.not_false, br_t]
  · rw [decide_eq_false hc, Bool.not_false, br_t]
    unfold formV
    rw [if_neg (fun h : formOk c ss => hc h.1)]
theorem Zq5_eq {N : Nat} (hNe : N = 1048577) {c : Int} {ss : List (List Int)} (hx : ss.length ≤ 1048576) (hs : ∀ s ∈ ss, s.length ≤ 1048576) : Zq5 N c ss = some (((formV c ss).1, (formV c ss).2, ()), ()) := by
  have hN : 1048577 ≤ N := by omega
  unfold Zq5
  rw [between_eq, bind_some']
  by_cases hc : 0 ≤ c ∧ c ≤ 6
  · obtain ⟨m, rfl⟩ : ∃ m : Nat, c = m := ⟨c.toNat, by omega⟩
    have hm : m ≤ 6 := by omega
    rw [decide_eq_true hc, Bool.not_true, br_f, ContainsFunc_LLI_LI_eq (g := fun s => !(s.all isBit && decide ((s.length : Int) = (m : Int)))) (fun s h => by
      have := hs s h
      simp only [Zq6, isAssignment_eq (show s.length ≤ 1099511627776 by omega) (show s.length < N by omega), bind_some']) (by omega) (by omega)]
    simp only [bind_some', Zq20_eq hNe hm hx hs]
    unfold formV
    by_cases h : ∀ s ∈ ss, (s.all isBit && decide ((s.length : Int) = (m : Int))) = true
    · have e : (ss.any fun s => !(s.all isBit && decide ((s.length : Int) = (m : Int)))) = false := by
        refine List.any_eq_false.2 fun s h' => ?_
        rw [h s h']
        simp
      rw [e, br_f, if_pos (show formOk (m : Int) ss from ⟨hc, h⟩), Int.toNat_natCast]
    · have e : (ss.any fun s => !(s.all isBit && decide ((s.length : Int) = (m : Int)))) = true := by
        refine Classical.byContradiction fun hn => h fun s h' => ?_
        have := List.any_eq_false.1 (Bool.eq_false_iff.2 hn) s h'
        cases hq : (s.all isBit && decide ((s.length : Int) = (m : Int))) with
        | true => rfl
        | false => rw [hq] at this; exact absurd rfl this
      rw [e, br_t, if_neg (fun h' : formOk (m : Int) ss => h h'.2)]
  · rw [decide_eq_false hc, Bool.not_false, br_t]
    unfold formV
    rw [if_neg (fun h : formOk c ss => hc h.1)]
def putI (n : Int) : List Int → List Int
  | [] => [n]
  | y :: p => if y < n then y :: putI n p else if y = n then y :: p else n :: y :: p
theorem putI_ins {n : Int} : ∀ {p : List Int}, n ∉ p → putI n p = insI n p := by
  intro p
  induction p with
  | nil => intro _; rfl
  | cons y p ih =>
    intro h
    have h1 : n ≠ y := fun e => h (e ▸ List.mem_cons_self ..)
    have h2 : n ∉ p := fun e => h (List.mem_cons_of_mem _ e)
    unfold putI insI
    by_cases hy : y < n
    · rw [if_pos hy, if_pos (by omega), ih h2]
    · rw [if_neg hy, if_neg (fun e => h1 e.symm), if_neg (by omega)]
theorem fold_put : ∀ (xs p : List Int), xs.Nodup → (∀ x ∈ xs, x ∉ p) → xs.foldl (fun p x => putI x p) p = xs.foldl (fun p x => insI x p) p := by
  intro xs
  induction xs with
  | nil => intro p _ _; rfl
  | cons x xs ih =>
    intro p hn hp
    obtain ⟨h1, h2⟩ := List.nodup_cons.1 hn
    rw [List.foldl_cons, List.foldl_cons, putI_ins (hp x (List.mem_cons_self ..))]
    refine ih _ h2 fun y hy hm => ?_
    rcases (insI_mem x y p).1 hm with rfl | hm
    · exact h1 hy
    · exact hp y (List.mem_cons_of_mem _ hy) hm
theorem putI_len (n : Int) : ∀ p : List Int, (putI n p).length ≤ p.length + 1 := by
  intro p
  induction p with
  | nil => exact Nat.le_refl _
  | cons y p ih =>
    unfold putI
    by_cases h : y < n
    · rw [if_pos h, List.length_cons, List.length_cons]; omega
    · by_cases h' : y = n
      · rw [if_neg h, if_pos h']; simp
      · rw [if_neg h, if_neg h']; simp
theorem l1Put_eq {N : Nat} {o : List Int} {n : Int} (ho : o.length ≤ 1048576) (hN : 1048577 ≤ N) : Zq67 N o n = some ((putI n o, ()), ()) := by
  have go : ∀ (q p : List Int) (K : Nat), q.length < K → (p ++ q).length ≤ 1048576 → Zq67_l0 N (fun n1 kv o => (br (ilt kv (tLen o))
    ((chk (inb o kv)
      (br (ieq (rdI o kv) n1)
      (some ((o, ()), ()))
      ((chk (ile 0 0 && ile 0 kv && ile kv (tLen o))
        (chk (room (α := Int) (β := Int) [] (tCut o 0 kv))
        (chk (room (tApp [] (tCut o 0 kv)) [n1])
        (chk (ile 0 kv && ile kv (tLen o) && ile (tLen o) (tLen o))
        (chk (room (tApp (tApp [] (tCut o 0 kv)) [n1]) (tCut o kv (tLen o)))
        (some (((tApp (tApp (tApp [] (tCut o 0 kv)) [n1]) (tCut o kv (tLen o))), ()), ())))))))))))
    ((chk (ile 0 0 && ile 0 kv && ile kv (tLen o))
      (chk (room (α := Int) (β := Int) [] (tCut o 0 kv))
      (chk (room (tApp [] (tCut o 0 kv)) [n1])
      (chk (ile 0 kv && ile kv (tLen o) && ile (tLen o) (tLen o))
      (chk (room (tApp (tApp [] (tCut o 0 kv)) [n1]) (tCut o kv (tLen o)))
      (some (((tApp (tApp (tApp [] (tCut o 0 kv)) [n1]) (tCut o kv (tLen o))), ()), ())))))))))) K n ((p.length : Nat) : Int) (p ++ q) = some ((p ++ putI n q, ()), ()) := by
    intro q
    have cuts : ∀ p q : List Int, tCut (p ++ q) 0 ((p.length : Nat) : Int) = p ∧ tCut (p ++ q) ((p.length : Nat) : Int) (tLen (p ++ q)) = q := fun p q => ⟨by simp [tCut], by rw [tLen_n, tCut_n, List.take_length, List.drop_left]⟩
    have c1 : ∀ p q : List Int, (ile 0 0 && ile 0 ((p.length : Nat) : Int) && ile ((p.length : Nat) : Int) (tLen (p ++ q))) = true := fun p q => by
      rw [ile_t (Int.le_refl 0), ile_t (by omega), ile_t (by simp [tLen]; omega)]; rfl
    have c2 : ∀ p q : List Int, (ile 0 ((p.length : Nat) : Int) && ile ((p.length : Nat) : Int) (tLen (p ++ q)) && ile (tLen (p ++ q)) (tLen (p ++ q))) = true := fun p q => by
      rw [ile_t (Int.le_refl (tLen _)), ile_t (by omega), ile_t (by simp [tLen]; omega)]; rfl
    induction q with
    | nil =>
      intro p K hK hl
      obtain ⟨k, rfl⟩ := succ_of hK
      have hlt : ¬ p.length < (p ++ ([] : List Int)).length := by simp
      simp only [Zq67_l0, ilt_lenf hlt, br_f, (cuts p []).1, (cuts p []).2, c1, c2, chk_t]
      rw [room_ok (by simp at hl ⊢; omega), room_ok (by simp [tApp] at hl ⊢; omega), room_ok (by simp [tApp] at hl ⊢; omega), chk_t, chk_t, chk_t]
      simp [tApp, putI]
    | cons y q ih =>
      intro p K hK hl
      obtain ⟨k, rfl⟩ := succ_of hK
      have hlt : p.length < (p ++ y :: q).length := by simp
      simp only [Zq67_l0, ilt_len hlt, br_t, inb_n hlt, chk_t, rdI_mid]
      by_cases hy : y < n
      · have := ih (p ++ [y]) k (by simp at hK; omega) (by simpa using hl)
        rw [ilt_t hy, br_t, wrap_succ (by simp at hl; omega)]
        simp only [List.append_assoc, List.singleton_append, List.length_append, List.length_singleton] at this
        rw [this]
        simp [putI, hy]
      · rw [ilt_f hy, br_f]
        by_cases hyn : y = n
        · rw [ieq_t hyn, br_t]
          simp [putI, hy, hyn]
        · rw [ieq_f hyn, br_f, c1, chk_t, c2, chk_t, (cuts p (y :: q)).1, (cuts p (y :: q)).2]
          rw [room_ok (by simp at hl ⊢; omega), room_ok (by simp [tApp] at hl ⊢; omega), room_ok (by simp [tApp] at hl ⊢; omega), chk_t, chk_t, chk_t]
          simp [tApp, putI, hy, hyn]
  unfold Zq67
  exact go o [] N (by omega) (by simpa using ho)
noncomputable def negL (vs : List Int) (x : Int) : Int := if (if -x < x then x else -x) - 1 ∈ vs then -x else x
theorem negL_inj {vs : List Int} {x y : Int} (hx : x ≠ 0) (h : negL vs x = negL vs y) : x = y := by
  have hcs : ∀ z, negL vs z = z ∨ negL vs z = -z := fun z => by
    unfold negL
    by_cases hz : (if -z < z then z else -z) - 1 ∈ vs
    · exact .inr (if_pos hz)
    · exact .inl (if_neg hz)
  have hc : x = y ∨ y = -x := by
    rcases hcs x with h1 | h1 <;> rcases hcs y with h2 | h2 <;> omega
  rcases hc with rfl | rfl
  · rfl
  · have e : (if -(-x) < -x then -x else -(-x)) = (if -x < x then x else -x) := by
      by_cases h1 : -x < x
      · rw [if_pos h1, if_neg (by omega)]; omega
      · rw [if_neg h1, if_pos (by omega)]
    unfold negL at h
    rw [e] at h
    by_cases hz : (if -x < x then x else -x) - 1 ∈ vs
    · rw [if_pos hz, if_pos hz] at h
      omega
    · rw [if_neg hz, if_neg hz] at h
      omega
theorem clause_asc {v : Int} {c : List Int} (h : clauseOk v c) : c.Pairwise (· < ·) := by
  have step : ∀ d i, i + d + 1 < c.length → rdI c i < rdI c ((i + d + 1 : Nat) : Int) := by
    intro d
    induction d with
    | zero =>
      intro i hi
      have := (h (i + 1) (by omega)).2.2.2 (by omega)
      simpa using this
    | succ d ih =>
      intro i hi
      have h1 := ih i (by omega)
      have h2 := (h (i + (d + 1) + 1) hi).2.2.2 (by omega)
      have e : i + (d + 1) + 1 - 1 = i + d + 1 := by omega
      rw [e] at h2
      omega
  refine List.pairwise_iff_getElem.2 fun i j hi hj hij => ?_
  have := step (j - i - 1) i (by omega)
  rw [show i + (j - i - 1) + 1 = j by omega, rdI_n hi, rdI_n hj] at this
  exact this
theorem clause_short {v : Int} (hv : 0 ≤ v ∧ v ≤ 6) {c : List Int} (h : clauseOk v c) : c.length ≤ 12 := by
  have key : ∀ k, k < c.length → (k : Int) ≤ (if rdI c k < 0 then rdI c k + v else rdI c k + v - 1) := by
    intro k
    induction k with
    | zero =>
      intro hk
      obtain ⟨h1, h2, h3, _⟩ := h 0 hk
      split <;> omega
    | succ k ih =>
      intro hk
      have := ih (by omega)
      obtain ⟨h1, h2, h3, h4⟩ := h (k + 1) hk
      have h5 := h4 (by omega)
      rw [show k + 1 - 1 = k by omega] at h5
      obtain ⟨g1, _, _, _⟩ := h k (by omega)
      split at this <;> split <;> omega
  rcases Nat.eq_zero_or_pos c.length with h0 | h0
  · omega
  · have := key (c.length - 1) (by omega)
    obtain ⟨h1, h2, h3, _⟩ := h (c.length - 1) (by omega)
    split at this <;> omega
theorem neg_clause {v : Int} {c vs : List Int} (h : clauseOk v c) : (c.map (negL vs)).foldl (fun p x => putI x p) [] = sortI (c.map (negL vs)) := by
  refine fold_put _ _ ?_ (by simp)
  have hz : ∀ x ∈ c, x ≠ 0 := all_rdI.2 fun i hi => (h i hi).1
  have hp := clause_asc h
  refine List.pairwise_map.2 (hp.imp_of_mem fun {a b} ha hb hab he => ?_)
  have := negL_inj (hz a ha) he
  omega
noncomputable def negC (vs : List Int) (c : List Int) : List Int := sortI (c.map (negL vs))
theorem negC_len (vs c : List Int) : (negC vs c).length = c.length := by
  unfold negC
  rw [(sortI_len_asc _).1, List.length_map]
theorem negL_spec {N : Nat} {vs : List Int} {x : Int} (hv : vs.length ≤ 1048576) (hx : -6 ≤ x ∧ x ≤ 6) (hN : 1048577 ≤ N) : (Zq65 N x (IntKind.i64.wrap (0 - x))) = some (((if -x < x then x else -x), ()), ()) ∧ IntKind.i64.wrap ((if -x < x then x else -x) - 1) = (if -x < x then x else -x) - 1 ∧ IntKind.i64.wrap (0 - x) = -x := by
  have e : IntKind.i64.wrap (0 - x) = -x := by rw [wrap_ok (by omega) (by omega)]; omega
  refine ⟨by rw [e, l1Most_eq], ?_, e⟩
  have : -1 ≤ (if -x < x then x else -x) ∧ (if -x < x then x else -x) ≤ 6 := by split <;> omega
  rw [wrap_ok (by omega) (by omega)]
theorem NegateVars_in_eq {R : Type} {N : Nat} (k0 : List Int → Int → Int → List (List Int) → Int → Int → List Int → List (List Int) → Option R) {vs : List Int} {i : Nat} {cs o10 : List (List Int)} {o5 o7 o8 v : Int} (hv : 0 ≤ v ∧ v ≤ 6) (hvs : vs.length ≤ 1048576) (hi : i < cs.length) (hc : clauseOk v (rdL cs i)) (hN : 1048577 ≤ N) :
    Zq56_l0_0 N k0 N vs i 0 o5 cs o7 o8 [] o10 = k0 vs i o5 cs o7 o8 (negC vs (rdL cs i)) o10 := by
  have hs := clause_short hv hc
  refine (loop_list (xs := rdL cs i) (L := fun K n o => Zq56_l0_0 N k0 K vs i n o5 cs o7 o8 o o10) (k := fun o => k0 vs i o5 cs o7 o8 o o10) (fun o x => putI (negL vs x) o) (fun n o => o.length ≤ n) (fun K n s hn _ => ?_) (fun K n s hn hs' => ?_) (fun n s hn h => Nat.le_trans (putI_len _ _) (by omega)) (s := []) (K := N) (by omega) (Nat.zero_le _)).1.trans ?_
  · simp only [Zq56_l0_0, inb_n hi, chk_t, ilt_lenf hn, br_f]
  · obtain ⟨h1, h2, h3, _⟩ := hc n hn
    obtain ⟨e1, e2, e3⟩ := negL_spec (N := N) (x := rdI (rdL cs i) n) hvs (by omega) hN
    simp only [Zq56_l0_0, inb_n hi, chk_t, ilt_len hn, br_t, inb_n hn, e1, bind_some', e2, l1Has_eq hvs hN]
    rw [e3, l1Put_eq (by omega) hN, l1Put_eq (by omega) hN, bind_some', bind_some', wrap_succ (by omega), br_ite, ← rdI_n hn]
    by_cases h : (if -rdI (rdL cs i) n < rdI (rdL cs i) n then rdI (rdL cs i) n else -rdI (rdL cs i) n) - 1 ∈ vs
    · rw [if_pos (decide_eq_true h)]
      show _ = Zq56_l0_0 N k0 K vs i ((n + 1 : Nat) : Int) o5 cs o7 o8 (putI (negL vs (rdI (rdL cs i) n)) s) o10
      rw [show negL vs (rdI (rdL cs i) n) = -rdI (rdL cs i) n from if_pos h]
    · rw [if_neg (by simpa using h)]
      show _ = Zq56_l0_0 N k0 K vs i ((n + 1 : Nat) : Int) o5 cs o7 o8 (putI (negL vs (rdI (rdL cs i) n)) s) o10
      rw [show negL vs (rdI (rdL cs i) n) = rdI (rdL cs i) n from if_neg h]
  · show k0 vs i o5 cs o7 o8 ((rdL cs i).foldl (fun o x => putI (negL vs x) o) []) o10 = _
    rw [← List.foldl_map (f := negL vs) (g := fun p x => putI x p), neg_clause hc]
    rfl
theorem rdL_set {cs : List (List Int)} {i : Nat} (hi : i < cs.length) (r : List Int) : rdL (tSet cs (i : Int) r) i = r := by
  rw [tSet_n, rdL_n (by simpa using hi)]
  simp
theorem tSet_tSet {cs : List (List Int)} {i : Nat} (r r' : List Int) : tSet (tSet cs (i : Int) r) (i : Int) r' = tSet cs (i : Int) r' := by
  rw [tSet_n, tSet_n, tSet_n, List.set_set]
theorem Zq14_in_eq {R : Type} {N : Nat} (k0 : List Int → Int → Int → Int → Int → Int → List (List Int) → Option R) {vs : List Int} {i : Nat} {x2 x3 o3 o4 v : Int} {c : List Int} (hv : 0 ≤ v ∧ v ≤ 6) (hvs : vs.length ≤ 1048576) (hc : clauseOk v c) (hN : 1048577 ≤ N) : ∀ (d n K : Nat) (o5 : List (List Int)), n + d = c.length → d < K → i < o5.length → rdL o5 i = (c.map (negL vs)).take n ++ c.drop n →
    Zq14_l0_0 N k0 K vs i x2 x3 i (c.length : Int) n o3 o4 o5 = k0 vs i x2 x3 o3 o4 (tSet o5 i (c.map (negL vs))) := by
  have hs := clause_short hv hc
  intro d
  induction d with
  | zero =>
    intro n K o5 hd hK hi hr
    obtain ⟨k, rfl⟩ := succ_of hK
    simp only [Zq14_l0_0]
    rw [ilt_nf (by omega), br_f]
    rw [List.take_of_length_le (by simp; omega), List.drop_of_length_le (by omega), List.append_nil] at hr
    congr 1
    rw [← hr, tSet_n, rdL_n hi, List.set_getElem_self]
  | succ d ih =>
    intro n K o5 hd hK hi hr
    obtain ⟨k, rfl⟩ := succ_of hK
    have hn : n < c.length := by omega
    have hlen : (rdL o5 i).length = c.length := by rw [hr]; simp; omega
    have hat : rdI (rdL o5 i) n = rdI c n := by
      rw [hr, rdI_n hn]
      have := rdI_mid ((c.map (negL vs)).take n) (c.drop (n + 1)) c[n]
      rw [← drop_cons hn, show ((c.map (negL vs)).take n).length = n by simp; omega] at this
      exact this
    obtain ⟨h1, h2, h3, _⟩ := hc n hn
    have e3 : IntKind.i64.wrap (0 - rdI c n) = -rdI c n := by rw [wrap_ok (by omega) (by omega)]; omega
    have e4 : (if -rdI c n > rdI c n then -rdI c n else rdI c n) = (if -rdI c n < rdI c n then rdI c n else -rdI c n) := by
      by_cases q : -rdI c n < rdI c n
      · rw [if_pos q, if_neg (by omega)]
      · rw [if_neg q]
        by_cases q2 : -rdI c n > rdI c n
        · rw [if_pos q2]
        · rw [if_neg q2]; omega
    have e5 : IntKind.i64.wrap ((if -rdI c n < rdI c n then rdI c n else -rdI c n) - 1) = (if -rdI c n < rdI c n then rdI c n else -rdI c n) - 1 := by
      have : -1 ≤ (if -rdI c n < rdI c n then rdI c n else -rdI c n) ∧ (if -rdI c n < rdI c n then rdI c n else -rdI c n) ≤ 6 := by split <;> omega
      rw [wrap_ok (by omega) (by omega)]
    simp only [Zq14_l0_0]
    rw [ilt_n hn, br_t, inb_n (by omega), chk_t, hat, e3, e4, e5, Contains_eq hvs hN]
    simp only [bind_some']
    rw [chk_t, wrap_succ (by omega), br_ite]
    have hnew : (tSet (rdL o5 i) (n : Int) (negL vs (rdI c n))) = (c.map (negL vs)).take (n + 1) ++ c.drop (n + 1) := by
      have := tSet_mid ((c.map (negL vs)).take n) (c.drop (n + 1)) c[n] (negL vs (rdI c n))
      rw [← drop_cons hn, show ((c.map (negL vs)).take n).length = n by simp; omega] at this
      rw [hr, this, List.take_add_one, List.getElem?_eq_getElem (by simpa using hn), rdI_n hn]
      simp
    by_cases h : (if -rdI c n < rdI c n then rdI c n else -rdI c n) - 1 ∈ vs
    · rw [if_pos (decide_eq_true h)]
      have hneg : negL vs (rdI c n) = -rdI c n := if_pos h
      rw [← hneg, hnew, ih (n + 1) k _ (by omega) (by omega) (by simpa [tSet_n] using hi) (rdL_set hi _), tSet_tSet]
    · rw [if_neg (by simpa using h)]
      have hneg : negL vs (rdI c n) = rdI c n := if_neg h
      refine ih (n + 1) k o5 (by omega) (by omega) hi ?_
      rw [← hnew, hneg, ← hat, tSet_n, rdI_n (by omega), List.set_getElem_self]
noncomputable def negF2 (f : Int × List (List Int)) (vs : List Int) : (Int × List (List Int)) × Bool := if goodF f ∧ rising 0 (f.1 - 1) vs then ((f.1, f.2.map (negC vs)), true) else ((0, []), false)
theorem negF2_small {f : Int × List (List Int)} {vs : List Int} (hl : f.2.length ≤ 1048576) (hc : ∀ c ∈ f.2, c.length ≤ 1048576) : (negF2 f vs).1.2.length ≤ 1048576 ∧ ∀ c ∈ (negF2 f vs).1.2, c.length ≤ 1048576 := by
  unfold negF2
  by_cases h : goodF f ∧ rising 0 (f.1 - 1) vs
  · rw [if_pos h]
    refine ⟨by simpa using hl, fun c h' => ?_⟩
    obtain ⟨d, hd, rfl⟩ := List.mem_map.1 h'
    rw [negC_len]
    exact hc d hd
  · rw [if_neg h]
    exact ⟨Nat.zero_le _, by simp⟩
theorem Zq56_eq {N : Nat} {f : Int × List (List Int)} {vs : List Int} (hl : f.2.length ≤ 1048576) (hc : ∀ c ∈ f.2, c.length ≤ 1048576) (hvs : vs.length ≤ 1048576) (hN : 1048577 ≤ N) : Zq56 N f vs = some (((negF2 f vs).1, (negF2 f vs).2, ()), ()) := by
  unfold Zq56 negF2
  simp only [Zq75_eq hl hc hN, bind_some']
  by_cases hg : goodF f
  · have hm := hg.1
    rw [decide_eq_true hg, Bool.not_true, br_f, wrap_ok (by omega) (by omega), l1Rising_eq hvs hN]
    simp only [bind_some']
    by_cases hr : rising 0 (f.1 - 1) vs
    · rw [decide_eq_true hr, Bool.not_true, br_f, if_pos ⟨hg, hr⟩]
      obtain ⟨v, cs⟩ := f
      simp only at hl hc hm
      refine (loop_list (xs := cs) (L := fun K n o => Zq56_l0 N (fun o o1 o2 => some (((o1, o2), true, ()), ())) K vs n v cs 0 v o) (k := fun o => some (((v, o), true, ()), ())) (fun o c => o ++ [negC vs c]) (fun n o => o.length = n) (fun K n s hn _ => ?_) (fun K n s hn hs' => ?_) (fun n s hn h => ?_) (s := []) (K := N) (by omega) rfl).1.trans ?_
      · simp only [Zq56_l0, ilt_lenf hn, br_f]
      · simp only [Zq56_l0, ilt_len hn, br_t]
        rw [NegateVars_in_eq _ hm hvs hn (hg.2.2 n hn) hN, room_ok (by simp; omega), chk_t, wrap_succ (by omega), rdL_n hn]
        rfl
      · simp; omega
      · show some (((v, cs.foldl (fun o c => o ++ [negC vs c]) []), true, ()), ()) = _
        rw [← List.foldl_map (f := negC vs) (g := fun o c => o ++ [c]), foldl_snoc, List.nil_append]
    · rw [decide_eq_false hr, Bool.not_false, br_t, if_neg (fun h => hr h.2)]
  · rw [decide_eq_false hg, Bool.not_false, br_t, if_neg (fun h => hg h.1)]
theorem Zq14_eq {N : Nat} {f : Int × List (List Int)} {vs : List Int} (hl : f.2.length ≤ 1048576) (hc : ∀ c ∈ f.2, c.length ≤ 1048576) (hvs : vs.length ≤ 1048576) (hN : 1048577 ≤ N) : Zq14 N f vs = some (((negF2 f vs).1, (negF2 f vs).2, ()), ()) := by
  unfold Zq14 negF2
  simp only [Zq13_eq hl hc hN, bind_some']
  by_cases hg : goodF f
  · have hm := hg.1
    rw [decide_eq_true hg, Bool.not_true, br_f, isRising_eq hvs (by omega) hN]
    simp only [bind_some']
    by_cases hr : rising 0 (f.1 - 1) vs
    · rw [decide_eq_true hr, Bool.not_true, br_f, if_pos ⟨hg, hr⟩, copyLists_eq hl hc hN]
      simp only [bind_some', tLen_n]
      obtain ⟨v, cs⟩ := f
      simp only at hl hc hm
      have go : ∀ (d n K : Nat), n + d = cs.length → d < K → Zq14_l0 N (fun o o1 o2 => some (((o1, o2), true, ()), ())) K vs (cs.length : Int) n 0 v ((cs.map (negC vs)).take n ++ cs.drop n) = some (((v, cs.map (negC vs)), true, ()), ()) := by
        intro d
        induction d with
        | zero =>
          intro n K hd hK
          obtain ⟨k, rfl⟩ := succ_of hK
          simp only [Zq14_l0]
          rw [ilt_nf (by omega), br_f, List.take_of_length_le (by simp; omega), List.drop_of_length_le (by omega), List.append_nil]
        | succ d ih =>
          intro n K hd hK
          obtain ⟨k, rfl⟩ := succ_of hK
          have hn : n < cs.length := by omega
          have htl : ((cs.map (negC vs)).take n).length = n := by simp; omega
          have hol : n < ((cs.map (negC vs)).take n ++ cs.drop n).length := by simp; omega
          have hrow : rdL ((cs.map (negC vs)).take n ++ cs.drop n) n = cs[n] := by
            rw [rdL_n hol, List.getElem_append_right (by omega)]
            simp [htl]
          have hcl : clauseOk v cs[n] := by rw [← rdL_n hn]; exact hg.2.2 n hn
          have hsh := clause_short hm hcl
          simp only [Zq14_l0]
          rw [ilt_n hn, br_t, inb_n hol, chk_t, hrow, tLen_n]
          have e := Zq14_in_eq (N := N) (fun vars2 clause x2 x3 o3 o4 o5 => ((Zq47 N (rdL o5 clause)).bind fun r3 =>
        Zq14_l0 N (fun o o1 o2 => some (((o1, o2), true, ()), ())) k vars2 x2 (IntKind.i64.wrap (x3 + 1)) o3 o4 (tSet o5 clause r3.2.1))) (vs := vs) (i := n) (x2 := (cs.length : Int)) (x3 := (n : Int)) (o3 := 0) (o4 := v) hm hvs hcl hN cs[n].length 0 N ((cs.map (negC vs)).take n ++ cs.drop n) (by omega) (by omega) hol (by rw [hrow]; simp)
          rw [show ((0 : Nat) : Int) = 0 from rfl] at e
          rw [e, rdL_set hol, Sort_eq (by rw [List.length_map]; omega) hN]
          simp only [bind_some']
          rw [tSet_tSet, wrap_succ (by omega), ← ih (n + 1) k (by omega) (by omega)]
          congr 1
          rw [tSet_n, List.set_append_right _ _ (by omega), htl, Nat.sub_self]
          obtain ⟨y, r, e1, e2, e3⟩ := drop_split hn
          rw [e1, e2, e3, List.set_cons_zero, List.take_add_one, List.getElem?_eq_getElem (by simpa using hn)]
          simp [e2, negC]
      have := go cs.length 0 N (by omega) (by omega)
      simpa using this
    · rw [decide_eq_false hr, Bool.not_false, br_t, if_neg (fun h => hr h.2)]
  · rw [decide_eq_false hg, Bool.not_false, br_t, if_neg (fun h => hg h.1)]
theorem iter_app {p : Nat → Prop} [DecidablePred p] : ∀ (d n : Nat) (o : List Int), iter (fun n o => if p n then o ++ [(n : Int)] else o) d n o = o ++ ((List.range' n d).filter fun i => decide (p i)).map (fun i : Nat => (i : Int)) := by
  intro d
  induction d with
  | zero => intro n o; simp [iter]
  | succ d ih =>
    intro n o
    unfold iter
    rw [ih, List.range'_succ]
    by_cases h : p n <;> simp [h]
theorem wrap64 {n : Nat} (h : n < 18446744073709551616) : IntKind.u64.wrap (n : Int) = (n : Int) := by
  unfold IntKind.wrap
  simp only [IntKind.bits, IntKind.signed, Bool.false_and]
  have : (n : Int) % (2 ^ 64 : Int) = n := Int.emod_eq_of_lt (by omega) (by omega)
  rw [this]
  rfl
theorem ofInt64 {n : Nat} (h : n < 18446744073709551616) : (BitVec.ofInt 64 (n : Int)).toNat = n := by
  rw [BitVec.toNat_ofInt]
  omega
theorem orN {a b : Nat} (ha : a < 4294967296) (hb : b < 4294967296) : bitop .or .u64 (a : Int) (b : Int) = ((a ||| b : Nat) : Int) := by
  show IntKind.u64.wrap (((BitVec.ofInt 64 (a : Int) ||| BitVec.ofInt 64 (b : Int)).toNat : Nat) : Int) = _
  rw [BitVec.toNat_or, ofInt64 (by omega), ofInt64 (by omega)]
  have : a ||| b < 2 ^ 32 := Nat.or_lt_two_pow ha hb
  exact wrap64 (by omega)
theorem andN {a b : Nat} (ha : a < 4294967296) (hb : b < 4294967296) : bitop .and .u64 (a : Int) (b : Int) = ((a &&& b : Nat) : Int) := by
  show IntKind.u64.wrap (((BitVec.ofInt 64 (a : Int) &&& BitVec.ofInt 64 (b : Int)).toNat : Nat) : Int) = _
  rw [BitVec.toNat_and, ofInt64 (by omega), ofInt64 (by omega)]
  have : a &&& b < 2 ^ 32 := Nat.and_lt_two_pow _ hb
  exact wrap64 (by omega)
theorem nodup_le : ∀ {a b : List Int}, a.Nodup → (∀ x ∈ a, x ∈ b) → a.length ≤ b.length := by
  intro a
  induction a with
  | nil => intro b _ _; exact Nat.zero_le _
  | cons x a ih =>
    intro b hn hs
    obtain ⟨h1, h2⟩ := List.nodup_cons.1 hn
    have hx := hs x (List.mem_cons_self ..)
    have := ih (b := b.erase x) h2 fun y hy => (List.mem_erase_of_ne (fun (e : y = x) => h1 (e ▸ hy))).2 (hs y (List.mem_cons_of_mem _ hy))
    rw [List.length_erase_of_mem hx] at this
    have := List.length_pos_of_mem hx
    rw [List.length_cons]
    omega
def strict (xs : List Int) : Prop := xs.Pairwise (· < ·)
theorem putI_mem (n z : Int) : ∀ p : List Int, z ∈ putI n p ↔ z = n ∨ z ∈ p := by
  intro p
  induction p with
  | nil => simp [putI]
  | cons y p ih =>
    unfold putI
    by_cases h : y < n
    · rw [if_pos h, List.mem_cons, ih, List.mem_cons]
      constructor
      · rintro (h | h | h)
        · exact .inr (.inl h)
        · exact .inl h
        · exact .inr (.inr h)
      · rintro (h | h | h)
        · exact .inr (.inl h)
        · exact .inl h
        · exact .inr (.inr h)
    · by_cases h' : y = n
      · rw [if_neg h, if_pos h', List.mem_cons, h']
        constructor
        · exact .inr
        · rintro (h | h)
          · exact .inl h
          · exact h
      · rw [if_neg h, if_neg h', List.mem_cons]
theorem putI_strict {n : Int} : ∀ {p : List Int}, strict p → strict (putI n p) := by
  intro p
  induction p with
  | nil => intro _; exact List.pairwise_singleton ..
  | cons y p ih =>
    intro h
    obtain ⟨h1, h2⟩ := List.pairwise_cons.1 h
    unfold putI
    by_cases hy : y < n
    · rw [if_pos hy]
      refine List.pairwise_cons.2 ⟨fun z hz => ?_, ih h2⟩
      rcases (putI_mem n z p).1 hz with rfl | hz
      · exact hy
      · exact h1 z hz
    · rw [if_neg hy]
      by_cases hy' : y = n
      · rw [if_pos hy']; exact h
      · rw [if_neg hy']
        refine List.pairwise_cons.2 ⟨fun z hz => ?_, h⟩
        rcases List.mem_cons.1 hz with rfl | hz
        · omega
        · have := h1 z hz
          omega
theorem sortI_mem (z : Int) (xs : List Int) : z ∈ sortI xs ↔ z ∈ xs := by
  have go : ∀ (xs p : List Int), z ∈ xs.foldl (fun p x => insI x p) p ↔ z ∈ p ∨ z ∈ xs := by
    intro xs
    induction xs with
    | nil => intro p; simp
    | cons x xs ih =>
      intro p
      rw [List.foldl_cons, ih, insI_mem, List.mem_cons]
      constructor
      · rintro ((h | h) | h)
        · exact .inr (.inl h)
        · exact .inl h
        · exact .inr (.inr h)
      · rintro (h | h | h)
        · exact .inl (.inr h)
        · exact .inl (.inl h)
        · exact .inr h
  have := go xs []
  unfold sortI
  simpa using this
theorem sortI_strict {xs : List Int} (h : xs.Nodup) : strict (sortI xs) := by
  have := fold_put xs [] h (by simp)
  unfold sortI
  rw [← this]
  have go : ∀ (xs p : List Int), strict p → strict (xs.foldl (fun p x => putI x p) p) := by
    intro xs
    induction xs with
    | nil => intro p h; exact h
    | cons x xs ih => intro p h; exact ih _ (putI_strict h)
  exact go xs [] List.Pairwise.nil
def bitAt (m n v : Nat) : Int := ((n / 2 ^ (m - 1 - v) % 2 : Nat) : Int)
theorem bitTab : ((List.range 64).all fun n => (List.range 6).all fun k => decide (bitop .and .i64 (shrI .i64 (n : Int) (k : Int)) 1 = ((n / 2 ^ k % 2 : Nat) : Int))) = true := by kernel_rfl
theorem bit_at {n k : Nat} (hn : n < 64) (hk : k < 6) : bitop .and .i64 (shrI .i64 (n : Int) (k : Int)) 1 = ((n / 2 ^ k % 2 : Nat) : Int) := by
  have h := List.all_eq_true.1 bitTab n (List.mem_range.2 hn)
  have h := List.all_eq_true.1 h k (List.mem_range.2 hk)
  exact of_decide_eq_true h
theorem assign_row {R : Type} {N m n : Nat} {k0 : Int → (List Int → Option Bool) → Int → Int → List (List Int) → List Int → Option R} {is : List Int → Option Bool} {x2 x3 : Int} {o1 : List (List Int)} (hm : m ≤ 6) (hn : n < 64) : ∀ (d v K : Nat) (o2 : List Int), v + d = m → d < K → o2.length = v →
    Zq17_l0_0 N k0 K (m : Int) is (n : Int) x2 x3 (m : Int) (v : Int) o1 o2 = k0 (m : Int) is x2 x3 o1 (o2 ++ (List.range' v d).map (bitAt m n)) := by
  intro d
  induction d with
  | zero =>
    intro v K o2 hv hK ho
    obtain ⟨K, rfl⟩ := succ_of hK
    simp only [Zq17_l0_0, ilt_nf (show ¬ v < m by omega), br_f]
    simp
  | succ d ih =>
    intro v K o2 hv hK ho
    obtain ⟨K, rfl⟩ := succ_of hK
    have e1 : IntKind.i64.wrap (IntKind.i64.wrap ((m : Int) - 1) - (v : Int)) = ((m - 1 - v : Nat) : Int) := by
      rw [wrap_ok (show -9223372036854775808 ≤ (m : Int) - 1 by omega) (by omega), wrap_ok (by omega) (by omega)]
      omega
    simp only [Zq17_l0_0, ilt_n (show v < m by omega), br_t, e1, bit_at hn (show m - 1 - v < 6 by omega)]
    rw [ile_t (by omega), chk_t, room_ok (by simp; omega), chk_t, wrap_succ (by omega), ih (v + 1) K _ (by omega) (by omega) (by simp [tApp_d, ho])]
    rw [List.range'_succ, List.map_cons, tApp_d, List.append_assoc]
    rfl
def rowB (m n : Nat) : List Int := (List.range m).map (bitAt m n)
theorem allB_rows (m : Nat) : allB m = (List.range (2 ^ m)).map (rowB m) := rfl
theorem pow_le64 {m : Nat} (h : m ≤ 6) : 2 ^ m ≤ 64 := Nat.pow_le_pow_right (by omega) h
theorem shl_m {m : Nat} (h : m ≤ 6) : shlI .i64 1 (m : Int) = ((2 ^ m : Nat) : Int) := by
  rcases (by omega : m = 0 ∨ m = 1 ∨ m = 2 ∨ m = 3 ∨ m = 4 ∨ m = 5 ∨ m = 6) with rfl | rfl | rfl | rfl | rfl | rfl | rfl <;> rfl
theorem assignments_eq {N m : Nat} {is : List Int → Option Bool} {p : List Int → Bool} (hN : 1048577 ≤ N) (hm : m ≤ 6) (hp : ∀ b ∈ allB m, is b = some (p b)) : Zq17 N (m : Int) is = some (((allB m).filter p, ()), ()) := by
  have h64 := pow_le64 hm
  have go : ∀ (r c K : Nat) (o : List (List Int)), c + r = 2 ^ m → r < K → o.length ≤ c →
      Zq17_l0 N (fun o => some ((o, ()), ())) K (m : Int) is ((2 ^ m : Nat) : Int) (c : Int) o = some ((o ++ ((List.range' c r).map (rowB m)).filter p, ()), ()) := by
    intro r
    induction r with
    | zero =>
      intro c K o hc hK ho
      obtain ⟨K, rfl⟩ := succ_of hK
      simp only [Zq17_l0, ilt_nf (show ¬ c < 2 ^ m by omega), br_f]
      simp
    | succ r ih =>
      intro c K o hc hK ho
      obtain ⟨K, rfl⟩ := succ_of hK
      simp only [Zq17_l0, ilt_n (show c < 2 ^ m by omega), br_t]
      have := assign_row (N := N) (m := m) (n := c) (k0 := fun vars2 is2 x2 x3 o1 o2 => (is2 o2).bind fun v => br v (chk (room o1 [o2]) (Zq17_l0 N (fun o => some ((o, ()), ())) K vars2 is2 x2 (IntKind.i64.wrap (x3 + 1)) (tApp o1 [o2]))) (Zq17_l0 N (fun o => some ((o, ()), ())) K vars2 is2 x2 (IntKind.i64.wrap (x3 + 1)) o1))
        (is := is) (x2 := ((2 ^ m : Nat) : Int)) (x3 := (c : Int)) (o1 := o) hm (by omega) m 0 N [] (by omega) (by omega) rfl
      rw [show ((0 : Nat) : Int) = 0 from rfl] at this
      rw [this, List.nil_append, ← List.range_eq_range']
      have hmem : rowB m c ∈ allB m := by rw [allB_rows]; exact List.mem_map.2 ⟨c, List.mem_range.2 (by omega), rfl⟩
      have hq := hp _ hmem
      unfold rowB at hq
      rw [hq, bind_some', wrap_succ (by omega), List.range'_succ, List.map_cons]
      cases hb : p (rowB m c) with
      | true =>
        unfold rowB at hb
        rw [hb, br_t, room_ok (by simp; omega), chk_t, tApp_d, ih (c + 1) K _ (by omega) (by omega) (by simp; omega)]
        rw [List.filter_cons_of_pos (show p (rowB m c) = true from hb), List.append_assoc]
        rfl
      | false =>
        unfold rowB at hb
        rw [hb, br_f, ih (c + 1) K _ (by omega) (by omega) (by omega)]
        rw [List.filter_cons_of_neg (by show ¬ p (rowB m c) = true; unfold rowB; rw [hb]; simp)]
  unfold Zq17
  rw [ile_t (by omega), chk_t, shl_m hm]
  have := go (2 ^ m) 0 N [] (by omega) (by omega) (by simp)
  rw [show ((0 : Nat) : Int) = 0 from rfl] at this
  rw [this, List.nil_append, ← List.range_eq_range', ← allB_rows]
theorem allB_bits {m : Nat} {b : List Int} (h : b ∈ allB m) : ∀ x ∈ b, x = 0 ∨ x = 1 := by
  obtain ⟨n, _, rfl⟩ := List.mem_map.1 h
  intro x hx
  obtain ⟨v, _, rfl⟩ := List.mem_map.1 hx
  omega
theorem rising_in {lo hi : Int} {xs : List Int} (h : rising lo hi xs) : ∀ x ∈ xs, lo ≤ x ∧ x ≤ hi := all_rdI.2 fun i hi => (h i hi).1
theorem rising_strict {lo hi : Int} : ∀ {L : List Int}, rising lo hi L → strict L := by
  intro L
  induction L with
  | nil => intro _; exact List.Pairwise.nil
  | cons x L ih =>
    intro h
    have h' : rising lo hi L := by
      intro i hi'
      have := h (i + 1) (by simp; omega)
      obtain ⟨h1, h2⟩ := this
      have e : ∀ k : Nat, rdI (x :: L) ((k + 1 : Nat) : Int) = rdI L (k : Int) := by intro k; simp [rdI]
      rw [e] at h1 h2
      refine ⟨h1, fun h0 => ?_⟩
      have := h2 (by omega)
      rw [show ((i + 1 - 1 : Nat) : Int) = ((i - 1 + 1 : Nat) : Int) by omega, e] at this
      exact this
    have hs := ih h'
    refine List.pairwise_cons.2 ⟨fun y hy => ?_, hs⟩
    cases L with
    | nil => exact absurd hy (by simp)
    | cons z L =>
      have h1 := (h 1 (by simp)).2 (by omega)
      have hxz : x < z := by simpa [rdI] using h1
      rcases List.mem_cons.1 hy with rfl | hy
      · exact hxz
      · have := (List.pairwise_cons.1 hs).1 y hy
        omega
theorem sum_le {α : Type} {f : α → Nat} {b : Nat} : ∀ {xs : List α}, (∀ x ∈ xs, f x ≤ b) → (xs.map f).sum ≤ xs.length * b := by
  intro xs
  induction xs with
  | nil => intro _; simp
  | cons x xs ih =>
    intro h
    have h1 := h x (List.mem_cons_self ..)
    have h2 := ih fun y hy => h y (List.mem_cons_of_mem _ hy)
    rw [List.map_cons, List.sum_cons, List.length_cons, Nat.add_mul]
    omega
def lexC : List Int → List Int → Int
  | [], [] => 0
  | [], _ :: _ => -1
  | _ :: _, [] => 1
  | x :: a, y :: b => if x < y then -1 else if y < x then 1 else lexC a b
theorem lexC_anti : ∀ (a b : List Int), lexC b a = - lexC a b := by
  intro a
  induction a with
  | nil => intro b; cases b <;> rfl
  | cons x a ih =>
    intro b
    cases b with
    | nil => rfl
    | cons y b =>
      simp only [lexC]
      by_cases h1 : x < y
      · simp [h1, show ¬ y < x by omega]
      · by_cases h2 : y < x
        · simp [h1, h2]
        · simp [h1, h2, ih]
theorem lexC_self (a : List Int) : lexC a a = 0 := by have := lexC_anti a a; omega
theorem Compare_lex {N : Nat} {a b : List Int} (ha : a.length ≤ 1048576) (hb : b.length ≤ 1048576) (hN : 1048577 ≤ N) : Zq38 N a b = some ((lexC a b, ()), ()) := by
  unfold Zq38
  have go : ∀ (d n K : Nat), n + d = a.length → d < K → n ≤ b.length → lexC a b = lexC (a.drop n) (b.drop n) → Zq38_l0 N (fun x => some ((x, ()), ())) (fun s11 s21 => (br (ilt (tLen s11) (tLen s21)) (some (((-1), ()), ())) (some ((0, ()), ())))) K a b a (a.length : Int) n = some ((lexC a b, ()), ()) := by
    intro d
    induction d with
    | zero =>
      intro n K hd hK hn h
      obtain ⟨k, rfl⟩ := succ_of hK
      simp only [Zq38_l0, ilt_nf (show ¬ n < a.length by omega), br_f]
      rw [tLen_n, tLen_n, h, List.drop_of_length_le (show a.length ≤ n by omega)]
      by_cases hlt : a.length < b.length
      · rw [ilt_n hlt, br_t, drop_cons (show n < b.length by omega)]; rfl
      · rw [ilt_nf hlt, br_f, List.drop_of_length_le (show b.length ≤ n by omega)]; rfl
    | succ d ih =>
      intro n K hd hK hn h
      obtain ⟨k, rfl⟩ := succ_of hK
      have hna : n < a.length := by omega
      simp only [Zq38_l0, ilt_n hna, br_t, inb_n hna, chk_t]
      rw [drop_cons hna] at h
      by_cases hnb : n < b.length
      · rw [tLen_n, ile_f (by omega), br_f, inb_n hnb, chk_t, compare_eq, bind_some', rdI_n hna, rdI_n hnb]
        rw [drop_cons hnb] at h
        simp only [lexC] at h
        simp only []
        by_cases h1 : a[n] < b[n]
        · rw [if_pos h1] at h ⊢
          rw [ine_t (by omega), br_t, h]
        · rw [if_neg h1] at h ⊢
          by_cases h2 : b[n] < a[n]
          · rw [if_pos h2] at h ⊢
            rw [ine_t (by omega), br_t, h]
          · rw [if_neg h2] at h ⊢
            rw [ine_f rfl, br_f, wrap_succ (by omega)]
            exact ih (n + 1) k (by omega) (by omega) (by omega) h
      · rw [tLen_n, ile_t (by omega), br_t, h, List.drop_of_length_le (show b.length ≤ n by omega)]
        rfl
  exact go a.length 0 N (by omega) (by omega) (Nat.zero_le _) rfl
def lexSorted (xs : List (List Int)) : Prop := xs.Pairwise fun a b => lexC a b < 0
theorem lexSorted_filter {xs : List (List Int)} (p : List Int → Bool) (h : lexSorted xs) : lexSorted (xs.filter p) := List.Pairwise.filter _ h
theorem lexC_trans : ∀ {a b c : List Int}, lexC a b < 0 → lexC b c < 0 → lexC a c < 0 := by
  intro a
  induction a with
  | nil =>
    intro b c h1 h2
    cases b with
    | nil => simp [lexC] at h1
    | cons y b =>
      cases c with
      | nil => simp [lexC] at h2
      | cons z c => simp [lexC]
  | cons x a ih =>
    intro b c h1 h2
    cases b with
    | nil => simp [lexC] at h1
    | cons y b =>
      cases c with
      | nil => simp [lexC] at h2
      | cons z c =>
        simp only [lexC] at h1 h2 ⊢
        by_cases p1 : x < y
        · by_cases p2 : y < z
          · rw [if_pos (show x < z by omega)]; decide
          · rw [if_neg p2] at h2
            by_cases p3 : z < y
            · rw [if_pos p3] at h2; omega
            · rw [if_pos (show x < z by omega)]; decide
        · rw [if_neg p1] at h1
          by_cases p2 : y < x
          · rw [if_pos p2] at h1; omega
          · rw [if_neg p2] at h1
            have e : x = y := by omega
            subst e
            by_cases p3 : x < z
            · rw [if_pos p3]; decide
            · rw [if_neg p3] at h2 ⊢
              by_cases p4 : z < x
              · rw [if_pos p4] at h2; omega
              · rw [if_neg p4] at h2 ⊢
                exact ih h1 h2
theorem lexC_eq : ∀ {a b : List Int}, lexC a b = 0 → a = b := by
  intro a
  induction a with
  | nil => intro b h; cases b with
    | nil => rfl
    | cons y b => simp [lexC] at h
  | cons x a ih =>
    intro b h
    cases b with
    | nil => simp [lexC] at h
    | cons y b =>
      simp only [lexC] at h
      by_cases p1 : x < y
      · rw [if_pos p1] at h; omega
      · rw [if_neg p1] at h
        by_cases p2 : y < x
        · rw [if_pos p2] at h; omega
        · rw [if_neg p2] at h
          rw [ih h, show x = y by omega]
theorem lexC_flip {a b : List Int} (h1 : ¬ lexC a b < 0) (h2 : a ≠ b) : lexC b a < 0 := by
  have := lexC_anti a b
  have h3 : lexC a b ≠ 0 := fun e => h2 (lexC_eq e)
  omega
theorem lex_nodup {xs : List (List Int)} (h : lexSorted xs) : xs.Nodup := h.imp fun hab e => by rw [e, lexC_self] at hab; omega
theorem SortFunc_rows {N : Nat} {xs ys : List (List Int)} (hx : xs.length ≤ 1048576) (hl : ∀ x ∈ xs, x.length ≤ 1048576) (hn : xs.Nodup) (hs : lexSorted ys) (hm : ∀ s, s ∈ ys ↔ s ∈ xs) (hN : 1048577 ≤ N) :
    Zq46 N xs () = some ((), (ys, ())) := by
  have hc : ∀ a ∈ xs, ∀ b ∈ xs, (Zq38 N a b).map (fun z => z.1.1) = some (lexC a b) := fun a ha b hb => by rw [Compare_lex (hl a ha) (hl b hb) hN]; rfl
  have hv : ∀ a ∈ xs, ∀ b ∈ xs, cmpV (fun a b => (Zq38 N a b).map fun z => z.1.1) a b = lexC a b := fun a ha b hb => by
    show ((Zq38 N a b).map fun z => z.1.1).getD 0 = _
    rw [hc a ha b hb]
    rfl
  unfold Zq46
  refine sortF_eq ⟨⟨by omega, fun a ha b hb => ⟨_, hc a ha b hb⟩, fun a ha => ?_, fun a ha b hb c hc' h1 h2 => ?_, fun a ha b hb c hc' h1 h2 => ?_, fun a ha b hb h1 h2 => ?_⟩, (List.perm_ext_iff_of_nodup (lex_nodup hs) hn).2 hm, ?_⟩
  · rw [hv a ha a ha, lexC_self]; decide
  · rw [hv a ha b hb] at h1
    rw [hv b hb c hc'] at h2
    rw [hv a ha c hc']
    exact lexC_trans h1 h2
  · rw [hv a ha b hb] at h1
    rw [hv b hb c hc'] at h2
    rw [hv a ha c hc']
    intro h3
    by_cases e : a = b
    · exact h2 (e ▸ h3)
    · exact h2 (lexC_trans (lexC_flip h1 e) h3)
  · rw [hv a ha b hb] at h1
    rw [hv b hb a ha] at h2
    have := lexC_anti a b
    exact lexC_eq (by omega)
  · refine hs.imp_of_mem fun {a b} ha hb hab => ?_
    rw [hv b ((hm b).1 hb) a ((hm a).1 ha)]
    have := lexC_anti a b
    omega
noncomputable def rowSteps (p : List Int → List Int → Bool) (xs : List (List Int)) (i : Nat) : List (Int × Int) := ((List.range' (i + 1) (xs.length - (i + 1))).filter fun j : Nat => p (rdL xs (i : Int)) (rdL xs (j : Int))).map fun j : Nat => ((i : Int), (j : Int))
noncomputable def stepsL (p : List Int → List Int → Bool) (xs : List (List Int)) : List (Int × Int) := (List.range' 0 xs.length).flatMap (rowSteps p xs)
theorem rowSteps_len (p : List Int → List Int → Bool) (xs : List (List Int)) (i : Nat) : (rowSteps p xs i).length ≤ xs.length := by
  unfold rowSteps
  rw [List.length_map]
  exact Nat.le_trans (List.length_filter_le ..) (by simp)
theorem stepsL_len (p : List Int → List Int → Bool) (xs : List (List Int)) : (stepsL p xs).length ≤ xs.length * xs.length := by
  unfold stepsL
  rw [List.length_flatMap]
  have := sum_le (f := fun i => (rowSteps p xs i).length) (b := xs.length) (xs := List.range' 0 xs.length) fun i _ => rowSteps_len p xs i
  simpa using this
noncomputable def apartL (a b : List Int) : List Int := ((List.range' 0 a.length).filter fun i : Nat => decide (rdI a (i : Int) ≠ rdI b (i : Int))).map fun i : Nat => (i : Int)
noncomputable def isCh (a b : List Int) : Bool := decide ((apartL a b).length = 1)
theorem places_ap {N : Nat} {a b : List Int} (ha : a.length ≤ 1048576) (hab : a.length ≤ b.length) (hN : 1048577 ≤ N) : Zq28 N a b = some ((apartL a b, ()), ()) := by
  unfold Zq28
  rw [tLen_n]
  refine (loop_iter (L := fun K n o => Zq28_l0 N (fun o => some ((o, ()), ())) K b a (a.length : Int) n o) (k := fun o => some ((o, ()), ())) (Inv := fun n o => o.length ≤ n) (step := fun n o => if rdI a (n : Int) ≠ rdI b (n : Int) then o ++ [(n : Int)] else o) (fun K n s hn _ => ?_) (fun K n s hn hs => ?_) (fun n s hn h => ?_) (s := []) (m := a.length) (K := N) (by omega) (Nat.zero_le _)).trans ?_
  · simp only [Zq28_l0, ilt_nf hn, br_f]
  · simp only [Zq28_l0, ilt_n hn, br_t, inb_n hn, inb_n (show n < b.length by omega), chk_t]
    rw [wrap_succ (by omega), room_ok (by simp; omega), chk_t, tApp_d]
    by_cases h : rdI a (n : Int) = rdI b (n : Int)
    · rw [ine_f h.symm, br_f, if_neg (not_not_intro h)]
    · rw [ine_t (fun e => h e.symm), br_t, if_pos h]
  · by_cases hc : rdI a (n : Int) = rdI b (n : Int)
    · rw [if_neg (not_not_intro hc)]; omega
    · rw [if_pos hc]; simp; omega
  · rw [iter_app, List.nil_append]
    rfl
theorem isChange_eq {N : Nat} {a b : List Int} (ha : a.length ≤ 1048576) (hab : a.length ≤ b.length) (hN : 1048577 ≤ N) : Zq25 N a b = some ((isCh a b, ()), ()) := by
  unfold Zq25 isCh
  rw [places_ap ha hab hN, bind_some', tLen_n]
  congr 3
  by_cases h : (apartL a b).length = 1
  · rw [ieq_t (show ((apartL a b).length : Int) = 1 by omega), decide_eq_true h]
  · rw [ieq_f (show ((apartL a b).length : Int) ≠ 1 by omega), decide_eq_false h]
theorem l6Apart_ap {N : Nat} {a b : List Int} (ha : a.length ≤ 1048576) (hab : a.length ≤ b.length) (hN : 1048577 ≤ N) : Zq72 N a b = some ((((apartL a b).length : Int), ()), ()) := by
  unfold Zq72 apartL
  have go : ∀ (d n K c : Nat), n + d = a.length → d < K → c ≤ n → Zq72_l0 N (fun count => some ((count, ()), ())) K a b (c : Int) (n : Int) = some ((((c + ((List.range' n d).filter fun i : Nat => decide (rdI a (i : Int) ≠ rdI b (i : Int))).length : Nat) : Int), ()), ()) := by
    intro d
    induction d with
    | zero =>
      intro n K c hd hK hc
      obtain ⟨k, rfl⟩ := succ_of hK
      simp only [Zq72_l0, ilt_lenf (show ¬ n < a.length by omega), br_f]
      simp
    | succ d ih =>
      intro n K c hd hK hc
      obtain ⟨k, rfl⟩ := succ_of hK
      have hn : n < a.length := by omega
      simp only [Zq72_l0, ilt_len hn, br_t, inb_n hn, inb_n (show n < b.length by omega), chk_t]
      rw [wrap_succ (show n < 4611686018427387904 by omega), wrap_succ (show c < 4611686018427387904 by omega), List.range'_succ]
      by_cases h : rdI a (n : Int) = rdI b (n : Int)
      · rw [ine_f h, br_f, ih (n + 1) k c (by omega) (by omega) (by omega), List.filter_cons_of_neg (by simp [h])]
      · rw [ine_t h, br_t, ih (n + 1) k (c + 1) (by omega) (by omega) (by omega), List.filter_cons_of_pos (by simp [h]), List.length_cons]
        congr 4
        omega
  have := go a.length 0 N 0 (by omega) (by omega) (Nat.zero_le _)
  rw [List.length_map]
  simp only [Nat.zero_add] at this
  exact this
theorem l6Space_eq {N m : Nat} {xs : List (List Int)} (hl : ∀ x ∈ xs, x.length = m) (hm : m ≤ 1048576) (hx : xs.length < 1024) (hN : 1048577 ≤ N) : Zq82 N xs = some (((xs, stepsL isCh xs), ()), ()) := by
  unfold Zq82
  have hrd : ∀ j : Nat, j < xs.length → (rdL xs (j : Int)).length = m := fun j hj => by rw [rdL_n hj]; exact hl _ (List.getElem_mem hj)
  have inner : ∀ (d i j K : Nat) (o : List (Int × Int)) (k0 : List (List Int) → Int → List (List Int) → List (Int × Int) → Option (((List (List Int) × List (Int × Int)) × Unit) × Unit)), i < xs.length → j + d = xs.length → d < K → o.length + d ≤ 1099511627776 →
      Zq82_l0_0 N k0 K xs (i : Int) (j : Int) xs o = k0 xs (i : Int) xs (o ++ ((List.range' j d).filter fun j : Nat => isCh (rdL xs (i : Int)) (rdL xs (j : Int))).map fun j : Nat => ((i : Int), (j : Int))) := by
    intro d
    induction d with
    | zero =>
      intro i j K o k0 hi hj hK ho
      obtain ⟨k, rfl⟩ := succ_of hK
      simp only [Zq82_l0_0, ilt_lenf (show ¬ j < xs.length by omega), br_f]
      simp
    | succ d ih =>
      intro i j K o k0 hi hj hK ho
      obtain ⟨k, rfl⟩ := succ_of hK
      have hj' : j < xs.length := by omega
      have e1 := hrd i hi
      have e2 := hrd j hj'
      simp only [Zq82_l0_0, ilt_len hj', br_t, inb_n hi, inb_n hj', chk_t]
      rw [l6Apart_ap (by omega) (by omega) hN, bind_some', room_ok (by simp; omega), chk_t, wrap_succ (by omega), tApp_d, List.range'_succ]
      simp only []
      by_cases h : (apartL (rdL xs (i : Int)) (rdL xs (j : Int))).length = 1
      · have hb : isCh (rdL xs (i : Int)) (rdL xs (j : Int)) = true := decide_eq_true h
        rw [ieq_t (by omega), br_t, ih i (j + 1) k _ k0 hi (by omega) (by omega) (by simp; omega), List.filter_cons_of_pos (by exact hb), List.append_assoc]
        rfl
      · have hb : isCh (rdL xs (i : Int)) (rdL xs (j : Int)) = false := decide_eq_false h
        rw [ieq_f (by omega), br_f, ih i (j + 1) k _ k0 hi (by omega) (by omega) (by omega), List.filter_cons_of_neg (by rw [hb]; simp)]
  have go : ∀ (d i K : Nat) (o : List (Int × Int)), i + d = xs.length → d < K → o.length ≤ i * xs.length →
      Zq82_l0 N (fun o o1 => some (((o, o1), ()), ())) K xs (i : Int) xs o = some (((xs, o ++ (List.range' i d).flatMap (rowSteps isCh xs)), ()), ()) := by
    intro d
    induction d with
    | zero =>
      intro i K o hd hK ho
      obtain ⟨k, rfl⟩ := succ_of hK
      simp only [Zq82_l0, ilt_lenf (show ¬ i < xs.length by omega), br_f]
      simp
    | succ d ih =>
      intro i K o hd hK ho
      obtain ⟨k, rfl⟩ := succ_of hK
      have hi : i < xs.length := by omega
      have hmul : i * xs.length ≤ 1024 * 1024 := Nat.mul_le_mul (by omega) (by omega)
      simp only [Zq82_l0, ilt_len hi, br_t]
      rw [wrap_succ (by omega)]
      have h1 := inner (xs.length - (i + 1)) i (i + 1) N o (fun states2 i1 o2 o3 => Zq82_l0 N (fun o o1 => some (((o, o1), ()), ())) k states2 (IntKind.i64.wrap (i1 + 1)) o2 o3) hi (by omega) (by omega) (by omega)
      rw [h1, wrap_succ (by omega)]
      have h2 := rowSteps_len isCh xs i
      have h3 := ih (i + 1) k (o ++ rowSteps isCh xs i) (by omega) (by omega) (by rw [List.length_append, Nat.add_mul, Nat.one_mul]; omega)
      rw [List.append_assoc] at h3
      rw [List.range'_succ, List.flatMap_cons]
      exact h3
  have := go xs.length 0 N [] (by omega) (by omega) (Nat.zero_le _)
  exact this
def okSp (x : List (List Int) × List (Int × Int)) : Prop := x.1.length ≤ 1048576 ∧ (∀ r ∈ x.1, r.length ≤ 1048576) ∧ x.2.length ≤ 1048576 ∧ x.1.length ≤ 1024
theorem spaceOf_g {N : Nat} {xs0 xs : List (List Int)} {is : List Int → List Int → Option Bool} {p : List Int → List Int → Bool} (hsort : Zq46 N xs0 () = some ((), (xs, ()))) (hs : lexSorted xs) (hx : xs.length < 1024) (hp : ∀ a ∈ xs, ∀ b ∈ xs, a ≠ b → is a b = some (p a b)) (hN : 1048577 ≤ N) :
    Zq29 N xs0 is = some (((xs, stepsL p xs), ()), ()) := by
  unfold Zq29
  rw [hsort, bind_some']
  simp only []
  rw [tLen_n]
  have hrd : ∀ j : Nat, j < xs.length → rdL xs (j : Int) ∈ xs := fun j hj => by rw [rdL_n hj]; exact List.getElem_mem hj
  have hne : ∀ i j : Nat, i < j → j < xs.length → rdL xs (i : Int) ≠ rdL xs (j : Int) := fun i j hij hj e => by
    have := List.pairwise_iff_getElem.1 hs i j (by omega) hj hij
    rw [rdL_n (show i < xs.length by omega), rdL_n hj] at e
    rw [e, lexC_self] at this
    omega
  have inner : ∀ (d i j K : Nat) (o : List (Int × Int)) (k0 : (List Int → List Int → Option Bool) → Int → Int → List (List Int) → List (Int × Int) → Option (((List (List Int) × List (Int × Int)) × Unit) × Unit)), i < xs.length → j + d = xs.length - (i + 1) → d < K → o.length + d ≤ 1099511627776 →
      Zq29_l0_0 N k0 K is (i : Int) (i : Int) (xs.length : Int) (i : Int) ((i + 1 : Nat) : Int) (xs.length : Int) ((xs.length - (i + 1) : Nat) : Int) (j : Int) xs o = k0 is (xs.length : Int) (i : Int) xs (o ++ ((List.range' (i + 1 + j) d).filter fun j : Nat => p (rdL xs (i : Int)) (rdL xs (j : Int))).map fun j : Nat => ((i : Int), (j : Int))) := by
    intro d
    induction d with
    | zero =>
      intro i j K o k0 hi hj hK ho
      obtain ⟨k, rfl⟩ := succ_of hK
      simp only [Zq29_l0_0, ilt_nf (show ¬ j < xs.length - (i + 1) by omega), br_f]
      simp
    | succ d ih =>
      intro i j K o k0 hi hj hK ho
      obtain ⟨k, rfl⟩ := succ_of hK
      have hj' : i + 1 + j < xs.length := by omega
      simp only [Zq29_l0_0, ilt_n (show j < xs.length - (i + 1) by omega), br_t]
      rw [ile_t (by omega), ilt_t (show (j : Int) < (xs.length : Int) - ((i + 1 : Nat) : Int) by omega)]
      simp only [Bool.and_self, chk_t]
      rw [show ((i + 1 : Nat) : Int) + (j : Int) = ((i + 1 + j : Nat) : Int) by omega, hp _ (hrd i hi) _ (hrd _ hj') (hne i _ (by omega) hj'), bind_some', wrap_succ (show i < 4611686018427387904 by omega), show ((i + 1 : Nat) : Int) + (j : Int) = ((i + 1 + j : Nat) : Int) by omega, wrap_ok (n := ((i + 1 + j : Nat) : Int)) (by omega) (by omega), room_ok (by simp; omega), chk_t, wrap_succ (by omega), tApp_d, List.range'_succ]
      cases hb : p (rdL xs (i : Int)) (rdL xs ((i + 1 + j : Nat) : Int)) with
      | true =>
        rw [br_t, ih i (j + 1) k _ k0 hi (by omega) (by omega) (by simp; omega), List.filter_cons_of_pos (by exact hb), List.append_assoc]
        rfl
      | false =>
        rw [br_f, ih i (j + 1) k _ k0 hi (by omega) (by omega) (by omega), List.filter_cons_of_neg (by rw [hb]; simp)]
        rfl
  have go : ∀ (d i K : Nat) (o : List (Int × Int)), i + d = xs.length → d < K → o.length ≤ i * xs.length →
      Zq29_l0 N (fun o o1 => some (((o, o1), ()), ())) K is (xs.length : Int) (i : Int) xs o = some (((xs, o ++ (List.range' i d).flatMap (rowSteps p xs)), ()), ()) := by
    intro d
    induction d with
    | zero =>
      intro i K o hd hK ho
      obtain ⟨k, rfl⟩ := succ_of hK
      simp only [Zq29_l0, ilt_nf (show ¬ i < xs.length by omega), br_f]
      simp
    | succ d ih =>
      intro i K o hd hK ho
      obtain ⟨k, rfl⟩ := succ_of hK
      have hi : i < xs.length := by omega
      have hmul : i * xs.length ≤ 1024 * 1024 := Nat.mul_le_mul (by omega) (by omega)
      simp only [Zq29_l0, ilt_n hi, br_t, inb_n hi, chk_t]
      rw [wrap_succ (by omega), tLen_n, ile_t (by omega), ile_t (by omega), ile_t (Int.le_refl _)]
      simp only [Bool.and_self, chk_t]
      rw [show (xs.length : Int) - ((i + 1 : Nat) : Int) = ((xs.length - (i + 1) : Nat) : Int) by omega]
      have h1 := inner (xs.length - (i + 1)) i 0 N o (fun isStep2 x2 x3 o2 o3 => Zq29_l0 N (fun o o1 => some (((o, o1), ()), ())) k isStep2 x2 (IntKind.i64.wrap (x3 + 1)) o2 o3) hi (by omega) (by omega) (by omega)
      simp only [Int.natCast_zero] at h1
      rw [h1, Nat.add_zero, wrap_succ (by omega)]
      have h2 := rowSteps_len p xs i
      have h3 := ih (i + 1) k (o ++ rowSteps p xs i) (by omega) (by omega) (by rw [List.length_append, Nat.add_mul, Nat.one_mul]; omega)
      rw [List.append_assoc] at h3
      rw [List.range'_succ, List.flatMap_cons]
      exact h3
  have := go xs.length 0 N [] (by omega) (by omega) (Nat.zero_le _)
  exact this
theorem spaceOf_ne {N : Nat} {xs : List (List Int)} {is : List Int → List Int → Option Bool} {p : List Int → List Int → Bool} (hs : lexSorted xs) (hl : ∀ x ∈ xs, x.length ≤ 1048576) (hx : xs.length < 1024) (hp : ∀ a ∈ xs, ∀ b ∈ xs, a ≠ b → is a b = some (p a b)) (hN : 1048577 ≤ N) :
    Zq29 N xs is = some (((xs, stepsL p xs), ()), ()) :=
  spaceOf_g (SortFunc_rows (by omega) hl (lex_nodup hs) hs (fun _ => Iff.rfl) hN) hs hx hp hN
theorem spaceOf_eq {N : Nat} {xs : List (List Int)} {is : List Int → List Int → Option Bool} {p : List Int → List Int → Bool} (hs : lexSorted xs) (hl : ∀ x ∈ xs, x.length ≤ 1048576) (hx : xs.length < 1024) (hp : ∀ a ∈ xs, ∀ b ∈ xs, is a b = some (p a b)) (hN : 1048577 ≤ N) :
    Zq29 N xs is = some (((xs, stepsL p xs), ()), ()) := spaceOf_ne hs hl hx (fun a ha b hb _ => hp a ha b hb) hN
def pairB : List (List Int) → Bool
  | [] => true
  | x :: xs => xs.all (fun y => decide (lexC x y < 0)) && pairB xs
theorem pairB_sorted : ∀ {xs : List (List Int)}, pairB xs = true → lexSorted xs := by
  intro xs
  induction xs with
  | nil => intro _; exact List.Pairwise.nil
  | cons x xs ih =>
    intro h
    unfold pairB at h
    rw [Bool.and_eq_true] at h
    exact List.pairwise_cons.2 ⟨fun y hy => of_decide_eq_true (List.all_eq_true.1 h.1 y hy), ih h.2⟩
theorem allBTab : ((List.range 7).all fun m => pairB (allB m)) = true := by kernel_rfl
end Go.Proofs.YtfilchmabmfmaaaGreat
