/- Statements on data alone. -/
import Derived.Test.YtkffaahlpdlkoaaGreatPvPure
import Derived.Test.YtkffaahlpdlkoaaGreatRecolouringGe
set_option linter.all false
set_option linter.all false
namespace Go.Proofs.YtkffaahlpdlkoaaGreat
open Go Go.PV Classical
theorem dense_loop {R : Type} {N m : Nat} (hm : m ≤ 8) (hN : 1048577 ≤ N) {k0 : List Int × (Int × Int) → Int → Int → List (Int × Int) → Option R} {c : List Int × (Int × Int)} {o1 : Int} :
    ∀ (d x K : Nat) (o : List (Int × Int)), x + d = max m x → 1 ≤ x → x ≤ 100 → d < K → pairsUp o → o.length + d ≤ 1048576 → ∃ o', Zq84_l0 N k0 K (x : Int) c o1 (m : Int) o = k0 c o1 (m : Int) o' ∧ o'.length ≤ o.length + d := by
  intro d
  induction d with
  | zero =>
    intro x K o hd h1 h100 hK ho hl
    obtain ⟨K, rfl⟩ := succ_of hK
    refine ⟨o, ?_, by omega⟩
    simp only [Zq84_l0, ilt_nf (show ¬ x < m by omega), br_f]
  | succ d ih =>
    intro x K o hd h1 h100 hK ho hl
    obtain ⟨K, rfl⟩ := succ_of hK
    simp only [Zq84_l0, ilt_n (show x < m by omega), br_t]
    rw [l2Neighbors_eq hm (by omega) hN, bind_some']
    simp only []
    rw [wrap_succ (by omega)]
    by_cases h2 : tLen (nbr m o (x : Int)) < 2
    · rw [ilt_t h2, br_t]
      obtain ⟨o1', p1, p2, p3, p4⟩ := putPair_eq (N := N) (e := (IntKind.i64.wrap ((x : Int) - 1), (x : Int))) ho (by omega) hN
      rw [p1, bind_some']
      simp only []
      obtain ⟨o', q1, q2⟩ := ih (x + 1) K o1' (by omega) (by omega) (by omega) (by omega) p2 (by omega)
      exact ⟨o', q1, by omega⟩
    · rw [ilt_f h2, br_f]
      obtain ⟨o', q1, q2⟩ := ih (x + 1) K o (by omega) (by omega) (by omega) (by omega) ho (by omega)
      exact ⟨o', q1, by omega⟩
theorem dense5_ok {N : Nat} {code : List Int} {k : Nat} {c : List Int × (Int × Int)} (hco : codeOk code) (hN : 1048577 ≤ N) (h : CurOk code k c) (hk : k ≤ 90000) : ∃ g c', Zq84 N c = some ((g, ()), (c', ())) ∧ CurOk code (k + 210) c' ∧ g.2.length ≤ 110 := by
  unfold Zq84
  obtain ⟨g, c1, e1, e2, e3⟩ := graph_ok (N := N) hco hN h hk
  rw [e1, bind_some']
  simp only [show ((g.1, g.2) : Int × List (Int × Int)) = g from rfl]
  rw [l2Good_eq (by omega) hN, bind_some']
  by_cases hg : goodG g
  · rw [decide_eq_true hg]
    simp only [Bool.not_true, br_f]
    obtain ⟨b, c2, f1, f2⟩ := one_ok (N := N) hco e2 (by omega) 4
    rw [f1, bind_some']
    cases b with
    | true =>
      simp only [br_t]
      exact ⟨g, c2, rfl, cur_mono f2 (by omega), by omega⟩
    | false =>
      simp only [br_f]
      have hg1 := hg.1
      obtain ⟨m, hm⟩ : ∃ m : Nat, g.1 = (m : Int) := ⟨g.1.toNat, by omega⟩
      rw [hm]
      obtain ⟨o', q1, q2⟩ := dense_loop (N := N) (m := m) (by omega) hN (k0 := fun o o1 o2 o3 => some (((o2, o3), ()), (o, ()))) (c := c2) (o1 := 0) (max m 1 - 1) 1 N g.2 (by omega) (by omega) (by omega) (by omega) (good_up hg) (by omega)
      exact ⟨((m : Int), o'), c2, q1, cur_mono f2 (by omega), by simp only []; omega⟩
  · rw [decide_eq_false hg]
    exact ⟨g, c1, rfl, cur_mono e2 (by omega), by omega⟩
theorem many5_ok {N : Nat} {code : List Int} {k : Nat} {c : List Int × (Int × Int)} (hco : codeOk code) (h : CurOk code k c) (hk : k ≤ 900000) : ∃ x c', Zq86 N c = some ((x, ()), (c', ())) ∧ CurOk code (k + 4) c' ∧ -1 ≤ x ∧ x ≤ 6 := by
  unfold Zq86
  obtain ⟨x, c1, e1, e2, e3, _, e5⟩ := pick_ok (N := N) hco h (by omega) 24
  have e5 := e5 (by omega)
  rw [e1, bind_some']
  simp only []
  obtain ⟨n, rfl⟩ := Int.eq_ofNat_of_zero_le e3
  have hd : ((n : Int)).tdiv 8 = ((n / 8 : Nat) : Int) := rfl
  have hn : n / 8 ≤ 2 := by omega
  rw [hd, wrap_ok (n := ((n / 8 : Nat) : Int)) (by omega) (by omega), wrap_ok (by omega) (by omega), show (7 : Int) + ((n / 8 : Nat) : Int) = ((7 + n / 8 : Nat) : Int) by omega]
  have hl : tLen [3, 3, 2, 4, 3, 1, 5, 0, 6, (-1 : Int)] = 10 := rfl
  rw [hl, ile_t (Int.le_refl 0), ile_t (by omega), ile_t (by omega)]
  simp only [Bool.and_self, chk_t]
  obtain ⟨y, c2, f1, f2, f3⟩ := among_ok (N := N) hco e2 (by omega) (l := tCut [3, 3, 2, 4, 3, 1, 5, 0, 6, (-1 : Int)] 0 ((7 + n / 8 : Nat) : Int)) (by
    intro h
    have := congrArg List.length h
    simp [tCut] at this
    omega)
  rw [f1, bind_some']
  refine ⟨y, c2, rfl, cur_mono f2 (by omega), ?_⟩
  have : y ∈ [3, 3, 2, 4, 3, 1, 5, 0, 6, (-1 : Int)] := by
    unfold tCut at f3
    exact List.mem_of_mem_take (List.mem_of_mem_drop f3)
  simp at this
  omega
noncomputable def colTail (N : Nat) (o4 : List Int × (Int × Int)) (o5 : List Int) : Option ((List Int × Unit) × ((List Int × (Int × Int)) × Unit)) :=
  ((Zq88 N o4 8).bind fun r7 =>
    (br r7.1.1
      (((Zq82 N r7.2.1 [(-1), 0, 9]).bind fun r8 =>
        (chk (room o5 [r8.1.1])
          (some (((tApp o5 [r8.1.1]), ()), (r8.2.1, ()))))))
      (some ((o5, ()), (r7.2.1, ())))))
theorem col_loop {N : Nat} {code : List Int} (hco : codeOk code) {o1 : Int} {o2 : List (Int × Int)} : ∀ (d x K k : Nat) (c : List Int × (Int × Int)) (o : List Int), x + d = 9 → d < K → CurOk code k c → k + 2 * d + 20 ≤ 900000 → o.length ≤ x →
    ∃ a c', Zq83_l0 N (fun o4 o5 => colTail N o4 o5) K (x : Int) c o1 o2 o = some ((a, ()), (c', ())) ∧ CurOk code (k + 2 * d + 4) c' ∧ a.length ≤ 10 := by
  intro d
  have fin : ∀ (k : Nat) (c : List Int × (Int × Int)) (o : List Int), CurOk code k c → k ≤ 900000 → o.length ≤ 9 → ∃ a c', colTail N c o = some ((a, ()), (c', ())) ∧ CurOk code (k + 4) c' ∧ a.length ≤ 10 := by
    intro k c o hc hk ho
    unfold colTail
    obtain ⟨b, c2, f1, f2⟩ := one_ok (N := N) hco hc (by omega) 8
    rw [f1, bind_some']
    cases b with
    | true =>
      simp only [br_t]
      obtain ⟨y, c3, g1, g2, _⟩ := among_ok (N := N) hco f2 (by omega) (l := [(-1), 0, 9]) (by simp)
      rw [g1, bind_some']
      simp only []
      rw [room_ok (by simp; omega), chk_t]
      exact ⟨_, _, rfl, g2, by simp [tApp]; omega⟩
    | false =>
      simp only [br_f]
      exact ⟨_, _, rfl, cur_mono f2 (by omega), by omega⟩
  induction d with
  | zero =>
    intro x K k c o hd hK hc hk ho
    obtain ⟨K, rfl⟩ := succ_of hK
    have e : x = 9 := by omega
    subst e
    simp only [Zq83_l0]
    rw [ilt_f (show ¬ ((9 : Nat) : Int) < 9 by omega), br_f]
    obtain ⟨a, c', f1, f2, f3⟩ := fin k c o hc (by omega) ho
    rw [f1]
    refine ⟨a, c', ?_, cur_mono f2 (by omega), f3⟩
    cases ilt ((9 : Nat) : Int) o1 <;> rfl
  | succ d ih =>
    intro x K k c o hd hK hc hk ho
    obtain ⟨K, rfl⟩ := succ_of hK
    simp only [Zq83_l0]
    by_cases h1 : (x : Int) < o1
    · rw [ilt_t h1, br_t, ilt_t (show (x : Int) < 9 by omega), br_t]
      obtain ⟨y, c2, f1, f2, _⟩ := pick_ok (N := N) hco hc (by omega) 4
      rw [f1, bind_some']
      simp only []
      rw [room_ok (by simp; omega), chk_t, wrap_succ (by omega)]
      obtain ⟨a, c', g1, g2, g3⟩ := ih (x + 1) K (k + 2) c2 (tApp o [y]) (by omega) (by omega) f2 (by omega) (by simp [tApp]; omega)
      exact ⟨a, c', g1, cur_mono g2 (by omega), g3⟩
    · rw [ilt_f h1, br_f]
      obtain ⟨a, c', f1, f2, f3⟩ := fin k c o hc (by omega) (by omega)
      exact ⟨a, c', f1, cur_mono f2 (by omega), f3⟩
theorem colours5_ok {N : Nat} {code : List Int} {k : Nat} {c : List Int × (Int × Int)} {g : Int × List (Int × Int)} {q : Int} (hco : codeOk code) (hN : 1048577 ≤ N) (h : CurOk code k c) (hk : k ≤ 800000) (hg : g.2.length ≤ 1048576) :
    ∃ a c', Zq83 N c g q = some ((a, ()), (c', ())) ∧ CurOk code (k + 30) c' ∧ a.length ≤ 10 := by
  unfold Zq83
  simp only [show ((g.1, g.2) : Int × List (Int × Int)) = g from rfl]
  rw [l5All_eq hg hN, bind_some']
  simp only []
  obtain ⟨r1, r2⟩ := colsR_ok g q
  have other : ∀ (kk : Nat) (c : List Int × (Int × Int)), CurOk code kk c → kk ≤ k + 2 → ∃ a c', Zq83_l0 N (fun o4 o5 => colTail N o4 o5) N 0 c g.1 g.2 [] = some ((a, ()), (c', ())) ∧ CurOk code (k + 30) c' ∧ a.length ≤ 10 := by
    intro kk c hc hkk
    obtain ⟨a, c', g1, g2, g3⟩ := col_loop (N := N) hco (o1 := g.1) (o2 := g.2) 9 0 N kk c [] (by omega) (by omega) hc (by omega) (by simp)
    exact ⟨a, c', g1, cur_mono g2 (by omega), g3⟩
  cases (colsR g q).2 with
  | false =>
    rw [br_f]
    exact other k c h (by omega)
  | true =>
    rw [br_t, tLen_n]
    by_cases h0 : 0 < (colsR g q).1.length
    · rw [ilt_t (by omega), br_t]
      obtain ⟨b, c2, f1, f2⟩ := one_ok (N := N) hco h (by omega) 10
      rw [f1, bind_some']
      simp only []
      cases b with
      | true =>
        simp only [Bool.not_true, br_f]
        exact other _ c2 f2 (by omega)
      | false =>
        simp only [Bool.not_false, br_t]
        obtain ⟨y, c3, g1, g2, g3, _, g5⟩ := pick_ok (N := N) hco f2 (by omega) ((colsR g q).1.length : Int)
        rw [g1, bind_some']
        simp only []
        obtain ⟨n, rfl⟩ := Int.eq_ofNat_of_zero_le g3
        have hn : n < (colsR g q).1.length := by have := g5 (by omega); omega
        rw [inb_n hn, chk_t, rdL_n hn]
        have := r2 _ (List.getElem_mem hn)
        exact ⟨_, _, rfl, cur_mono g2 (by omega), by omega⟩
    · rw [ilt_f (by omega), br_f]
      exact other k c h (by omega)
theorem cur0 {code : List Int} : CurOk code 0 (code, (0, 0)) := ⟨rfl, Int.le_refl _, by simp⟩
theorem vCut_ok {N : Nat} {code : List Int} {n : Int} (hco : codeOk code) (hl : code.length ≤ 65536) (hn : 0 ≤ n) : ∃ code', Zq48 N code n = some ((code', ()), ()) ∧ codeOk code' := by
  unfold Zq48
  have fin : ∀ l : Nat, l ≤ code.length → ∀ v : Int, 0 ≤ v → codeOk (tApp (tApp [] (tCut code (l : Int) (tLen code))) [IntKind.u8.wrap v]) ∧ room (α := Int) (β := Int) [] (tCut code (l : Int) (tLen code)) = true ∧ room (tApp [] (tCut code (l : Int) (tLen code))) [IntKind.u8.wrap v] = true := by
    intro l hll v hv
    have hlen : (tCut code (l : Int) (tLen code)).length ≤ code.length := by simp [tCut, tLen]
    have hw : 0 ≤ IntKind.u8.wrap v ∧ IntKind.u8.wrap v ≤ 255 := by
      unfold IntKind.wrap
      simp only [IntKind.signed, IntKind.bits]
      have h1 := Int.emod_nonneg v (b := 2 ^ 8) (by decide)
      have h2 := Int.emod_lt_of_pos v (b := 2 ^ 8) (by decide)
      simp at h1 h2 ⊢
      omega
    refine ⟨⟨by simp [tApp]; omega, fun x hx => ?_⟩, room_ok (by simp; omega), room_ok (by simp [tApp]; omega)⟩
    simp only [tApp, List.nil_append, List.mem_append, List.mem_singleton] at hx
    rcases hx with hx | rfl
    · unfold tCut at hx
      exact hco.2 x (List.mem_of_mem_take (List.mem_of_mem_drop hx))
    · exact hw
  by_cases h : tLen code < n
  · rw [ilt_t h, br_t]
    obtain ⟨f1, f2, f3⟩ := fin code.length (Nat.le_refl _) (code.length : Int) (by omega)
    simp only [tLen_n] at f1 f2 f3 ⊢
    rw [ile_t (by omega), ile_t (Int.le_refl _)]
    simp only [Bool.and_self, chk_t]
    rw [f2, chk_t, f3, chk_t]
    exact ⟨_, rfl, f1⟩
  · rw [ilt_f h, br_f]
    obtain ⟨l, rfl⟩ := Int.eq_ofNat_of_zero_le hn
    have hll : l ≤ code.length := by rw [tLen_n] at h; omega
    obtain ⟨f1, f2, f3⟩ := fin l hll (l : Int) (by omega)
    rw [tLen_n] at f1 f2 f3 ⊢
    rw [ile_t (by omega), ile_t (show (l : Int) ≤ (code.length : Int) by omega), ile_t (Int.le_refl _)]
    simp only [Bool.and_self, chk_t]
    rw [f2, chk_t, f3, chk_t]
    exact ⟨_, rfl, f1⟩
theorem vInts_l0_eq {R : Type} (N : Nat) (k0 : Bool → Option R) (k1 : Unit → Option R) (a b : List Int) (hx : a.length ≤ 1099511627776) (hl : a.length = b.length) : ∀ (d n : Nat) (K : Nat), n + d = a.length → d < K →
    Zq50_l0 N k0 k1 K a b n = if a.drop n = b.drop n then k1 () else k0 false := by
  intro d
  induction d with
  | zero =>
    intro n K hd hK
    obtain ⟨k, rfl⟩ := succ_of hK
    have hn : ¬ n < a.length := by omega
    simp only [Zq50_l0, ilt_lenf hn, br_f]
    rw [if_pos]
    rw [List.drop_of_length_le (by omega), List.drop_of_length_le (by omega)]
  | succ d ih =>
    intro n K hd hK
    obtain ⟨k, rfl⟩ := succ_of hK
    have hn : n < a.length := by omega
    have hnb : n < b.length := by omega
    simp only [Zq50_l0, ilt_len hn, inb_n hn, inb_n hnb, br_t, chk_t]
    rw [wrap_succ (by omega), rdI_n hn, rdI_n hnb, ih (n + 1) k (by omega) (by omega), drop_cons hn, drop_cons hnb]
    by_cases he : a[n] = b[n]
    · rw [ine_f he, br_f, he]
      simp only [List.cons.injEq, true_and]
    · rw [ine_t he, br_t, if_neg]
      intro h
      injection h with h _
      exact he h
theorem vInts_eq {N : Nat} {a b : List Int} (hx : a.length ≤ 1099511627776) (hN : a.length < N) : Zq50 N a b = some ((decide (a = b), ()), ()) := by
  unfold Zq50
  simp only [tLen_n]
  by_cases hl : a.length = b.length
  · rw [ine_f (by omega), br_f]
    have := vInts_l0_eq N (fun x => some ((x, ()), ())) (fun _ => some ((true, ()), ())) a b hx hl a.length 0 N (by omega) (by omega)
    simp only [Int.natCast_zero, List.drop_zero] at this
    rw [this]
    by_cases h : a = b <;> simp [h]
  · rw [ine_t (by omega), br_t]
    have : a ≠ b := fun h => hl (by rw [h])
    simp [this]
theorem vHas_eq {N : Nat} {xs : List Int} {v : Int} (hx : xs.length ≤ 1048576) (hN : 1048577 ≤ N) : Zq49 N xs v = some ((decide (v ∈ xs), ()), ()) := by
  unfold Zq49
  have := loop_all_if (P := ∀ x ∈ xs, x ≠ v) (L := fun K i => Zq49_l0 N (fun x => some ((x, ()), ())) (fun (_ : Unit) => some ((false, ()), ())) K xs v i) (fun i => rdI xs i ≠ v) all_rdI (kt := some ((false, ()), ())) (kf := some ((true, ()), ())) (fun K n hn => ?_) (fun K n hn hp => ?_) (fun K n hn hp => ?_) (show xs.length < N by omega)
  · rw [show ((0 : Nat) : Int) = 0 from rfl] at this
    rw [this]
    by_cases h : v ∈ xs
    · rw [if_neg (fun h' => h' v h rfl), decide_eq_true h]
    · rw [if_pos (fun x hx (h' : x = v) => h (h' ▸ hx)), decide_eq_false h]
  · simp only [Zq49_l0, ilt_lenf hn, br_f]
  · simp only [Zq49_l0, ilt_len hn, br_t, inb_n hn, chk_t]
    rw [ieq_f hp, br_f, wrap_succ (by omega)]
  · simp only [Zq49_l0, ilt_len hn, br_t, inb_n hn, chk_t]
    rw [ieq_t (Decidable.not_not.1 hp), br_t]
theorem code_ok {x : List Int} (h : ∀ y ∈ x, (Lit.int .u8 y).wf = true) (hl : x.length ≤ 65536) : codeOk x := by
  refine ⟨by omega, fun y hy => ?_⟩
  have := h y hy
  simp [Lit.wf, IntKind.min, IntKind.max, IntKind.signed, IntKind.bits] at this
  omega
noncomputable def isColV (g : Int × List (Int × Int)) (k : Int) (cs : List Int) : Bool × Bool := if colCase g k then (decide (proper g k cs), true) else (false, false)
theorem way_least {xs : List (List Int)} {st : List (Int × Int)} {a b : List Int} (hn : xs.length ≤ 1048576) (h : okSt xs.length st) (ha : a ∈ xs) (hb : b ∈ xs) {k : Nat} (hw : Wl (nbL xs.length st) ((xs.idxOf b : Nat) : Int) k ((xs.idxOf a : Nat) : Int)) : (wayS xs st a b).length ≤ k + 1 := by
  obtain ⟨s1, s2, s3, s4, s5, s6⟩ := bfsD_spec (nbL_ok hn h) (in_nat (idx_lt hb))
  have := s6 _ _ hw
  unfold wayS wayI
  rw [if_neg (by omega), List.length_map, List.length_cons, fwdL_len]
  omega
theorem apart_symm {a b : List Int} (h : a.length = b.length) : apartL a b = apartL b a := by
  unfold apartL
  rw [h]
  congr 1
  refine List.filter_congr fun i _ => decide_eq_decide.2 ⟨Ne.symm, Ne.symm⟩
theorem mem_apart {a b : List Int} {x : Int} : x ∈ apartL a b ↔ ∃ i : Nat, i < a.length ∧ rdI a (i : Int) ≠ rdI b (i : Int) ∧ x = (i : Int) := by
  unfold apartL
  rw [List.mem_map]
  constructor
  · rintro ⟨i, hi, rfl⟩
    obtain ⟨h1, h2⟩ := List.mem_filter.1 hi
    have := List.mem_range'_1.1 h1
    exact ⟨i, by omega, of_decide_eq_true h2, rfl⟩
  · rintro ⟨i, h1, h2, rfl⟩
    exact ⟨i, List.mem_filter.2 ⟨List.mem_range'_1.2 (by omega), decide_eq_true h2⟩, rfl⟩
theorem apart_nodup (a b : List Int) : (apartL a b).Nodup := by
  unfold apartL
  refine List.Pairwise.map (R := fun (i j : Nat) => i ≠ j) _ (fun i j h e => h (by omega)) ?_
  exact (List.nodup_range' (step := 1)).filter _
theorem apart_tri {a b c : List Int} (hab : a.length = b.length) (h : isCh b c = true) : (apartL a c).length ≤ (apartL a b).length + 1 := by
  obtain ⟨x, hx⟩ := List.length_eq_one_iff.1 (of_decide_eq_true h)
  have := nodup_le (apart_nodup a c) (b := apartL a b ++ [x]) fun z hz => by
    obtain ⟨i, h1, h2, rfl⟩ := mem_apart.1 hz
    by_cases q : rdI a (i : Int) = rdI b (i : Int)
    · have : (i : Int) ∈ apartL b c := mem_apart.2 ⟨i, by omega, by rw [← q]; exact h2, rfl⟩
      rw [hx] at this
      exact List.mem_append_right _ this
    · exact List.mem_append_left _ (mem_apart.2 ⟨i, h1, q, rfl⟩)
  simpa using this
theorem rd_ext {a b : List Int} (h : a.length = b.length) (he : ∀ i : Nat, i < a.length → rdI a (i : Int) = rdI b (i : Int)) : a = b := by
  refine List.ext_getElem h fun i h1 h2 => ?_
  have := he i h1
  rwa [rdI_n h1, rdI_n h2] at this
theorem step_near {xs : List (List Int)} {p : List Int → List Int → Bool} {x y : List Int} (hp : ∀ x ∈ xs, ∀ y ∈ xs, p x y = true → p y x = true) (hx : x ∈ xs) (hy : y ∈ xs) (hne : x ≠ y) (h : p x y = true) : ((xs.idxOf y : Nat) : Int) ∈ rdL (nbL xs.length (stepsL p xs)) ((xs.idxOf x : Nat) : Int) := by
  have i1 := idx_lt hx
  have i2 := idx_lt hy
  have r1 := idx_rd hx
  have r2 := idx_rd hy
  rw [nbL_rd (in_nat i1), mem_nbS stepsL_ok]
  have hni : xs.idxOf x ≠ xs.idxOf y := fun e => hne (by rw [← r1, ← r2, e])
  by_cases hlt : xs.idxOf x < xs.idxOf y
  · exact .inr (mem_stepsL.2 ⟨_, _, rfl, hlt, i2, by rw [r1, r2]; exact h⟩)
  · exact .inl (mem_stepsL.2 ⟨_, _, rfl, by omega, i1, by rw [r1, r2]; exact hp x hx y hy h⟩)
theorem near_step {xs : List (List Int)} {p : List Int → List Int → Bool} {u v : Int} (hp : ∀ x ∈ xs, ∀ y ∈ xs, p x y = true → p y x = true) (hu : InN xs.length u) (hv : v ∈ rdL (nbL xs.length (stepsL p xs)) u) : rdL xs u ∈ xs ∧ rdL xs v ∈ xs ∧ p (rdL xs u) (rdL xs v) = true ∧ InN xs.length v := by
  have hok := stepsL_ok (p := p) (xs := xs)
  rw [nbL_rd hu] at hv
  have hvn := nbS_in hok v hv
  obtain ⟨i, hi, rfl⟩ := nat_of hu
  obtain ⟨j, hj, rfl⟩ := nat_of hvn
  have m1 : rdL xs (i : Int) ∈ xs := by rw [rdL_n hi]; exact List.getElem_mem hi
  have m2 : rdL xs (j : Int) ∈ xs := by rw [rdL_n hj]; exact List.getElem_mem hj
  refine ⟨m1, m2, ?_, hvn⟩
  rcases (mem_nbS hok).1 hv with h | h
  · obtain ⟨i', j', e, _, _, hq⟩ := mem_stepsL.1 h
    have q1 : (j : Int) = (i' : Int) := congrArg Prod.fst e
    have q2 : (i : Int) = (j' : Int) := congrArg Prod.snd e
    rw [← q1, ← q2] at hq
    exact hp _ m2 _ m1 hq
  · obtain ⟨i', j', e, _, _, hq⟩ := mem_stepsL.1 h
    have q1 : (i : Int) = (i' : Int) := congrArg Prod.fst e
    have q2 : (j : Int) = (j' : Int) := congrArg Prod.snd e
    rw [← q1, ← q2] at hq
    exact hq
theorem isCh_symm {a b : List Int} (h : a.length = b.length) (hc : isCh a b = true) : isCh b a = true := by
  unfold isCh at *
  rw [apart_symm h.symm]
  exact hc
theorem wk_of_wl {L : List (List Int)} {x y : Int} {k : Nat} (h : Wl L x k y) : Wk L x y := by
  induction h with
  | base => exact .base
  | step _ hz ih => exact .step ih hz
def upd (f : Nat → Int) (v : Nat) (c : Int) : Nat → Int := fun u => if u = v then c else f u
def prS (es : List (Int × Int)) (k : Int) (S : List Nat) (f : Nat → Int) : Prop := ∀ v ∈ S, (0 ≤ f v ∧ f v < k) ∧ ∀ u ∈ S, nearG es (u : Int) (v : Int) → f u ≠ f v
theorem upd_same (f : Nat → Int) (v : Nat) (c : Int) : upd f v c v = c := by unfold upd; rw [if_pos rfl]
theorem upd_other {f : Nat → Int} {u v : Nat} {c : Int} (h : u ≠ v) : upd f v c u = f u := by unfold upd; rw [if_neg h]
def inS (S : List Nat) (g : Nat → Int) (a c : Int) (z : Int) : Prop := ∃ u : Nat, u ∈ S ∧ z = (u : Int) ∧ (g u = a ∨ g u = c)
def kset (es : List (Int × Int)) (S : List Nat) (g : Nat → Int) (x : Nat) (c : Int) (u : Nat) : Prop := Rch es (inS S g (g x) c) (x : Int) (u : Int)
noncomputable def swapF (es : List (Int × Int)) (S : List Nat) (g : Nat → Int) (x : Nat) (c : Int) : Nat → Int := fun u => if kset es S g x c u then (if g u = g x then c else g x) else g u
theorem ke_one {es : List (Int × Int)} {k : Int} {S : List Nat} {g : Nat → Int} {v : Nat} {c : Int} (h : prS es k S g) (hv : v ∈ S) (hn : ∀ u ∈ S, nearG es (u : Int) (v : Int) → g u ≠ c) : swapF es S g v c = upd g v c := by
  have only : ∀ u : Nat, kset es S g v c u ↔ u = v := by
    intro u
    constructor
    · intro hk
      have key : ∀ {z : Int}, Rch es (inS S g (g v) c) (v : Int) z → z = (v : Int) := by
        intro z hz
        induction hz with
        | base => rfl
        | step _ hnear ha ih =>
          obtain ⟨w, hw, rfl, hcw⟩ := ha
          rw [ih] at hnear
          have hnear := nearG_symm.1 hnear
          rcases hcw with q | q
          · exact absurd q ((h v hv).2 w hw hnear)
          · exact absurd q (hn w hw hnear)
      have := key hk
      omega
    · rintro rfl
      exact Rch.base
  funext u
  unfold swapF upd
  by_cases e : u = v
  · subst e
    rw [if_pos ((only u).2 rfl), if_pos rfl, if_pos rfl]
  · rw [if_neg (fun q => e ((only u).1 q)), if_neg e]
def preC (es : List (Int × Int)) (b : List Int) : Prop := ∀ i : Nat, i < b.length → freeC es (b.take i) (rdI b (i : Int))
theorem moreC_free {k : Nat} {es : List (Int × Int)} : ∀ (d : Nat) (b : List Int) (l : List (List Int)), preC es b → (∀ x ∈ l, preC es x) → ∀ x ∈ moreC k es d b l, preC es x := by
  intro d
  induction d with
  | zero =>
    intro b l hb h x hx
    simp only [moreC, List.mem_append, List.mem_singleton] at hx
    rcases hx with hx | rfl
    · exact h x hx
    · exact hb
  | succ d ih =>
    intro b l hb h
    unfold moreC
    refine stepsC_inv (p := fun l => ∀ x ∈ l, preC es x) (fun c l h1 h2 => ?_) k 0 l h
    by_cases hf : freeC es b (c : Int)
    · rw [if_pos hf]
      refine ih _ _ (fun i hi => ?_) h2
      by_cases hib : i < b.length
      · rw [List.take_append_of_le_length (by omega), rdI_n hi, List.getElem_append_left hib, ← rdI_n hib]
        exact hb i hib
      · have e : i = b.length := by simp at hi; omega
        subst e
        rw [List.take_left, rdI_n hi, List.getElem_concat_length rfl]
        exact hf
    · rw [if_neg hf]; exact h2
theorem allC_proper {g : Int × List (Int × Int)} {k : Int} {x : List Int} (hk : colCase g k) (hx : x ∈ allC g k) : proper g k x := by
  have hg := hk.1.1
  have hl := allC_rows x hx
  refine ⟨by omega, fun z hz => ?_, fun e he => ?_⟩
  · have := (allC_sorted g k).2 x hx z hz
    have := hk.2
    omega
  · have hp := moreC_free (k := k.toNat) (es := g.2) g.1.toNat [] [] (fun i hi => by cases hi) (by simp) x hx
    have hee := goodG_edges hk.1 e he
    obtain ⟨a, ha⟩ : ∃ a : Nat, e.1 = (a : Int) := ⟨e.1.toNat, by omega⟩
    obtain ⟨b, hb⟩ : ∃ b : Nat, e.2 = (b : Int) := ⟨e.2.toNat, by omega⟩
    have hbl : b < x.length := by omega
    have hlt : (x.take b).length = b := by simp; omega
    have := hp b hbl a (by omega)
    rw [rdI_take (by omega) (by omega), hlt] at this
    rw [ha, hb]
    exact fun q => this ⟨q, .inl (by rw [← ha, ← hb]; exact he)⟩
noncomputable def toL (m : Nat) (f : Nat → Int) : List Int := (List.range m).map f
theorem toL_len (m : Nat) (f : Nat → Int) : (toL m f).length = m := by simp [toL]
theorem toL_rd {m : Nat} {f : Nat → Int} {i : Nat} (hi : i < m) : rdI (toL m f) (i : Int) = f i := by
  rw [rdI_n (by rw [toL_len]; exact hi)]
  simp [toL]
theorem toL_of {m : Nat} {a : List Int} (h : a.length = m) : toL m (fun v : Nat => rdI a (v : Int)) = a := rd_ext (by rw [toL_len, h]) fun i hi => by
  rw [toL_len] at hi
  exact toL_rd hi
theorem proper_prS {g : Int × List (Int × Int)} {k : Int} {S : List Nat} (hg : goodG g) (hS : ∀ v, v ∈ S ↔ v < g.1.toNat) {a : List Int} (h : proper g k a) : prS g.2 k S (fun v : Nat => rdI a (v : Int)) := by
  intro v hv
  have hvm := (hS v).1 hv
  have hl : a.length = g.1.toNat := by have := h.1; omega
  have := h.2.1 _ (List.getElem_mem (show v < a.length by omega))
  rw [← rdI_n (show v < a.length by omega)] at this
  refine ⟨by show 0 ≤ rdI a (v : Int) ∧ rdI a (v : Int) < k; omega, fun u hu hn => ?_⟩
  rcases hn with hn | hn
  · exact h.2.2 _ hn
  · exact fun q => h.2.2 _ hn q.symm
theorem rch_trans {es : List (Int × Int)} {A : Int → Prop} {x y z : Int} (h1 : Rch es A x y) (h2 : Rch es A y z) : Rch es A x z := by
  induction h2 with
  | base => exact h1
  | step _ hn ha ih => exact .step ih hn ha
theorem rch_symm {es : List (Int × Int)} {A : Int → Prop} {x y : Int} (hx : A x) (h : Rch es A x y) : Rch es A y x := by
  have key : A y ∧ Rch es A y x := by
    induction h with
    | base => exact ⟨hx, .base⟩
    | step _ hn ha ih => exact ⟨ha, rch_trans (.step .base (nearG_symm.1 hn) ih.1) ih.2⟩
  exact key.2
theorem chain_mem {m : Nat} {es : List (Int × Int)} {cs : List Int} {x c z : Int} (hx : InN m x) : z ∈ chainR m es cs x c ↔ Rch es (fun y => InN m y ∧ (rdI cs y = rdI cs x ∨ rdI cs y = c)) x z := by
  have hxs : x ∈ someL m cs (rdI cs x) c := mem_someL.2 ⟨hx, .inl rfl⟩
  refine ((reachS_spec (es := es) hxs).2 z).trans ⟨fun h => Rch_congr (fun _ _ _ h => mem_someL.1 h) h, fun h => Rch_congr (fun _ _ _ h => mem_someL.2 h) h⟩
theorem swap_list {m : Nat} {es : List (Int × Int)} {S : List Nat} (hS : ∀ v, v ∈ S ↔ v < m) {g : Nat → Int} {x : Nat} {c : Int} (hx : x ∈ S) : toL m (swapF es S g x c) = kempeR m es (toL m g) (x : Int) c := by
  have hxm := (hS x).1 hx
  refine rd_ext (by rw [toL_len, kempeR_len, toL_len]) fun i hi => ?_
  rw [toL_len] at hi
  rw [toL_rd hi, rd_kempe (toL_len m g) (in_nat hxm) (in_nat hi)]
  have hk : kset es S g x c i ↔ (i : Int) ∈ chainR m es (toL m g) (x : Int) c := by
    rw [chain_mem (in_nat hxm), toL_rd hxm]
    unfold kset
    constructor
    · refine Rch_congr fun y z _ hz => ?_
      obtain ⟨u, hu, rfl, hc⟩ := hz
      have := (hS u).1 hu
      exact ⟨in_nat this, by rw [toL_rd this]; exact hc⟩
    · refine Rch_congr fun y z _ hz => ?_
      obtain ⟨u, hu, rfl⟩ := nat_of hz.1
      exact ⟨u, (hS u).2 hu, rfl, by rw [← toL_rd (f := g) hu]; exact hz.2⟩
  unfold swapF
  by_cases q : kset es S g x c i
  · rw [if_pos q, if_pos (hk.1 q), toL_rd hi, toL_rd hxm]
  · rw [if_neg q, if_neg (fun h => q (hk.2 h)), toL_rd hi]
theorem kemP_of {m : Nat} {es : List (Int × Int)} {a : List Int} {x c : Int} (ha : a.length = m) (hx : InN m x) (hne : rdI a x ≠ c) : kemP m es a (kempeR m es a x c) = true := by
  have hrd := fun (y : Int) (hy : InN m y) => rd_kempe (es := es) (c := c) ha hx hy
  have hkl := kempeR_len m es a x c
  unfold kemP
  cases hl : apartL a (kempeR m es a x c) with
  | nil =>
    have := apart_nil (by omega) hl
    have h2 := hrd x hx
    rw [if_pos (x_in_chain hx), if_pos rfl, ← this] at h2
    exact absurd h2 hne
  | cons x0 l =>
    obtain ⟨h1, h2⟩ := apart_mem (a := a) (b := kempeR m es a x c) (x := x0) (by rw [hl]; exact List.mem_cons_self ..)
    rw [ha] at h1
    simp only []
    have hx0 : x0 ∈ chainR m es a x c := by
      refine Classical.byContradiction fun q => h2 ?_
      rw [hrd x0 h1, if_neg q]
    have hc0 := (chainR_mem hx hx0).2
    have hb0 : rdI (kempeR m es a x c) x0 = if rdI a x0 = rdI a x then c else rdI a x := by rw [hrd x0 h1, if_pos hx0]
    -- the same two colours, the same chain
    have pair : ∀ y : Int, (rdI a y = rdI a x0 ∨ rdI a y = rdI (kempeR m es a x c) x0) ↔ (rdI a y = rdI a x ∨ rdI a y = c) := by
      intro y
      rw [hb0]
      by_cases q : rdI a x0 = rdI a x
      · rw [if_pos q, q]
      · rw [if_neg q, hc0.resolve_left q]
        exact Or.comm
    have same : ∀ z, z ∈ chainR m es a x0 (rdI (kempeR m es a x c) x0) ↔ z ∈ chainR m es a x c := by
      intro z
      rw [chain_mem h1, chain_mem hx]
      have hr : Rch es (fun y => InN m y ∧ (rdI a y = rdI a x ∨ rdI a y = c)) x x0 := (chain_mem hx).1 hx0
      constructor
      · intro h
        exact rch_trans hr (Rch_congr (fun y z _ hz => ⟨hz.1, (pair z).1 hz.2⟩) h)
      · intro h
        refine Rch_congr (fun y z _ hz => ⟨hz.1, (pair z).2 hz.2⟩) (rch_trans (rch_symm ⟨hx, .inl rfl⟩ hr) h)
    refine decide_eq_true (rd_ext (by rw [kempeR_len, hkl]) fun i hi => ?_)
    rw [kempeR_len, ha] at hi
    rw [rd_kempe ha h1 (in_nat hi), hrd _ (in_nat hi)]
    by_cases q : (i : Int) ∈ chainR m es a x c
    · rw [if_pos q, if_pos ((same _).2 q), hb0]
      have hci := (chainR_mem hx q).2
      by_cases e0 : rdI a x0 = rdI a x
      · rw [if_pos e0, e0]
      · rw [if_neg e0]
        have e1 := hc0.resolve_left e0
        by_cases e2 : rdI a (i : Int) = rdI a x
        · rw [if_pos e2, if_neg (fun q => e0 (q.symm.trans e2)), e1]
        · rw [if_neg e2, if_pos (by rw [e1]; exact hci.resolve_left e2)]
    · rw [if_neg q, if_neg (fun h => q ((same _).1 h))]
theorem ch_kem {g : Int × List (Int × Int)} {k : Int} (hk : colCase g k) {a b : List Int} (ha : a ∈ allC g k) (hb : b ∈ allC g k) (h : isCh a b = true) : kemP g.1.toNat g.2 a b = true := by
  have hg := hk.1
  have pa := allC_proper hk ha
  have pb := allC_proper hk hb
  have la := allC_rows a ha
  have lb := allC_rows b hb
  have hS : ∀ v, v ∈ List.range g.1.toNat ↔ v < g.1.toNat := fun v => List.mem_range
  have fa := proper_prS hg hS pa
  have fb := proper_prS hg hS pb
  obtain ⟨x, hx⟩ := List.length_eq_one_iff.1 (of_decide_eq_true h)
  obtain ⟨v, hv, hne, rfl⟩ := mem_apart.1 (show x ∈ apartL a b by rw [hx]; exact List.mem_singleton.2 rfl)
  have hvm : v < g.1.toNat := by omega
  have other : ∀ u : Nat, u < g.1.toNat → u ≠ v → rdI a (u : Int) = rdI b (u : Int) := fun u hu huv => by
    refine Classical.byContradiction fun q => ?_
    have : (u : Int) ∈ apartL a b := mem_apart.2 ⟨u, by omega, q, rfl⟩
    rw [hx, List.mem_singleton] at this
    omega
  have hone := ke_one (c := rdI b (v : Int)) fa ((hS v).2 hvm) fun u hu hn => by
    have hum := (hS u).1 hu
    by_cases huv : u = v
    · subst huv
      rcases hn with h | h <;> · have := goodG_edges hg _ h; simp at this
    · show rdI a (u : Int) ≠ _
      rw [other u hum huv]
      exact (fb v ((hS v).2 hvm)).2 u hu hn
  have hsw := swap_list (es := g.2) (c := rdI b (v : Int)) (g := fun u : Nat => rdI a (u : Int)) hS ((hS v).2 hvm)
  rw [hone, toL_of la] at hsw
  have hub : toL g.1.toNat (upd (fun u : Nat => rdI a (u : Int)) v (rdI b (v : Int))) = b := rd_ext (by rw [toL_len, lb]) fun i hi => by
    rw [toL_len] at hi
    rw [toL_rd hi]
    by_cases e : i = v
    · subst e; rw [upd_same]
    · rw [upd_other e]; exact other i hi e
  rw [hub] at hsw
  have := kemP_of (es := g.2) (c := rdI b (v : Int)) la (in_nat hvm) hne
  rw [← hsw] at this
  exact this
theorem vTable_l0_eq {R : Type} (N : Nat) (k0 : Bool → Option R) (k1 : Unit → Option R) (a b : List (List Int)) (hx : a.length ≤ 1099511627776) (hxs : ∀ x ∈ a, x.length ≤ 1048576) (hN : 1048577 ≤ N) (hl : a.length = b.length) : ∀ (d n : Nat) (K : Nat), n + d = a.length → d < K →
    Zq51_l0 N k0 k1 K a b n = if a.drop n = b.drop n then k1 () else k0 false := by
  intro d
  induction d with
  | zero =>
    intro n K hd hK
    obtain ⟨k, rfl⟩ := succ_of hK
    have hn : ¬ n < a.length := by omega
    simp only [Zq51_l0, ilt_lenf hn, br_f]
    rw [if_pos]
    rw [List.drop_of_length_le (by omega), List.drop_of_length_le (by omega)]
  | succ d ih =>
    intro n K hd hK
    obtain ⟨k, rfl⟩ := succ_of hK
    have hn : n < a.length := by omega
    have hnb : n < b.length := by omega
    simp only [Zq51_l0, ilt_len hn, inb_n hn, inb_n hnb, br_t, chk_t]
    have ha := hxs _ (List.getElem_mem hn)
    rw [wrap_succ (by omega), rdL_n hn, rdL_n hnb, vInts_eq (by omega) (by omega), bind_some', ih (n + 1) k (by omega) (by omega), drop_cons hn, drop_cons hnb, br_ite]
    by_cases he : a[n] = b[n]
    · rw [he, if_neg (by simp)]
      simp only [List.cons.injEq, true_and]
    · rw [if_pos (by simp [he]), if_neg]
      intro h
      injection h with h _
      exact he h
theorem vTable_eq {N : Nat} {a b : List (List Int)} (hx : a.length ≤ 1048576) (hxs : ∀ x ∈ a, x.length ≤ 1048576) (hN : 1048577 ≤ N) : Zq51 N a b = some ((decide (a = b), ()), ()) := by
  unfold Zq51
  simp only [tLen_n]
  by_cases hl : a.length = b.length
  · rw [ine_f (by omega), br_f]
    have := vTable_l0_eq N (fun x => some ((x, ()), ())) (fun _ => some ((true, ()), ())) a b (by omega) hxs hN hl a.length 0 N (by omega) (by omega)
    simp only [Int.natCast_zero, List.drop_zero] at this
    rw [this]
    by_cases h : a = b <;> simp [h]
  · rw [ine_t (by omega), br_t]
    have : a ≠ b := fun h => hl (by rw [h])
    simp [this]
theorem perm_of : ∀ {a b : List Int}, a.Nodup → (∀ x ∈ a, x ∈ b) → b.length ≤ a.length → a.Perm b := by
  intro a
  induction a with
  | nil =>
    intro b _ _ h
    have : b = [] := List.eq_nil_of_length_eq_zero (by simpa using h)
    rw [this]
  | cons x a ih =>
    intro b hn hs hl
    obtain ⟨n1, n2⟩ := List.nodup_cons.1 hn
    have hx : x ∈ b := hs x (List.mem_cons_self ..)
    have h1 := List.perm_cons_erase hx
    have hl2 := List.length_erase_of_mem hx
    have hb0 : 0 < b.length := List.length_pos_of_mem hx
    refine (List.Perm.cons x (ih n2 (fun y hy => ?_) (by rw [hl2]; simp at hl; omega))).trans h1.symm
    have hy2 : y ∈ b := hs y (List.mem_cons_of_mem _ hy)
    exact (List.mem_erase_of_ne (fun e : y = x => n1 (by rw [← e]; exact hy))).2 hy2
noncomputable def upL (n : Nat) : List Int := (List.range n).map fun i : Nat => (i : Int)
theorem mem_upL {n : Nat} {c : Int} : c ∈ upL n ↔ 0 ≤ c ∧ c < (n : Int) := by
  unfold upL
  rw [List.mem_map]
  constructor
  · rintro ⟨i, hi, rfl⟩
    rw [List.mem_range] at hi
    omega
  · rintro ⟨h1, h2⟩
    exact ⟨c.toNat, List.mem_range.2 (by omega), by omega⟩
theorem upL_len (n : Nat) : (upL n).length = n := by simp [upL]
theorem upL_nodup (n : Nat) : (upL n).Nodup := by
  unfold upL
  refine List.Pairwise.map _ (fun a b h e => h ?_) List.nodup_range
  omega
theorem upL_asc (n : Nat) : asc (upL n) := by
  unfold upL
  refine List.Pairwise.map _ (fun a b h => ?_) List.pairwise_lt_range
  omega
theorem upL_rd {n i : Nat} (h : i < n) : rdI (upL n) (i : Int) = (i : Int) := by
  rw [rdI_n (by rw [upL_len]; exact h)]
  simp [upL]
def isOrd (xs : List Int) (m : Int) : Prop := (xs.length : Int) = m ∧ ∀ c : Int, 0 ≤ c → c < m → c ∈ xs
theorem ord_perm {xs : List Int} {n : Nat} (h : isOrd xs (n : Int)) : (upL n).Perm xs :=
  perm_of (upL_nodup n) (fun c hc => h.2 c (mem_upL.1 hc).1 (mem_upL.1 hc).2) (by rw [upL_len]; have := h.1; omega)
theorem rising_up (n : Nat) : rising 0 ((n : Int) - 1) (upL n) := by
  intro i hi
  rw [upL_len] at hi
  refine ⟨?_, fun h0 => ?_⟩
  · rw [upL_rd hi]
    omega
  · rw [upL_rd hi, upL_rd (by omega)]
    omega
theorem rising_low {xs : List Int} {hi : Int} (h : rising 0 hi xs) : ∀ i : Nat, i < xs.length → (i : Int) ≤ rdI xs (i : Int) := by
  intro i
  induction i with
  | zero => intro h0; exact (h 0 h0).1.1
  | succ i ih =>
    intro h0
    have h1 := ih (by omega)
    have h2 := (h (i + 1) h0).2 (by omega)
    rw [show i + 1 - 1 = i by omega] at h2
    omega
theorem rising_high {xs : List Int} {hi : Int} (h : rising 0 hi xs) : ∀ (d i : Nat), i + d + 1 = xs.length → rdI xs (i : Int) + (d : Int) ≤ hi := by
  intro d
  induction d with
  | zero =>
    intro i hl
    have := (h i (by omega)).1.2
    omega
  | succ d ih =>
    intro i hl
    have h1 := ih (i + 1) (by omega)
    have h2 := (h (i + 1) (by omega)).2 (by omega)
    rw [show i + 1 - 1 = i by omega] at h2
    omega
theorem rising_ord {xs : List Int} {n : Nat} (hl : xs.length = n) : rising 0 ((n : Int) - 1) (mergeI xs) ↔ isOrd xs (n : Int) := by
  have hp := mergeI_perm xs
  have hml : (mergeI xs).length = n := hp.length_eq.trans hl
  constructor
  · intro h
    refine ⟨by omega, fun c h0 h1 => ?_⟩
    have hc : c.toNat < (mergeI xs).length := by omega
    have a1 := rising_low h c.toNat hc
    have a2 := rising_high h (n - 1 - c.toNat) c.toNat (by omega)
    have e : rdI (mergeI xs) (c.toNat : Int) = c := by omega
    rw [rdI_n hc] at e
    exact hp.mem_iff.1 (e ▸ List.getElem_mem hc)
  · intro h
    have e : mergeI xs = upL n := asc_perm (mergeI_asc xs) (upL_asc n) (hp.trans (ord_perm h).symm)
    rw [e]
    exact rising_up n
theorem isOrder_eq {N : Nat} {xs : List Int} {m : Int} (hx : xs.length ≤ 1048576) (hN : 1048577 ≤ N) : Zq38 N xs m = some ((decide (isOrd xs m), ()), ()) := by
  unfold Zq38
  rw [tLen_n]
  by_cases h : (xs.length : Int) = m
  · rw [ieq_t h, br_t]
    unfold Zq74 Zq73 sortVF
    rw [bind_some']
    simp only []
    rw [if_pos (by omega), bind_some']
    simp only []
    have hml : (mergeI xs).length = xs.length := (mergeI_perm xs).length_eq
    rw [isRising_eq (by omega) (by omega) hN, bind_some']
    simp only []
    rw [← h, decide_eq_decide.2 (rising_ord rfl)]
  · rw [ieq_f h, br_f, decide_eq_false fun q => h q.1]
noncomputable def renR (g : Int × List (Int × Int)) (k : Int) (cs to : List Int) : List Int × Bool := if (colCase g k ∧ proper g k cs) ∧ isOrd to k then (cs.map (rdI to), true) else ([], false)
theorem take_map_succ {cs : List Int} {f : Int → Int} {n : Nat} (h : n < cs.length) : (cs.take n).map f ++ [f (rdI cs (n : Int))] = (cs.take (n + 1)).map f := by
  rw [List.take_add_one, List.getElem?_eq_getElem h, List.map_append, rdI_n h]
  rfl
theorem RenameColours_both {N : Nat} {g : Int × List (Int × Int)} {k : Int} {cs to : List Int} (hx : g.2.length ≤ 1048576) (hc : cs.length ≤ 1048576) (ht : to.length ≤ 1048576) (hN : 1048577 ≤ N) :
    Zq80 N g k cs to = some (((renR g k cs to).1, (renR g k cs to).2, ()), ()) ∧ Zq23 N g k cs to = some (((renR g k cs to).1, (renR g k cs to).2, ()), ()) := by
  unfold Zq80 Zq23 renR
  simp only [show ((g.1, g.2) : Int × List (Int × Int)) = g from rfl]
  rw [l5Given_eq hx hc hN, bind_some', isColoured_eq hx (fun l hl => by rw [List.mem_singleton.1 hl]; exact hc) (by simp) hN, bind_some']
  simp only [List.mem_singleton, forall_eq]
  by_cases h : colCase g k ∧ proper g k cs
  · rw [decide_eq_true h]
    simp only [Bool.not_true, br_f]
    rw [isOrder_eq ht hN, bind_some']
    have hb : ∀ n : Nat, n < cs.length → 0 ≤ rdI cs (n : Int) ∧ rdI cs (n : Int) ≤ k - 1 := fun n hn => by
      rw [rdI_n hn]
      exact h.2.2.1 _ (List.getElem_mem hn)
    have hk5 := h.1.2
    have l1 : isOrd to k → ∀ (d n K : Nat) (o : List Int), n + d = cs.length → d < K → o = (cs.take n).map (rdI to) → Zq80_l1 N (fun o2 => some ((o2, true, ()), ())) K cs to (n : Int) o = some ((cs.map (rdI to), true, ()), ()) := by
      intro ho d
      have := ho.1
      induction d with
      | zero =>
        intro n K o hd hK e
        obtain ⟨K, rfl⟩ := succ_of hK
        simp only [Zq80_l1, ilt_lenf (show ¬ n < cs.length by omega), br_f]
        rw [e, List.take_of_length_le (by omega)]
      | succ d ih =>
        intro n K o hd hK e
        obtain ⟨K, rfl⟩ := succ_of hK
        have hn : n < cs.length := by omega
        have := hb n hn
        have hol : o.length = n := by rw [e]; simp; omega
        simp only [Zq80_l1, ilt_len hn, br_t, inb_n hn, chk_t]
        rw [inb_i (by omega) (by omega), chk_t, room_ok (by simp; omega), chk_t, wrap_succ (by omega), tApp_d]
        exact ih (n + 1) K _ (by omega) (by omega) (by rw [e]; exact take_map_succ hn)
    have l2 : isOrd to k → ∀ (d n K : Nat) (o : List Int), n + d = cs.length → d < K → o = (cs.take n).map (rdI to) → Zq23_l0 N (fun o => some ((o, true, ()), ())) K to cs (cs.length : Int) (n : Int) o = some ((cs.map (rdI to), true, ()), ()) := by
      intro ho d
      have := ho.1
      induction d with
      | zero =>
        intro n K o hd hK e
        obtain ⟨K, rfl⟩ := succ_of hK
        simp only [Zq23_l0, ilt_nf (show ¬ n < cs.length by omega), br_f]
        rw [e, List.take_of_length_le (by omega)]
      | succ d ih =>
        intro n K o hd hK e
        obtain ⟨K, rfl⟩ := succ_of hK
        have hn : n < cs.length := by omega
        have := hb n hn
        have hol : o.length = n := by rw [e]; simp; omega
        simp only [Zq23_l0, ilt_n hn, br_t, inb_n hn, chk_t]
        rw [inb_i (by omega) (by omega), chk_t, room_ok (by simp; omega), chk_t, wrap_succ (by omega), tApp_d]
        exact ih (n + 1) K _ (by omega) (by omega) (by rw [e]; exact take_map_succ hn)
    have hl0 := loop_all_if (P := ∀ i : Nat, i < k.toNat → (i : Int) ∈ to) (m := k.toNat) (L := fun K i => Zq80_l0 N (fun x o => some ((o, x, ()), ())) (fun colours1 to1 o1 => Zq80_l1 N (fun o2 => some ((o2, true, ()), ())) N colours1 to1 0 o1) K k cs to (i : Int) []) (fun i : Nat => (i : Int) ∈ to) Iff.rfl (kt := Zq80_l1 N (fun o2 => some ((o2, true, ()), ())) N cs to 0 []) (kf := some (([], false, ()), ())) (fun K n hn => by
      simp only [Zq80_l0]
      rw [ilt_f (by omega), br_f]) (fun K n hn hp => by
      simp only [Zq80_l0]
      rw [ilt_t (by omega), br_t, l1Has_eq ht hN, bind_some', decide_eq_true hp]
      simp only [Bool.not_true, br_f]
      rw [wrap_succ (by omega)]) (fun K n hn hp => by
      simp only [Zq80_l0]
      rw [ilt_t (by omega), br_t, l1Has_eq ht hN, bind_some', decide_eq_false hp]
      simp only [Bool.not_false, br_t]) (show k.toNat < N by omega)
    rw [show ((0 : Nat) : Int) = 0 from rfl] at hl0
    by_cases ho : isOrd to k
    · have hq : ∀ i : Nat, i < k.toNat → (i : Int) ∈ to := fun i hi => ho.2 _ (by omega) (by omega)
      rw [decide_eq_true ho, if_pos ⟨h, ho⟩, tLen_n, ine_f (by have := ho.1; omega), br_f, hl0, if_pos hq]
      simp only [Bool.not_true, br_f]
      rw [tLen_n]
      exact ⟨l1 ho cs.length 0 N [] (by omega) (by omega) (by simp), l2 ho cs.length 0 N [] (by omega) (by omega) (by simp)⟩
    · rw [decide_eq_false ho, if_neg fun q => ho q.2]
      simp only [Bool.not_false, br_t, and_true]
      by_cases hlen : (to.length : Int) = k
      · have hq : ¬ ∀ i : Nat, i < k.toNat → (i : Int) ∈ to := fun q => ho ⟨hlen, fun c h0 h1 => by
          have := q c.toNat (by omega)
          rwa [show ((c.toNat : Nat) : Int) = c by omega] at this⟩
        rw [tLen_n, ine_f (by omega), br_f, hl0, if_neg hq]
      · rw [tLen_n, ine_t hlen, br_t]
  · rw [decide_eq_false h, if_neg fun q => h q.1]
    simp only [Bool.not_false, br_t, and_self]
theorem ord_facts {m : Nat} {order : List Int} (h : isOrd order (m : Int)) : order.Nodup ∧ (∀ x ∈ order, InN m x) ∧ order.length = m ∧ ∀ x, InN m x → x ∈ order := by
  have hp := ord_perm h
  refine ⟨hp.nodup_iff.1 (upL_nodup m), fun x hx => mem_upL.1 (hp.mem_iff.2 hx), by have := h.1; omega, fun x hx => h.2 x hx.1 hx.2⟩
theorem renR_len (g : Int × List (Int × Int)) (k : Int) (cs to : List Int) : (renR g k cs to).1.length ≤ 8 := by
  unfold renR
  split
  · rename_i h
    have h1 := h.1.2.1
    have h2 := h.1.1.1.1
    rw [List.length_map]
    omega
  · simp
theorem way_wl {xs : List (List Int)} {st : List (Int × Int)} {a b : List Int} (hn : xs.length ≤ 1048576) (h : okSt xs.length st) (ha : a ∈ xs) (hb : b ∈ xs) (hne : wayS xs st a b ≠ []) : Wl (nbL xs.length st) ((xs.idxOf b : Nat) : Int) ((wayS xs st a b).length - 1) ((xs.idxOf a : Nat) : Int) := by
  obtain ⟨s1, s2, s3, s4, s5, s6⟩ := bfsD_spec (nbL_ok hn h) (in_nat (idx_lt hb))
  by_cases hlt : rdI (bfsD (nbL xs.length st) xs.length ((xs.idxOf b : Nat) : Int)) ((xs.idxOf a : Nat) : Int) < 0
  · exfalso
    apply hne
    unfold wayS wayI
    rw [if_pos hlt]
    rfl
  · have := s5 _ (in_nat (idx_lt ha)) (by omega)
    have e : (wayS xs st a b).length - 1 = (rdI (bfsD (nbL xs.length st) xs.length ((xs.idxOf b : Nat) : Int)) ((xs.idxOf a : Nat) : Int)).toNat := by
      unfold wayS wayI
      rw [if_neg hlt, List.length_map, List.length_cons, fwdL_len]
      omega
    rw [e]
    exact this
theorem way_pos {xs : List (List Int)} {st : List (Int × Int)} {a b : List Int} (hne : wayS xs st a b ≠ []) : 0 < (wayS xs st a b).length := List.length_pos_iff.2 hne
theorem wl_map {xs : List (List Int)} {p q : List Int → List Int → Bool} {f : List Int → List Int} (hp : ∀ x ∈ xs, ∀ y ∈ xs, p x y = true → p y x = true) (hq : ∀ x ∈ xs, ∀ y ∈ xs, q x y = true → q y x = true) (hf : ∀ x ∈ xs, f x ∈ xs) (hpq : ∀ x ∈ xs, ∀ y ∈ xs, p x y = true → q (f x) (f y) = true ∧ f x ≠ f y) {u v : Int} {k : Nat} (hu : InN xs.length u) (h : Wl (nbL xs.length (stepsL p xs)) u k v) :
    InN xs.length v ∧ Wl (nbL xs.length (stepsL q xs)) ((xs.idxOf (f (rdL xs u)) : Nat) : Int) k ((xs.idxOf (f (rdL xs v)) : Nat) : Int) := by
  induction h with
  | base => exact ⟨hu, .base⟩
  | step _ hz ih =>
    obtain ⟨i1, i2⟩ := ih
    obtain ⟨n1, n2, n3, n4⟩ := near_step hp i1 hz
    obtain ⟨q1, q2⟩ := hpq _ n1 _ n2 n3
    exact ⟨n4, .step i2 (step_near hq (hf _ n1) (hf _ n2) q2 q1)⟩
theorem ch_ne {a b : List Int} (h : isCh a b = true) : a ≠ b := fun e => by
  subst e
  obtain ⟨x, hx⟩ := List.length_eq_one_iff.1 (of_decide_eq_true h)
  obtain ⟨i, _, h2, _⟩ := mem_apart.1 (show x ∈ apartL a a by rw [hx]; exact List.mem_singleton.2 rfl)
  exact h2 rfl
theorem way_map {xs : List (List Int)} {p q : List Int → List Int → Bool} {f : List Int → List Int} (hn : xs.length ≤ 1048576) (hp : ∀ x ∈ xs, ∀ y ∈ xs, p x y = true → p y x = true) (hq : ∀ x ∈ xs, ∀ y ∈ xs, q x y = true → q y x = true) (hf : ∀ x ∈ xs, f x ∈ xs) (hpq : ∀ x ∈ xs, ∀ y ∈ xs, p x y = true → q (f x) (f y) = true ∧ f x ≠ f y) {a b : List Int} (ha : a ∈ xs) (hb : b ∈ xs) (hne : wayS xs (stepsL p xs) a b ≠ []) :
    wayS xs (stepsL q xs) (f a) (f b) ≠ [] ∧ (wayS xs (stepsL q xs) (f a) (f b)).length ≤ (wayS xs (stepsL p xs) a b).length := by
  have hw := way_wl hn stepsL_ok ha hb hne
  have h2 := (wl_map hp hq hf hpq (in_nat (idx_lt hb)) hw).2
  rw [idx_rd ha, idx_rd hb] at h2
  have := way_pos hne
  have h3 := way_least hn stepsL_ok (hf a ha) (hf b hb) h2
  exact ⟨(way_some hn stepsL_ok (hf a ha) (hf b hb)).2 (wk_of_wl h2), by omega⟩
theorem wl_apart {xs : List (List Int)} {m : Nat} (hr : ∀ x ∈ xs, x.length = m) {u v : Int} {k : Nat} (hu : InN xs.length u) (h : Wl (nbL xs.length (stepsL isCh xs)) u k v) : InN xs.length v ∧ (apartL (rdL xs u) (rdL xs v)).length ≤ k := by
  have hp : ∀ a ∈ xs, ∀ b ∈ xs, isCh a b = true → isCh b a = true := fun a ha b hb h => isCh_symm (by rw [hr a ha, hr b hb]) h
  have hmem : ∀ i : Int, InN xs.length i → rdL xs i ∈ xs := fun i hi => by
    obtain ⟨j, hj, rfl⟩ := nat_of hi
    rw [rdL_n hj]
    exact List.getElem_mem hj
  induction h with
  | base =>
    refine ⟨hu, ?_⟩
    have : apartL (rdL xs u) (rdL xs u) = [] := List.eq_nil_iff_forall_not_mem.2 fun x hx => by
      obtain ⟨i, _, h2, _⟩ := mem_apart.1 hx
      exact h2 rfl
    rw [this]
    simp
  | step _ hz ih =>
    obtain ⟨i1, i2⟩ := ih
    obtain ⟨n1, n2, n3, n4⟩ := near_step hp i1 hz
    have := apart_tri (by rw [hr _ (hmem u hu), hr _ n1]) n3 (a := rdL xs u)
    exact ⟨n4, by omega⟩
structure Ren (k : Int) (φ : Int → Int) : Prop where
  rng : ∀ z, 0 ≤ z → z ≤ k - 1 → 0 ≤ φ z ∧ φ z ≤ k - 1
  inj : ∀ z w, 0 ≤ z → z ≤ k - 1 → 0 ≤ w → w ≤ k - 1 → φ z = φ w → z = w
theorem rd_map {x : List Int} {φ : Int → Int} {i : Nat} (h : i < x.length) : rdI (x.map φ) (i : Int) = φ (rdI x (i : Int)) := by
  rw [rdI_n (by simpa using h), rdI_n h, List.getElem_map]
theorem ren_proper {g : Int × List (Int × Int)} {k : Int} {φ : Int → Int} (hg : goodG g) (hφ : Ren k φ) {x : List Int} (h : proper g k x) : proper g k (x.map φ) := by
  obtain ⟨h1, h2, h3⟩ := h
  refine ⟨by rw [List.length_map]; exact h1, fun z hz => ?_, fun e he => ?_⟩
  · obtain ⟨w, hw, rfl⟩ := List.mem_map.1 hz
    exact hφ.rng w (h2 w hw).1 (h2 w hw).2
  · have hee := goodG_edges hg e he
    obtain ⟨i, hi⟩ : ∃ i : Nat, e.1 = (i : Int) := ⟨e.1.toNat, by omega⟩
    obtain ⟨j, hj⟩ : ∃ j : Nat, e.2 = (j : Int) := ⟨e.2.toNat, by omega⟩
    have h4 := h3 e he
    rw [hi, hj] at h4 ⊢
    have il : i < x.length := by omega
    have jl : j < x.length := by omega
    rw [rd_map il, rd_map jl]
    have r1 := h2 _ (List.getElem_mem il)
    have r2 := h2 _ (List.getElem_mem jl)
    rw [rdI_n il, rdI_n jl] at h4 ⊢
    exact fun q => h4 (hφ.inj _ _ r1.1 r1.2 r2.1 r2.2 q)
theorem ren_apart {g : Int × List (Int × Int)} {k : Int} {φ : Int → Int} (hφ : Ren k φ) {x y : List Int} (hx : proper g k x) (hy : proper g k y) : apartL (x.map φ) (y.map φ) = apartL x y := by
  have hl : x.length = y.length := by have := hx.1; have := hy.1; omega
  unfold apartL
  rw [List.length_map]
  congr 1
  refine List.filter_congr fun i hi => ?_
  have hi : i < x.length := by
    rw [List.mem_range'_1] at hi
    omega
  rw [rd_map hi, rd_map (by omega)]
  have r1 := hx.2.1 _ (List.getElem_mem hi)
  have r2 := hy.2.1 _ (List.getElem_mem (show i < y.length by omega))
  rw [rdI_n hi, rdI_n (show i < y.length by omega)]
  exact decide_eq_decide.2 ⟨fun h e => h (by rw [e]), fun h e => h (hφ.inj _ _ r1.1 r1.2 r2.1 r2.2 e)⟩
theorem ren_ch {g : Int × List (Int × Int)} {k : Int} {φ : Int → Int} (hφ : Ren k φ) {x y : List Int} (hx : proper g k x) (hy : proper g k y) : isCh (x.map φ) (y.map φ) = isCh x y := by
  unfold isCh
  rw [ren_apart hφ hx hy]
theorem ord_ren {k : Int} {to : List Int} (hk : 0 ≤ k) (h : isOrd to k) : Ren k (rdI to) := by
  obtain ⟨m, rfl⟩ : ∃ m : Nat, k = (m : Int) := ⟨k.toNat, by omega⟩
  obtain ⟨o1, o2, o3, o4⟩ := ord_facts h
  refine ⟨fun z z1 z2 => ?_, fun z w z1 z2 w1 w2 e => ?_⟩
  · obtain ⟨i, rfl⟩ : ∃ i : Nat, z = (i : Int) := ⟨z.toNat, by omega⟩
    rw [rdI_n (by omega)]
    have := o2 _ (List.getElem_mem (show i < to.length by omega))
    exact ⟨this.1, by have := this.2; omega⟩
  · obtain ⟨i, rfl⟩ : ∃ i : Nat, z = (i : Int) := ⟨z.toNat, by omega⟩
    obtain ⟨j, rfl⟩ : ∃ j : Nat, w = (j : Int) := ⟨w.toNat, by omega⟩
    rw [rdI_n (show i < to.length by omega), rdI_n (show j < to.length by omega)] at e
    have := (List.getElem_inj o1).1 e
    omega
theorem ord_back {k : Int} {to : List Int} (hk : 0 ≤ k) (h : isOrd to k) : Ren k (fun z => (to.idxOf z : Int)) ∧ ∀ z, 0 ≤ z → z ≤ k - 1 → ((to.idxOf (rdI to z) : Nat) : Int) = z := by
  obtain ⟨m, rfl⟩ : ∃ m : Nat, k = (m : Int) := ⟨k.toNat, by omega⟩
  obtain ⟨o1, o2, o3, o4⟩ := ord_facts h
  have hlt : ∀ z, 0 ≤ z → z ≤ (m : Int) - 1 → to.idxOf z < to.length := fun z z1 z2 => List.idxOf_lt_length_iff.2 (o4 z ⟨z1, by omega⟩)
  refine ⟨⟨fun z z1 z2 => ?_, fun z w z1 z2 w1 w2 e => ?_⟩, fun z z1 z2 => ?_⟩
  · have := hlt z z1 z2
    omega
  · have a1 : to[to.idxOf z]'(hlt z z1 z2) = z := List.getElem_idxOf (hlt z z1 z2)
    have a2 : to[to.idxOf w]'(hlt w w1 w2) = w := List.getElem_idxOf (hlt w w1 w2)
    have e : to.idxOf z = to.idxOf w := by omega
    rw [← a1, ← a2]
    simp only [e]
  · obtain ⟨i, rfl⟩ : ∃ i : Nat, z = (i : Int) := ⟨z.toNat, by omega⟩
    have hi : i < to.length := by omega
    rw [rdI_n hi]
    have hm : to.idxOf to[i] < to.length := List.idxOf_lt_length_iff.2 (List.getElem_mem hi)
    have a1 : to[to.idxOf to[i]]'hm = to[i] := List.getElem_idxOf hm
    have := (List.getElem_inj o1).1 a1
    omega
theorem ren_way {g : Int × List (Int × Int)} {k : Int} {to a b : List Int} (hk : colCase g k) (hl : (allC g k).length ≤ 300) (ho : isOrd to k) (ha : a ∈ allC g k) (hb : b ∈ allC g k) (hne : wayS (allC g k) (stepsL isCh (allC g k)) a b ≠ []) :
    wayS (allC g k) (stepsL isCh (allC g k)) (a.map (rdI to)) (b.map (rdI to)) ≠ [] ∧ (wayS (allC g k) (stepsL isCh (allC g k)) (a.map (rdI to)) (b.map (rdI to))).length = (wayS (allC g k) (stepsL isCh (allC g k)) a b).length := by
  have hk5 := hk.2
  have hp : ∀ x ∈ allC g k, ∀ y ∈ allC g k, isCh x y = true → isCh y x = true := fun x hx y hy h => isCh_symm (by rw [allC_rows x hx, allC_rows y hy]) h
  have r1 := ord_ren (by omega) ho
  obtain ⟨r2, r3⟩ := ord_back (by omega) ho
  have key : ∀ φ : Int → Int, Ren k φ → ∀ a ∈ allC g k, ∀ b ∈ allC g k, wayS (allC g k) (stepsL isCh (allC g k)) a b ≠ [] → wayS (allC g k) (stepsL isCh (allC g k)) (a.map φ) (b.map φ) ≠ [] ∧ (wayS (allC g k) (stepsL isCh (allC g k)) (a.map φ) (b.map φ)).length ≤ (wayS (allC g k) (stepsL isCh (allC g k)) a b).length := fun φ hφ a ha b hb hne =>
    way_map (f := fun x => x.map φ) (by omega) hp hp (fun x hx => mem_allC hk hl (ren_proper hk.1 hφ (allC_proper hk hx))) (fun x hx y hy h => by
      have e := ren_ch hφ (allC_proper hk hx) (allC_proper hk hy)
      have e2 : isCh (x.map φ) (y.map φ) = true := by rw [e]; exact h
      exact ⟨e2, ch_ne e2⟩) ha hb hne
  obtain ⟨k1, k2⟩ := key _ r1 a ha b hb hne
  have back : ∀ x ∈ allC g k, (x.map (rdI to)).map (fun z => (to.idxOf z : Int)) = x := fun x hx => by
    rw [List.map_map]
    have hr := (allC_proper hk hx).2.1
    conv => rhs; rw [← List.map_id x]
    refine List.map_congr_left fun z hz => ?_
    exact r3 z (hr z hz).1 (hr z hz).2
  have m1 : ∀ x ∈ allC g k, x.map (rdI to) ∈ allC g k := fun x hx => mem_allC hk hl (ren_proper hk.1 r1 (allC_proper hk hx))
  obtain ⟨k3, k4⟩ := key _ r2 _ (m1 a ha) _ (m1 b hb) k1
  rw [back a ha, back b hb] at k4
  exact ⟨k1, by omega⟩
theorem kem_way {g : Int × List (Int × Int)} {k : Int} {a b : List Int} (hk : colCase g k) (hl : (allC g k).length ≤ 300) (hks : ∀ x ∈ allC g k, ∀ y ∈ allC g k, kemP g.1.toNat g.2 x y = true → kemP g.1.toNat g.2 y x = true) (ha : a ∈ allC g k) (hb : b ∈ allC g k) (hne : wayS (allC g k) (stepsL isCh (allC g k)) a b ≠ []) :
    wayS (allC g k) (stepsL (kemP g.1.toNat g.2) (allC g k)) a b ≠ [] ∧ (wayS (allC g k) (stepsL (kemP g.1.toNat g.2) (allC g k)) a b).length ≤ (wayS (allC g k) (stepsL isCh (allC g k)) a b).length := by
  have hp : ∀ x ∈ allC g k, ∀ y ∈ allC g k, isCh x y = true → isCh y x = true := fun x hx y hy h => isCh_symm (by rw [allC_rows x hx, allC_rows y hy]) h
  exact way_map (f := fun x => x) (by omega) hp hks (fun x hx => hx) (fun x hx y hy h => ⟨ch_kem hk hx hy h, ch_ne h⟩) ha hb hne
noncomputable def turnL (k : Nat) : List Int := (List.range k).map fun c : Nat => ((c : Int) + 1).tmod (k : Int)
theorem turn_ord {k : Nat} : isOrd (turnL k) (k : Int) := by
  refine ⟨by simp [turnL], fun c h0 h1 => ?_⟩
  unfold turnL
  rw [List.mem_map]
  by_cases hc : c = 0
  · refine ⟨k - 1, List.mem_range.2 (by omega), ?_⟩
    rw [show (((k - 1 : Nat) : Int) + 1) = (k : Int) by omega, Int.tmod_self, hc]
  · refine ⟨c.toNat - 1, List.mem_range.2 (by omega), ?_⟩
    rw [show (((c.toNat - 1 : Nat) : Int) + 1) = c by omega]
    exact Int.tmod_eq_of_lt h0 h1
theorem turnL_len (k : Nat) : (turnL k).length = k := by simp [turnL]
theorem turn_l2 {R : Type} {N : Nat} {k0 : Int → List Int → List Int → Bool → Int → Int → List (Int × Int) → List (List Int) → List (List Int) → List Int → Option R} {k : Nat} {a b : List Int} {x4 : Bool} {x5 o8 : Int} {o9 : List (Int × Int)} {o10 o11 : List (List Int)} (hk : k ≤ 5) :
    ∀ (d n K : Nat) (o : List Int), n + d = k → d < K → o = (List.range n).map (fun c : Nat => ((c : Int) + 1).tmod (k : Int)) → Zq46_l2 N k0 K (k : Int) a b x4 x5 (n : Int) o8 o9 o10 o11 o = k0 (k : Int) a b x4 x5 o8 o9 o10 o11 (turnL k) := by
  intro d
  induction d with
  | zero =>
    intro n K o hd hK e
    obtain ⟨K, rfl⟩ := succ_of hK
    have : n = k := by omega
    subst this
    simp only [Zq46_l2, ilt_nf (Nat.lt_irrefl n), br_f]
    rw [e]
    rfl
  | succ d ih =>
    intro n K o hd hK e
    obtain ⟨K, rfl⟩ := succ_of hK
    have hol : o.length = n := by rw [e]; simp
    simp only [Zq46_l2, ilt_n (show n < k by omega), br_t]
    rw [ine_t (by omega), chk_t, room_ok (by simp; omega), chk_t, wrap_succ (by omega), tApp_d]
    refine ih (n + 1) K _ (by omega) (by omega) ?_
    rw [e, List.range_succ, List.map_append]
    rfl
theorem differ_l1 {R : Type} {N : Nat} {k0 : Int → List Int → List Int → Bool → Int → Int → List (Int × Int) → List (List Int) → List (List Int) → Option R} {k o4 : Int} {a b : List Int} {x9 : Bool} {o5 : List (Int × Int)} {o6 o7 : List (List Int)} (hl : a.length ≤ 1048576) (hab : a.length = b.length) :
    ∀ (d n K : Nat) (c : Int), n + d = a.length → d < K → c = (((List.range' 0 n).filter fun i : Nat => decide (rdI a (i : Int) ≠ rdI b (i : Int))).length : Int) → Zq46_l1 N k0 K k a b x9 c (n : Int) o4 o5 o6 o7 = k0 k a b x9 ((apartL a b).length : Int) o4 o5 o6 o7 := by
  intro d
  induction d with
  | zero =>
    intro n K c hd hK e
    obtain ⟨K, rfl⟩ := succ_of hK
    have : n = a.length := by omega
    subst this
    simp only [Zq46_l1, ilt_lenf (Nat.lt_irrefl a.length), br_f]
    rw [e]
    unfold apartL
    rw [List.length_map]
  | succ d ih =>
    intro n K c hd hK e
    obtain ⟨K, rfl⟩ := succ_of hK
    have hn : n < a.length := by omega
    have hc : c ≤ (n : Int) := by
      rw [e]
      have := List.length_filter_le (fun i : Nat => decide (rdI a (i : Int) ≠ rdI b (i : Int))) (List.range' 0 n)
      rw [List.length_range'] at this
      omega
    have hc0 : 0 ≤ c := by rw [e]; omega
    simp only [Zq46_l1, ilt_len hn, br_t, inb_n hn, inb_n (show n < b.length by omega), chk_t]
    have er : List.range' 0 (n + 1) = List.range' 0 n ++ [n] := by rw [List.range'_concat]; simp
    by_cases h : rdI a (n : Int) = rdI b (n : Int)
    · rw [ine_f h, br_f, wrap_succ (by omega)]
      refine ih (n + 1) K _ (by omega) (by omega) ?_
      rw [er, List.filter_append, List.filter_cons_of_neg (by simp [h]), e]
      simp
    · rw [ine_t h, br_t, wrap_succ (by omega), wrap_ok (by omega) (by omega)]
      refine ih (n + 1) K _ (by omega) (by omega) ?_
      rw [er, List.filter_append, List.filter_cons_of_pos (by simp [h]), e]
      simp
theorem fixed_l0 {R : Type} {N : Nat} {k0 : Bool → Option R} {k1 : Int → List Int → List Int → Bool → Bool → Int → List (Int × Int) → List (List Int) → List (List Int) → Option R} {k o : Int} {a b : List Int} {x3 x4 : Bool} {o1 : List (Int × Int)} {o2 o3 : List (List Int)} {fx st : List Int} (hl : fx.length ≤ 1048576) (hs : st.length ≤ 1048576)
    (h1 : ∀ z ∈ fx, z ∈ st) (h2 : x3 = true → ∀ z ∈ fx, (0 ≤ z ∧ z < a.length ∧ z < b.length) ∧ rdI a z = rdI b z) (hN : 1048577 ≤ N) :
    ∀ (d n K : Nat), n + d = fx.length → d < K → Zq46_l0 N k0 k1 K k a b x3 x4 true (n : Int) o o1 o2 o3 fx st = k1 k a b x3 x4 o o1 o2 o3 := by
  intro d
  induction d with
  | zero =>
    intro n K hd hK
    obtain ⟨K, rfl⟩ := succ_of hK
    simp only [Zq46_l0, br_t, ilt_lenf (show ¬ n < fx.length by omega), br_f]
  | succ d ih =>
    intro n K hd hK
    obtain ⟨K, rfl⟩ := succ_of hK
    have hn : n < fx.length := by omega
    have hm : rdI fx (n : Int) ∈ fx := by rw [rdI_n hn]; exact List.getElem_mem hn
    simp only [Zq46_l0, br_t, ilt_len hn, inb_n hn, chk_t]
    rw [vHas_eq hs hN, bind_some', decide_eq_true (h1 _ hm)]
    simp only [Bool.not_true, br_f]
    have nx := ih (n + 1) K (by omega) (by omega)
    cases x3 with
    | true =>
      obtain ⟨⟨q1, q2, q3⟩, q4⟩ := h2 rfl _ hm
      rw [br_t, inb_i q1 q2, chk_t, inb_i q1 q3, chk_t, ine_f q4, br_f, wrap_succ (by omega)]
      exact nx
    | false =>
      rw [br_f, wrap_succ (by omega)]
      exact nx
theorem mem_fixL {m : Nat} {xs : List (List Int)} {F c : List Int} {z : Int} : z ∈ fixL m xs F c ↔ ∃ v : Nat, v < m ∧ z = (v : Int) ∧ ∀ i : Nat, i < xs.length → rdI F (i : Int) < 0 ∨ rdI (rdL xs (i : Int)) (v : Int) = rdI c (v : Int) := by
  unfold fixL
  rw [List.mem_map]
  constructor
  · rintro ⟨v, hv, rfl⟩
    rw [List.mem_filter, List.mem_range'_1, decide_eq_true_eq] at hv
    exact ⟨v, by omega, rfl, hv.2⟩
  · rintro ⟨v, hv, rfl, h⟩
    exact ⟨v, by rw [List.mem_filter, List.mem_range'_1, decide_eq_true_eq]; exact ⟨by omega, h⟩, rfl⟩
theorem mem_stillL {k : Int} {m : Nat} {es : List (Int × Int)} {cs : List Int} {v : Nat} : (v : Int) ∈ stillL k m es cs ↔ v < m ∧ stillAt k es cs v := by
  unfold stillL
  rw [iter_app, List.nil_append, List.mem_map]
  constructor
  · rintro ⟨w, hw, e⟩
    rw [List.mem_filter, List.mem_range'_1, decide_eq_true_eq] at hw
    have : w = v := by omega
    subst this
    exact ⟨by omega, hw.2⟩
  · rintro ⟨h1, h2⟩
    exact ⟨v, by rw [List.mem_filter, List.mem_range'_1, decide_eq_true_eq]; exact ⟨by omega, h2⟩, rfl⟩
theorem fixed_still {g : Int × List (Int × Int)} {k : Int} {a : List Int} (hk : colCase g k) (hp : proper g k a) (hl : (allC g k).length ≤ 300) {v : Nat} (hv : v < g.1.toNat)
    (h : ∀ i : Nat, i < (allC g k).length → rdI (bfsD (nbL (allC g k).length (stepsL isCh (allC g k))) (allC g k).length (((allC g k).idxOf a : Nat) : Int)) (i : Int) < 0 ∨ rdI (rdL (allC g k) (i : Int)) (v : Int) = rdI a (v : Int)) : stillAt k g.2 a v := by
  intro c hc
  have ha := mem_allC hk hl hp
  have hlen := hp.1
  have hva : v < a.length := by omega
  by_cases e : (c : Int) = rdI a (v : Int)
  · exact .inl e
  · refine .inr ((not_proper hk.1 hp hva ⟨by omega, hc⟩).1 fun hq => ?_)
    have hb := mem_allC hk hl hq
    have hch : isCh a (tSet a (v : Int) (c : Int)) = true := by
      unfold isCh
      refine decide_eq_true ?_
      have : ∀ z, z ∈ apartL a (tSet a (v : Int) (c : Int)) ↔ z = (v : Int) := fun z => by
        rw [mem_apart]
        constructor
        · rintro ⟨i, hi, hne, rfl⟩
          rw [rdI_set hva _ _ (by omega)] at hne
          by_cases q : (i : Int) = (v : Int)
          · exact q
          · rw [if_neg q] at hne
            exact absurd rfl hne
        · rintro rfl
          refine ⟨v, hva, ?_, rfl⟩
          rw [rdI_set hva _ _ (by omega), if_pos rfl]
          exact fun q => e q.symm
      have h1 := nodup_le (a := apartL a (tSet a (v : Int) (c : Int))) (b := [(v : Int)]) (apart_nodup _ _) fun z hz => List.mem_singleton.2 ((this z).1 hz)
      have h2 := List.length_pos_of_mem ((this (v : Int)).2 rfl)
      simp at h1
      omega
    have hpp : ∀ x ∈ allC g k, ∀ y ∈ allC g k, isCh x y = true → isCh y x = true := fun x hx y hy h => isCh_symm (by rw [allC_rows x hx, allC_rows y hy]) h
    have hst := step_near hpp ha hb (ch_ne hch) hch
    obtain ⟨s1, s2, s3, s4, s5, s6⟩ := bfsD_spec (nbL_ok (by omega) (stepsL_ok (p := isCh) (xs := allC g k))) (in_nat (idx_lt ha))
    have hd := (s6 1 _ (.step .base hst)).2.1
    rcases h _ (idx_lt hb) with q | q
    · omega
    · rw [idx_rd hb, rdI_set hva _ _ (by omega), if_pos rfl] at q
      exact e q
end Go.Proofs.YtkffaahlpdlkoaaGreat
