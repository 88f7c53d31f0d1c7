/- Statements on data alone. -/
import Derived.Test.YtbnjcjpnpidhmaaPvPure
import Derived.Test.YtbnjcjpnpidhmaaKempeGb
set_option linter.all false
set_option linter.all false
namespace Go.Proofs.Ytbnjcjpnpidhmaa
open Go Go.PV Classical
theorem graph_ok {N : Nat} {code : List Int} {k : Nat} {c : List Int × (Int × Int)} (hco : codeOk code) (hN : 1048577 ≤ N) (h : CurOk code k c) (hk : k ≤ 90000) : ∃ g c', spec_l1Cur_graph N c = some ((g, ()), (c', ())) ∧ CurOk code (k + 200) c' ∧ g.2.length ≤ 100 := by
  unfold spec_l1Cur_graph
  obtain ⟨g, c', e1, e2, e3⟩ := someGraph_ok (N := N) (most := 6) hco hN h hk (by omega)
  rw [e1, bind_some']
  exact ⟨g, c', rfl, e2, e3⟩
theorem good_up {g : Int × List (Int × Int)} (h : goodG g) : pairsUp g.2 := by
  unfold pairsUp
  rw [List.pairwise_iff_getElem]
  intro i j hi hj hij
  have key : ∀ d, ∀ (h2 : i + d + 1 < g.2.length), edgeLt g.2[i] g.2[i + d + 1] := by
    intro d
    induction d with
    | zero =>
      intro h2
      have := (h.2 (i + 1) h2).2 (by omega)
      rw [show i + 1 - 1 = i by omega, rdP_n hi, rdP_n h2] at this
      exact this
    | succ d ih =>
      intro h2
      have h3 := ih (by omega)
      have := (h.2 (i + d + 1 + 1) h2).2 (by omega)
      rw [show i + d + 1 + 1 - 1 = i + d + 1 by omega, rdP_n (show i + d + 1 < g.2.length by omega), rdP_n (show i + d + 1 + 1 < g.2.length by omega)] at this
      exact edgeLt_trans h3 this
  have h4 := key (j - i - 1) (by omega)
  have e : i + (j - i - 1) + 1 = j := by omega
  simp only [e] at h4
  exact h4
theorem dense_loop {R : Type} {N m : Nat} (hm : m ≤ 8) (hN : 1048577 ≤ N) {k0 : List Int × (Int × Int) → Int → Int → List (Int × Int) → Option R} {c : List Int × (Int × Int)} {o1 : Int} :
    ∀ (d x K : Nat) (o : List (Int × Int)), x + d = max m x → 1 ≤ x → x ≤ 100 → d < K → pairsUp o → o.length + d ≤ 1048576 → ∃ o', spec_l1Cur_dense5_l0 N k0 K (x : Int) c o1 (m : Int) o = k0 c o1 (m : Int) o' ∧ o'.length ≤ o.length + d := by
  intro d
  induction d with
  | zero =>
    intro x K o hd h1 h100 hK ho hl
    obtain ⟨K, rfl⟩ := succ_of hK
    refine ⟨o, ?_, by omega⟩
    simp only [spec_l1Cur_dense5_l0, ilt_nf (show ¬ x < m by omega), br_f]
  | succ d ih =>
    intro x K o hd h1 h100 hK ho hl
    obtain ⟨K, rfl⟩ := succ_of hK
    simp only [spec_l1Cur_dense5_l0, ilt_n (show x < m by omega), br_t]
    rw [l2Neighbors_eq hm (by omega) hN, bind_some']
    simp only []
    rw [wrap_succ (by omega)]
    by_cases h2 : tLen (nbr m o (x : Int)) < 2
    · rw [ilt_t h2, br_t]
      obtain ⟨o1', p1, p2, p3, p4⟩ := putPair_eq (N := N) (e := (IntKind.i64.wrap ((x : Int) - 1), (x : Int))) ho (by omega) hN
      rw [p1, bind_some']
      simp only []
      obtain ⟨o', q1, q2⟩ := ih (x + 1) K o1' (by omega) (by omega) (by omega) (by omega) p2 (by omega)
      exact ⟨o', q1, by omega⟩
    · rw [ilt_f h2, br_f]
      obtain ⟨o', q1, q2⟩ := ih (x + 1) K o (by omega) (by omega) (by omega) (by omega) ho (by omega)
      exact ⟨o', q1, by omega⟩
theorem dense5_ok {N : Nat} {code : List Int} {k : Nat} {c : List Int × (Int × Int)} (hco : codeOk code) (hN : 1048577 ≤ N) (h : CurOk code k c) (hk : k ≤ 90000) : ∃ g c', spec_l1Cur_dense5 N c = some ((g, ()), (c', ())) ∧ CurOk code (k + 210) c' ∧ g.2.length ≤ 110 := by
  unfold spec_l1Cur_dense5
  obtain ⟨g, c1, e1, e2, e3⟩ := graph_ok (N := N) hco hN h hk
  rw [e1, bind_some']
  simp only [show ((g.1, g.2) : Int × List (Int × Int)) = g from rfl]
  rw [l2Good_eq (by omega) hN, bind_some']
  by_cases hg : goodG g
  · rw [decide_eq_true hg]
    simp only [Bool.not_true, br_f]
    obtain ⟨b, c2, f1, f2⟩ := one_ok (N := N) hco e2 (by omega) 4
    rw [f1, bind_some']
    cases b with
    | true =>
      simp only [br_t]
      exact ⟨g, c2, rfl, cur_mono f2 (by omega), by omega⟩
    | false =>
      simp only [br_f]
      have hg1 := hg.1
      obtain ⟨m, hm⟩ : ∃ m : Nat, g.1 = (m : Int) := ⟨g.1.toNat, by omega⟩
      rw [hm]
      obtain ⟨o', q1, q2⟩ := dense_loop (N := N) (m := m) (by omega) hN (k0 := fun o o1 o2 o3 => some (((o2, o3), ()), (o, ()))) (c := c2) (o1 := 0) (max m 1 - 1) 1 N g.2 (by omega) (by omega) (by omega) (by omega) (good_up hg) (by omega)
      exact ⟨((m : Int), o'), c2, q1, cur_mono f2 (by omega), by simp only []; omega⟩
  · rw [decide_eq_false hg]
    exact ⟨g, c1, rfl, cur_mono e2 (by omega), by omega⟩
theorem many5_ok {N : Nat} {code : List Int} {k : Nat} {c : List Int × (Int × Int)} (hco : codeOk code) (h : CurOk code k c) (hk : k ≤ 900000) : ∃ x c', spec_l1Cur_many5 N c = some ((x, ()), (c', ())) ∧ CurOk code (k + 4) c' ∧ -1 ≤ x ∧ x ≤ 6 := by
  unfold spec_l1Cur_many5
  obtain ⟨x, c1, e1, e2, e3, _, e5⟩ := pick_ok (N := N) hco h (by omega) 24
  have e5 := e5 (by omega)
  rw [e1, bind_some']
  simp only []
  obtain ⟨n, rfl⟩ := Int.eq_ofNat_of_zero_le e3
  have hd : ((n : Int)).tdiv 8 = ((n / 8 : Nat) : Int) := rfl
  have hn : n / 8 ≤ 2 := by omega
  rw [hd, wrap_ok (n := ((n / 8 : Nat) : Int)) (by omega) (by omega), wrap_ok (by omega) (by omega), show (7 : Int) + ((n / 8 : Nat) : Int) = ((7 + n / 8 : Nat) : Int) by omega]
  have hl : tLen [3, 3, 2, 4, 3, 1, 5, 0, 6, (-1 : Int)] = 10 := rfl
  rw [hl, ile_t (Int.le_refl 0), ile_t (by omega), ile_t (by omega)]
  simp only [Bool.and_self, chk_t]
  obtain ⟨y, c2, f1, f2, f3⟩ := among_ok (N := N) hco e2 (by omega) (l := tCut [3, 3, 2, 4, 3, 1, 5, 0, 6, (-1 : Int)] 0 ((7 + n / 8 : Nat) : Int)) (by
    intro h
    have := congrArg List.length h
    simp [tCut] at this
    omega)
  rw [f1, bind_some']
  refine ⟨y, c2, rfl, cur_mono f2 (by omega), ?_⟩
  have : y ∈ [3, 3, 2, 4, 3, 1, 5, 0, 6, (-1 : Int)] := by
    unfold tCut at f3
    exact List.mem_of_mem_take (List.mem_of_mem_drop f3)
  simp at this
  omega
noncomputable def colTail (N : Nat) (o4 : List Int × (Int × Int)) (o5 : List Int) : Option ((List Int × Unit) × ((List Int × (Int × Int)) × Unit)) :=
  ((spec_l1Cur_one N o4 8).bind fun r7 =>
    (br r7.1.1
      (((spec_l1Cur_among N r7.2.1 [(-1), 0, 9]).bind fun r8 =>
        (chk (room o5 [r8.1.1])
          (some (((tApp o5 [r8.1.1]), ()), (r8.2.1, ()))))))
      (some ((o5, ()), (r7.2.1, ())))))
theorem col_loop {N : Nat} {code : List Int} (hco : codeOk code) {o1 : Int} {o2 : List (Int × Int)} : ∀ (d x K k : Nat) (c : List Int × (Int × Int)) (o : List Int), x + d = 9 → d < K → CurOk code k c → k + 2 * d + 20 ≤ 900000 → o.length ≤ x →
    ∃ a c', spec_l1Cur_colours5_l0 N (fun o4 o5 => colTail N o4 o5) K (x : Int) c o1 o2 o = some ((a, ()), (c', ())) ∧ CurOk code (k + 2 * d + 4) c' ∧ a.length ≤ 10 := by
  intro d
  have fin : ∀ (k : Nat) (c : List Int × (Int × Int)) (o : List Int), CurOk code k c → k ≤ 900000 → o.length ≤ 9 → ∃ a c', colTail N c o = some ((a, ()), (c', ())) ∧ CurOk code (k + 4) c' ∧ a.length ≤ 10 := by
    intro k c o hc hk ho
    unfold colTail
    obtain ⟨b, c2, f1, f2⟩ := one_ok (N := N) hco hc (by omega) 8
    rw [f1, bind_some']
    cases b with
    | true =>
      simp only [br_t]
      obtain ⟨y, c3, g1, g2, _⟩ := among_ok (N := N) hco f2 (by omega) (l := [(-1), 0, 9]) (by simp)
      rw [g1, bind_some']
      simp only []
      rw [room_ok (by simp; omega), chk_t]
      exact ⟨_, _, rfl, g2, by simp [tApp]; omega⟩
    | false =>
      simp only [br_f]
      exact ⟨_, _, rfl, cur_mono f2 (by omega), by omega⟩
  induction d with
  | zero =>
    intro x K k c o hd hK hc hk ho
    obtain ⟨K, rfl⟩ := succ_of hK
    have e : x = 9 := by omega
    subst e
    simp only [spec_l1Cur_colours5_l0]
    rw [ilt_f (show ¬ ((9 : Nat) : Int) < 9 by omega), br_f]
    obtain ⟨a, c', f1, f2, f3⟩ := fin k c o hc (by omega) ho
    rw [f1]
    refine ⟨a, c', ?_, cur_mono f2 (by omega), f3⟩
    cases ilt ((9 : Nat) : Int) o1 <;> rfl
  | succ d ih =>
    intro x K k c o hd hK hc hk ho
    obtain ⟨K, rfl⟩ := succ_of hK
    simp only [spec_l1Cur_colours5_l0]
    by_cases h1 : (x : Int) < o1
    · rw [ilt_t h1, br_t, ilt_t (show (x : Int) < 9 by omega), br_t]
      obtain ⟨y, c2, f1, f2, _⟩ := pick_ok (N := N) hco hc (by omega) 4
      rw [f1, bind_some']
      simp only []
      rw [room_ok (by simp; omega), chk_t, wrap_succ (by omega)]
      obtain ⟨a, c', g1, g2, g3⟩ := ih (x + 1) K (k + 2) c2 (tApp o [y]) (by omega) (by omega) f2 (by omega) (by simp [tApp]; omega)
      exact ⟨a, c', g1, cur_mono g2 (by omega), g3⟩
    · rw [ilt_f h1, br_f]
      obtain ⟨a, c', f1, f2, f3⟩ := fin k c o hc (by omega) (by omega)
      exact ⟨a, c', f1, cur_mono f2 (by omega), f3⟩
theorem colours5_ok {N : Nat} {code : List Int} {k : Nat} {c : List Int × (Int × Int)} {g : Int × List (Int × Int)} {q : Int} (hco : codeOk code) (hN : 1048577 ≤ N) (h : CurOk code k c) (hk : k ≤ 800000) (hg : g.2.length ≤ 1048576) :
    ∃ a c', spec_l1Cur_colours5 N c g q = some ((a, ()), (c', ())) ∧ CurOk code (k + 30) c' ∧ a.length ≤ 10 := by
  unfold spec_l1Cur_colours5
  simp only [show ((g.1, g.2) : Int × List (Int × Int)) = g from rfl]
  rw [l5All_eq hg hN, bind_some']
  simp only []
  obtain ⟨r1, r2⟩ := colsR_ok g q
  have other : ∀ (kk : Nat) (c : List Int × (Int × Int)), CurOk code kk c → kk ≤ k + 2 → ∃ a c', spec_l1Cur_colours5_l0 N (fun o4 o5 => colTail N o4 o5) N 0 c g.1 g.2 [] = some ((a, ()), (c', ())) ∧ CurOk code (k + 30) c' ∧ a.length ≤ 10 := by
    intro kk c hc hkk
    obtain ⟨a, c', g1, g2, g3⟩ := col_loop (N := N) hco (o1 := g.1) (o2 := g.2) 9 0 N kk c [] (by omega) (by omega) hc (by omega) (by simp)
    exact ⟨a, c', g1, cur_mono g2 (by omega), g3⟩
  cases (colsR g q).2 with
  | false =>
    rw [br_f]
    exact other k c h (by omega)
  | true =>
    rw [br_t, tLen_n]
    by_cases h0 : 0 < (colsR g q).1.length
    · rw [ilt_t (by omega), br_t]
      obtain ⟨b, c2, f1, f2⟩ := one_ok (N := N) hco h (by omega) 10
      rw [f1, bind_some']
      simp only []
      cases b with
      | true =>
        simp only [Bool.not_true, br_f]
        exact other _ c2 f2 (by omega)
      | false =>
        simp only [Bool.not_false, br_t]
        obtain ⟨y, c3, g1, g2, g3, _, g5⟩ := pick_ok (N := N) hco f2 (by omega) ((colsR g q).1.length : Int)
        rw [g1, bind_some']
        simp only []
        obtain ⟨n, rfl⟩ := Int.eq_ofNat_of_zero_le g3
        have hn : n < (colsR g q).1.length := by have := g5 (by omega); omega
        rw [inb_n hn, chk_t, rdL_n hn]
        have := r2 _ (List.getElem_mem hn)
        exact ⟨_, _, rfl, cur_mono g2 (by omega), by omega⟩
    · rw [ilt_f (by omega), br_f]
      exact other k c h (by omega)
theorem node_ok {N : Nat} {code : List Int} {k : Nat} {c : List Int × (Int × Int)} {g : Int × List (Int × Int)} (hco : codeOk code) (h : CurOk code k c) (hk : k ≤ 800000) : ∃ x c', spec_l1Cur_node N c g = some ((x, ()), (c', ())) ∧ CurOk code (k + 4) c' := by
  unfold spec_l1Cur_node
  have am : ∀ (kk : Nat) (c : List Int × (Int × Int)), CurOk code kk c → kk ≤ k + 2 → ∃ x c', ((spec_l1Cur_among N c [(-1), 0, 8, 4611686018427387904]).bind fun r => some ((r.1.1, ()), (r.2.1, ()))) = some ((x, ()), (c', ())) ∧ CurOk code (k + 4) c' := by
    intro kk c hc hkk
    obtain ⟨y, c3, g1, g2, _⟩ := among_ok (N := N) hco hc (by omega) (l := [(-1), 0, 8, 4611686018427387904]) (by simp)
    rw [g1, bind_some']
    exact ⟨_, _, rfl, cur_mono g2 (by omega)⟩
  by_cases h1 : g.1 < 1
  · rw [ilt_t h1, br_t]
    exact am k c h (by omega)
  · rw [ilt_f h1, br_f]
    by_cases h8 : 8 < g.1
    · rw [ilt_t h8, br_t]
      exact am k c h (by omega)
    · rw [ilt_f h8, br_f]
      obtain ⟨b, c2, f1, f2⟩ := one_ok (N := N) hco h (by omega) 24
      rw [f1, bind_some']
      simp only []
      cases b with
      | true => rw [br_t]; exact am _ c2 f2 (by omega)
      | false =>
        rw [br_f]
        obtain ⟨y, c3, g1, g2, _⟩ := pick_ok (N := N) hco f2 (by omega) g.1
        rw [g1, bind_some']
        exact ⟨_, _, rfl, cur_mono g2 (by omega)⟩
theorem cur0 {code : List Int} : CurOk code 0 (code, (0, 0)) := ⟨rfl, Int.le_refl _, by simp⟩
theorem DrawKempe_ok {N : Nat} {code : List Int} (hco : codeOk code) (hN : 1048577 ≤ N) : ∃ (g : Int × List (Int × Int)) (k : Int) (a : List Int) (x c : Int), spec_DrawKempeChange N code = some (((g.1, g.2), k, a, x, c, ()), ()) ∧ g.2.length ≤ 110 ∧ a.length ≤ 10 := by
  unfold spec_DrawKempeChange spec_DrawChainOf
  obtain ⟨g, c1, a1, a2, a3⟩ := dense5_ok (N := N) hco hN cur0 (by omega)
  rw [a1, bind_some']
  simp only [show ((g.1, g.2) : Int × List (Int × Int)) = g from rfl]
  obtain ⟨q, c2, b1, b2, _⟩ := many5_ok (N := N) hco a2 (by omega)
  rw [b1, bind_some']
  simp only [show ((c2.1, (c2.2.1, c2.2.2)) : List Int × (Int × Int)) = c2 from rfl]
  obtain ⟨a, c3, d1, d2, d3⟩ := colours5_ok (N := N) (g := g) (q := q) hco hN b2 (by omega) (by omega)
  rw [d1, bind_some']
  simp only []
  obtain ⟨x, c4, e1, e2⟩ := node_ok (N := N) (g := g) hco d2 (by omega)
  rw [e1, bind_some']
  simp only []
  obtain ⟨y, c5, f1, f2, _⟩ := pick_ok (N := N) hco e2 (by omega) 5
  rw [f1, bind_some']
  simp only []
  obtain ⟨z, c6, g1, g2, _⟩ := pick_ok (N := N) hco f2 (by omega) 24
  rw [g1, bind_some']
  exact ⟨g, q, a, x, _, rfl, a3, d3⟩
theorem DrawIsCol_ok {N : Nat} {code : List Int} (hco : codeOk code) (hN : 1048577 ≤ N) : ∃ (g : Int × List (Int × Int)) (k : Int) (a : List Int), spec_DrawIsColouring N code = some (((g.1, g.2), k, a, ()), ()) ∧ g.2.length ≤ 110 ∧ a.length ≤ 10 := by
  unfold spec_DrawIsColouring
  obtain ⟨g, c1, a1, a2, a3⟩ := dense5_ok (N := N) hco hN cur0 (by omega)
  rw [a1, bind_some']
  simp only [show ((g.1, g.2) : Int × List (Int × Int)) = g from rfl]
  obtain ⟨q, c2, b1, b2, _⟩ := many5_ok (N := N) hco a2 (by omega)
  rw [b1, bind_some']
  simp only []
  obtain ⟨a, c3, d1, d2, d3⟩ := colours5_ok (N := N) (g := g) (q := q) hco hN b2 (by omega) (by omega)
  rw [d1, bind_some']
  simp only []
  rw [tLen_n]
  by_cases h0 : 0 < a.length
  · rw [ilt_t (by omega), br_t]
    obtain ⟨b, c4, f1, f2⟩ := one_ok (N := N) hco d2 (by omega) 3
    rw [f1, bind_some']
    simp only []
    cases b with
    | true =>
      rw [br_t]
      obtain ⟨y, c5, g1, g2, g3, _, g5⟩ := pick_ok (N := N) hco f2 (by omega) (a.length : Int)
      rw [g1, bind_some']
      simp only []
      obtain ⟨z, c6, i1, i2, _⟩ := pick_ok (N := N) hco g2 (by omega) 6
      rw [i1, bind_some']
      simp only []
      obtain ⟨n, rfl⟩ := Int.eq_ofNat_of_zero_le g3
      have hn : n < a.length := by have := g5 (by omega); omega
      rw [inb_n hn, chk_t]
      exact ⟨g, q, _, rfl, a3, by simp [tSet]; omega⟩
    | false => rw [br_f]; exact ⟨g, q, a, rfl, a3, d3⟩
  · rw [ilt_f (by omega), br_f]
    exact ⟨g, q, a, rfl, a3, d3⟩
theorem vCut_ok {N : Nat} {code : List Int} {n : Int} (hco : codeOk code) (hl : code.length ≤ 65536) (hn : 0 ≤ n) : ∃ code', laws_vCut N code n = some ((code', ()), ()) ∧ codeOk code' := by
  unfold laws_vCut
  have fin : ∀ l : Nat, l ≤ code.length → ∀ v : Int, 0 ≤ v → codeOk (tApp (tApp [] (tCut code (l : Int) (tLen code))) [IntKind.u8.wrap v]) ∧ room (α := Int) (β := Int) [] (tCut code (l : Int) (tLen code)) = true ∧ room (tApp [] (tCut code (l : Int) (tLen code))) [IntKind.u8.wrap v] = true := by
    intro l hll v hv
    have hlen : (tCut code (l : Int) (tLen code)).length ≤ code.length := by simp [tCut, tLen]
    have hw : 0 ≤ IntKind.u8.wrap v ∧ IntKind.u8.wrap v ≤ 255 := by
      unfold IntKind.wrap
      simp only [IntKind.signed, IntKind.bits]
      have h1 := Int.emod_nonneg v (b := 2 ^ 8) (by decide)
      have h2 := Int.emod_lt_of_pos v (b := 2 ^ 8) (by decide)
      simp at h1 h2 ⊢
      omega
    refine ⟨⟨by simp [tApp]; omega, fun x hx => ?_⟩, room_ok (by simp; omega), room_ok (by simp [tApp]; omega)⟩
    simp only [tApp, List.nil_append, List.mem_append, List.mem_singleton] at hx
    rcases hx with hx | rfl
    · unfold tCut at hx
      exact hco.2 x (List.mem_of_mem_take (List.mem_of_mem_drop hx))
    · exact hw
  by_cases h : tLen code < n
  · rw [ilt_t h, br_t]
    obtain ⟨f1, f2, f3⟩ := fin code.length (Nat.le_refl _) (code.length : Int) (by omega)
    simp only [tLen_n] at f1 f2 f3 ⊢
    rw [ile_t (by omega), ile_t (Int.le_refl _)]
    simp only [Bool.and_self, chk_t]
    rw [f2, chk_t, f3, chk_t]
    exact ⟨_, rfl, f1⟩
  · rw [ilt_f h, br_f]
    obtain ⟨l, rfl⟩ := Int.eq_ofNat_of_zero_le hn
    have hll : l ≤ code.length := by rw [tLen_n] at h; omega
    obtain ⟨f1, f2, f3⟩ := fin l hll (l : Int) (by omega)
    rw [tLen_n] at f1 f2 f3 ⊢
    rw [ile_t (by omega), ile_t (show (l : Int) ≤ (code.length : Int) by omega), ile_t (Int.le_refl _)]
    simp only [Bool.and_self, chk_t]
    rw [f2, chk_t, f3, chk_t]
    exact ⟨_, rfl, f1⟩
theorem vInts_l0_eq {R : Type} (N : Nat) (k0 : Bool → Option R) (k1 : Unit → Option R) (a b : List Int) (hx : a.length ≤ 1099511627776) (hl : a.length = b.length) : ∀ (d n : Nat) (K : Nat), n + d = a.length → d < K →
    laws_vInts_l0 N k0 k1 K a b n = if a.drop n = b.drop n then k1 () else k0 false := by
  intro d
  induction d with
  | zero =>
    intro n K hd hK
    obtain ⟨k, rfl⟩ := succ_of hK
    have hn : ¬ n < a.length := by omega
    simp only [laws_vInts_l0, ilt_lenf hn, br_f]
    rw [if_pos]
    rw [List.drop_of_length_le (by omega), List.drop_of_length_le (by omega)]
  | succ d ih =>
    intro n K hd hK
    obtain ⟨k, rfl⟩ := succ_of hK
    have hn : n < a.length := by omega
    have hnb : n < b.length := by omega
    simp only [laws_vInts_l0, ilt_len hn, inb_n hn, inb_n hnb, br_t, chk_t]
    rw [wrap_succ (by omega), rdI_n hn, rdI_n hnb, ih (n + 1) k (by omega) (by omega), drop_cons hn, drop_cons hnb]
    by_cases he : a[n] = b[n]
    · rw [ine_f he, br_f, he]
      simp only [List.cons.injEq, true_and]
    · rw [ine_t he, br_t, if_neg]
      intro h
      injection h with h _
      exact he h
theorem vInts_eq {N : Nat} {a b : List Int} (hx : a.length ≤ 1099511627776) (hN : a.length < N) : laws_vInts N a b = some ((decide (a = b), ()), ()) := by
  unfold laws_vInts
  simp only [tLen_n]
  by_cases hl : a.length = b.length
  · rw [ine_f (by omega), br_f]
    have := vInts_l0_eq N (fun x => some ((x, ()), ())) (fun _ => some ((true, ()), ())) a b hx hl a.length 0 N (by omega) (by omega)
    simp only [Int.natCast_zero, List.drop_zero] at this
    rw [this]
    by_cases h : a = b <;> simp [h]
  · rw [ine_t (by omega), br_t]
    have : a ≠ b := fun h => hl (by rw [h])
    simp [this]
theorem vHas_eq {N : Nat} {xs : List Int} {v : Int} (hx : xs.length ≤ 1048576) (hN : 1048577 ≤ N) : laws_vHas N xs v = some ((decide (v ∈ xs), ()), ()) := by
  unfold laws_vHas
  have := loop_all_if (P := ∀ x ∈ xs, x ≠ v) (L := fun K i => laws_vHas_l0 N (fun x => some ((x, ()), ())) (fun (_ : Unit) => some ((false, ()), ())) K xs v i) (fun i => rdI xs i ≠ v) all_rdI (kt := some ((false, ()), ())) (kf := some ((true, ()), ())) (fun K n hn => ?_) (fun K n hn hp => ?_) (fun K n hn hp => ?_) (show xs.length < N by omega)
  · rw [show ((0 : Nat) : Int) = 0 from rfl] at this
    rw [this]
    by_cases h : v ∈ xs
    · rw [if_neg (fun h' => h' v h rfl), decide_eq_true h]
    · rw [if_pos (fun x hx (h' : x = v) => h (h' ▸ hx)), decide_eq_false h]
  · simp only [laws_vHas_l0, ilt_lenf hn, br_f]
  · simp only [laws_vHas_l0, ilt_len hn, br_t, inb_n hn, chk_t]
    rw [ieq_f hp, br_f, wrap_succ (by omega)]
  · simp only [laws_vHas_l0, ilt_len hn, br_t, inb_n hn, chk_t]
    rw [ieq_t (Decidable.not_not.1 hp), br_t]
theorem code_ok {x : List Int} (h : ∀ y ∈ x, (Lit.int .u8 y).wf = true) (hl : x.length ≤ 65536) : codeOk x := by
  refine ⟨by omega, fun y hy => ?_⟩
  have := h y hy
  simp [Lit.wf, IntKind.min, IntKind.max, IntKind.signed, IntKind.bits] at this
  omega
theorem kempe_proper {g : Int × List (Int × Int)} {k x c : Int} {cs : List Int} (h : spotOk g k cs x c) (hne : rdI cs x ≠ c) : proper g k (kempeR g.1.toNat g.2 cs x c) := by
  obtain ⟨⟨hc, hp⟩, hx, hcc⟩ := h
  have hg := hc.1.1
  have hl : cs.length = g.1.toNat := by have := hp.1; omega
  have hxm : InN g.1.toNat x := ⟨hx.1, by omega⟩
  have hown : 0 ≤ rdI cs x ∧ rdI cs x ≤ k - 1 := by
    obtain ⟨i, hi, rfl⟩ := nat_of hxm
    rw [rdI_n (by omega)]
    exact hp.2.1 _ (List.getElem_mem _)
  have hrd := fun (y : Int) (hy : InN g.1.toNat y) => rd_kempe (es := g.2) (c := c) hl hxm hy
  have hcl : ∀ y z, y ∈ chainR g.1.toNat g.2 cs x c → nearG g.2 y z → InN g.1.toNat z → (rdI cs z = rdI cs x ∨ rdI cs z = c) → z ∈ chainR g.1.toNat g.2 cs x c := by
    intro y z hy hyz hz hzc
    have hxs : x ∈ someL g.1.toNat cs (rdI cs x) c := mem_someL.2 ⟨hxm, .inl rfl⟩
    have h1 := ((reachS_spec (es := g.2) hxs).2 y).1 hy
    exact ((reachS_spec (es := g.2) hxs).2 z).2 (.step h1 hyz (mem_someL.2 ⟨hz, hzc⟩))
  refine ⟨by rw [kempeR_len]; exact hp.1, fun z hz => ?_, fun e he => ?_⟩
  · obtain ⟨i, hi, rfl⟩ := List.getElem_of_mem hz
    rw [kempeR_len] at hi
    have h1 := hrd (i : Int) (in_nat (by omega))
    rw [rdI_n (by rw [kempeR_len]; exact hi)] at h1
    rw [h1]
    split
    · split <;> omega
    · rw [rdI_n hi]
      exact hp.2.1 _ (List.getElem_mem _)
  · have hee := goodG_edges hc.1 e he
    have i1 : InN g.1.toNat e.1 := ⟨hee.1, by omega⟩
    have i2 : InN g.1.toNat e.2 := ⟨by omega, by omega⟩
    have hn : nearG g.2 e.1 e.2 := .inl he
    have hn2 : nearG g.2 e.2 e.1 := .inr he
    have hd := hp.2.2 e he
    rw [hrd _ i1, hrd _ i2]
    by_cases m1 : e.1 ∈ chainR g.1.toNat g.2 cs x c
    · have c1 := (chainR_mem hxm m1).2
      by_cases m2 : e.2 ∈ chainR g.1.toNat g.2 cs x c
      · have c2 := (chainR_mem hxm m2).2
        rw [if_pos m1, if_pos m2]
        by_cases q1 : rdI cs e.1 = rdI cs x
        · rw [if_pos q1]
          rw [if_neg (fun q2 => hd (q1.trans q2.symm))]
          exact fun q => hne q.symm
        · rw [if_neg q1]
          have q2 := c1.resolve_left q1
          rw [if_pos (c2.resolve_right fun q3 => hd (q2.trans q3.symm))]
          exact hne
      · rw [if_pos m1, if_neg m2]
        have n2 : ¬ (rdI cs e.2 = rdI cs x ∨ rdI cs e.2 = c) := fun q => m2 (hcl _ _ m1 hn i2 q)
        split
        · exact fun q => n2 (.inr q.symm)
        · exact fun q => n2 (.inl q.symm)
    · by_cases m2 : e.2 ∈ chainR g.1.toNat g.2 cs x c
      · rw [if_neg m1, if_pos m2]
        have n1 : ¬ (rdI cs e.1 = rdI cs x ∨ rdI cs e.1 = c) := fun q => m1 (hcl _ _ m2 hn2 i1 q)
        split
        · exact fun q => n1 (.inr q)
        · exact fun q => n1 (.inl q)
      · rw [if_neg m1, if_neg m2]
        exact hd
noncomputable def isColV (g : Int × List (Int × Int)) (k : Int) (cs : List Int) : Bool × Bool := if colCase g k then (decide (proper g k cs), true) else (false, false)
theorem IsCol_both {N : Nat} {g : Int × List (Int × Int)} {k : Int} {cs : List Int} (hx : g.2.length ≤ 1048576) (hc : cs.length ≤ 1048576) (hN : 1048577 ≤ N) :
    spec_IsColouring N g k cs = some (((isColV g k cs).1, (isColV g k cs).2, ()), ()) ∧ impl_IsColouring N g k cs = some (((isColV g k cs).1, (isColV g k cs).2, ()), ()) := by
  unfold spec_IsColouring impl_IsColouring isColV
  simp only [show ((g.1, g.2) : Int × List (Int × Int)) = g from rfl]
  rw [l5Ask_eq hx hN, isColourCase_eq hx hN, bind_some', bind_some']
  by_cases h : colCase g k
  · rw [decide_eq_true h]
    simp only [Bool.not_true, br_f]
    rw [l5Proper_eq h hx hc hN, impl_isColouring_eq h hx hc hN, bind_some', if_pos h]
    exact ⟨rfl, rfl⟩
  · rw [decide_eq_false h, if_neg h]
    exact ⟨rfl, rfl⟩
theorem kem_l0 {R : Type} {N : Nat} {k0 : Bool → Option R} {k1 : Int → List Int → Int → Bool → Int → List (Int × Int) → List Int → List Int → Option R} {x x2 x3 o : Int} {x1 o2 o3 : List Int} {x4 : Bool} {o1 : List (Int × Int)}
    (hl : o3.length ≤ 1048576) (hx : InN x1.length x2) (h : ∀ z ∈ o3, InN x1.length z ∧ (rdI x1 z = rdI x1 x2 ∨ rdI x1 z = x3)) :
    ∀ (d n K : Nat), n + d = o3.length → d < K → laws_FnKempe_l0 N k0 k1 K x x1 x2 x3 x4 true (n : Int) o o1 o2 o3 = k1 x x1 x2 x4 o o1 o2 o3 := by
  obtain ⟨i2, hi2, rfl⟩ := nat_of hx
  intro d
  induction d with
  | zero =>
    intro n K hd hK
    obtain ⟨K, rfl⟩ := succ_of hK
    simp only [laws_FnKempe_l0, br_t, ilt_lenf (show ¬ n < o3.length by omega), br_f]
  | succ d ih =>
    intro n K hd hK
    obtain ⟨K, rfl⟩ := succ_of hK
    have hn : n < o3.length := by omega
    obtain ⟨h1, h2⟩ := h _ (List.getElem_mem hn)
    obtain ⟨z, hz, e⟩ := nat_of h1
    simp only [laws_FnKempe_l0, br_t, ilt_len hn, inb_n hn, chk_t, rdI_n hn, e, inb_n hz, inb_n hi2]
    rw [wrap_succ (by omega), ih (n + 1) K (by omega) (by omega)]
    rw [e] at h2
    by_cases q : rdI x1 (z : Int) = x3
    · rw [ine_f q, br_f]
    · rw [ine_t q, br_t, ine_f (h2.resolve_right q), br_f]
theorem kem_f {R : Type} {N K : Nat} {k0 : Bool → Option R} {k1 : Int → List Int → Int → Bool → Int → List (Int × Int) → List Int → List Int → Option R} {x x2 x3 x6 o : Int} {x1 o2 o3 : List Int} {x4 : Bool} {o1 : List (Int × Int)} (hK : 0 < K) :
    laws_FnKempe_l0 N k0 k1 K x x1 x2 x3 x4 false x6 o o1 o2 o3 = k1 x x1 x2 x4 o o1 o2 o3 := by
  obtain ⟨K, rfl⟩ := succ_of hK
  simp only [laws_FnKempe_l0, br_f]
theorem kem_l1 {R : Type} {N : Nat} {k0 : Bool → Option R} {k1 : List Int → Bool → Bool → Bool → List Int → Option R} {x5 o6 o7 o8 : List Int} {x6 x7 x8 : Bool} {m : Nat} {o5 : List (Int × Int)} (hN : 1048577 ≤ N)
    (hl : o7.length ≤ 1048576) (h5 : x5.length = m) (h6 : o6.length = m) (hm : m ≤ 1048576) (h : ∀ n : Nat, n < m → ((n : Int) ∈ o7 ↔ rdI o6 (n : Int) ≠ rdI x5 (n : Int))) :
    ∀ (d n K : Nat), n + d = m → d < K → laws_FnKempe_l1 N k0 k1 K x5 x6 x7 x8 (n : Int) (m : Int) o5 o6 o7 o8 = k1 x5 x6 x7 x8 o8 := by
  intro d
  induction d with
  | zero =>
    intro n K hd hK
    obtain ⟨K, rfl⟩ := succ_of hK
    simp only [laws_FnKempe_l1, ilt_nf (show ¬ n < m by omega), br_f]
  | succ d ih =>
    intro n K hd hK
    obtain ⟨K, rfl⟩ := succ_of hK
    have hn : n < m := by omega
    simp only [laws_FnKempe_l1, ilt_n hn, br_t]
    rw [vHas_eq hl hN, bind_some', inb_n (show n < o6.length by omega), chk_t, inb_n (show n < x5.length by omega), chk_t]
    simp only []
    have e : (decide ((n : Int) ∈ o7) == ine (rdI o6 (n : Int)) (rdI x5 (n : Int))) = true := by
      by_cases q : (n : Int) ∈ o7
      · rw [decide_eq_true q, ine_t ((h n hn).1 q)]; rfl
      · rw [decide_eq_false q, ine_f (Decidable.not_not.1 fun q2 => q ((h n hn).2 q2))]; rfl
    rw [e, Bool.not_true, br_f, wrap_succ (by omega)]
    exact ih (n + 1) K (by omega) (by omega)
theorem Kempe_pure {N : Nat} (hN : 1048577 ≤ N) {code : List Int} (hw : ∀ y ∈ code, (Lit.int .u8 y).wf = true) : laws_FnKempe N code = some ((true, ()), ()) := by
  unfold laws_FnKempe laws_vBig
  rw [bind_some']
  simp only []
  rw [tLen_n]
  by_cases hb : 65536 < code.length
  · rw [ilt_t (by omega), br_t]
  · rw [ilt_f (by omega), br_f]
    have hco := code_ok hw (by omega)
    obtain ⟨g, k, cs, x, c, d1, d2, d3⟩ := DrawKempe_ok (N := N) hco hN
    obtain ⟨k1, k2, k3⟩ := Kempe_both (N := N) (g := g) (k := k) (x := x) (c := c) (cs := cs) (by omega) (by omega) hN
    obtain ⟨ch1, ch2, ch3⟩ := ChainOf_both (N := N) (g := g) (k := k) (x := x) (c := c) (cs := cs) (by omega) (by omega) hN
    obtain ⟨code2, v1, v2⟩ := vCut_ok (N := N) (n := 1) hco (by omega) (by omega)
    obtain ⟨h, hm, hl, w1, w2, w3⟩ := DrawIsCol_ok (N := N) v2 hN
    obtain ⟨ic1, ic2⟩ := IsCol_both (N := N) (g := h) (k := hm) (cs := hl) (by omega) (by omega) hN
    have vs : ∀ l : List Int, l.length ≤ 8 → laws_vInts N l l = some ((true, ()), ()) := fun l hl => by
      rw [vInts_eq (by omega) (by omega), decide_eq_true rfl]
    simp only [d1, k2, k3, ch2, ch3, v1, w1, ic1, ic2, vs _ k1, vs _ ch1, bind_some', show ((g.1, g.2) : Int × List (Int × Int)) = g from rfl, show ((h.1, h.2) : Int × List (Int × Int)) = h from rfl, beq_self_eq_true, Bool.not_true, br_f]
    by_cases hs : spotOk g k cs x c
    · have hcv : chainV g k cs x c = (chainR g.1.toNat g.2 cs x c, true) := by unfold chainV; rw [if_pos hs]
      have hs0 := hs
      obtain ⟨⟨hc, hp⟩, hxr, hcc⟩ := hs
      have hg := hc.1.1
      have hlen : cs.length = g.1.toNat := by have := hp.1; omega
      have hxm : InN g.1.toNat x := ⟨hxr.1, by omega⟩
      have hchl := chainR_len (es := g.2) (cs := cs) (c := c) hxm
      have hmem : ∀ z ∈ chainR g.1.toNat g.2 cs x c, InN cs.length z ∧ (rdI cs z = rdI cs x ∨ rdI cs z = c) := fun z hz => by rw [hlen]; exact chainR_mem hxm hz
      rw [hcv]
      by_cases hne : rdI cs x ≠ c
      · have hkv : kempeV g k cs x c = (kempeR g.1.toNat g.2 cs x c, true) := by unfold kempeV; rw [if_pos ⟨hs0, hne⟩]
        rw [hkv]
        simp only [Bool.not_true, br_f, br_t]
        have hl0 := fun (k1 : Int → List Int → Int → Bool → Int → List (Int × Int) → List Int → List Int → Option ((Bool × Unit) × Unit)) => kem_l0 (k1 := k1) (R := (Bool × Unit) × Unit) (N := N) (k0 := fun x => some ((x, ()), ())) (x := k) (x1 := cs) (x2 := x) (x3 := c) (x4 := true) (o := g.1) (o1 := g.2) (o2 := kempeR g.1.toNat g.2 cs x c) (o3 := chainR g.1.toNat g.2 cs x c) (by omega) (by rw [hlen]; exact hxm) hmem
        have hkp := kempe_proper hs0 hne
        obtain ⟨b1, b2, b3⟩ := kempe_back (es := g.2) hlen hxm hne
        have hkl := kempeR_len g.1.toNat g.2 cs x c
        have hown : 0 ≤ rdI cs x ∧ rdI cs x ≤ k - 1 := by
          obtain ⟨i, hi, rfl⟩ := nat_of hxm
          rw [rdI_n (by omega)]
          exact hp.2.1 _ (List.getElem_mem _)
        have hs2 : spotOk g k (kempeR g.1.toNat g.2 cs x c) x (rdI cs x) := ⟨⟨hc, hkp⟩, hxr, hown⟩
        have hkv2 : kempeV g k (kempeR g.1.toNat g.2 cs x c) x (rdI cs x) = (cs, true) := by
          unfold kempeV
          rw [if_pos ⟨hs2, by rw [b2]; exact fun q => hne q.symm⟩, b1]
        have hk2 := (Kempe_both (N := N) (g := g) (k := k) (x := x) (c := rdI cs x) (cs := kempeR g.1.toNat g.2 cs x c) (by omega) (by omega) hN).2.2
        rw [hkv2] at hk2
        have hi2 := (IsCol_both (N := N) (g := g) (k := k) (cs := kempeR g.1.toNat g.2 cs x c) (by omega) (by omega) hN).2
        have hiv : isColV g k (kempeR g.1.toNat g.2 cs x c) = (true, true) := by unfold isColV; rw [if_pos hc, decide_eq_true hkp]
        rw [hiv] at hi2
        have hcm : ∀ n : Nat, n < g.1.toNat → ((n : Int) ∈ chainR g.1.toNat g.2 cs x c ↔ rdI (kempeR g.1.toNat g.2 cs x c) (n : Int) ≠ rdI cs (n : Int)) := by
          intro n hn
          rw [rd_kempe hlen hxm (in_nat hn)]
          by_cases q : (n : Int) ∈ chainR g.1.toNat g.2 cs x c
          · rw [if_pos q]
            refine ⟨fun _ => ?_, fun _ => q⟩
            have := (hmem _ q).2
            split
            · rename_i q2
              exact fun q3 => hne (q2.symm.trans q3.symm)
            · rename_i q2
              exact fun q3 => q2 q3.symm
          · rw [if_neg q]
            exact ⟨fun q2 => absurd q2 q, fun q2 => absurd rfl q2⟩
        have hxi : inb cs x = true := by
          obtain ⟨i, hi, rfl⟩ := nat_of hxm
          exact inb_n (by omega)
        have e0 := hl0 (fun x1 x2 x3 x4 o o1 o2 o3 => (br (!x4)
                                              (some ((true, ()), ()))
                                              (((impl_IsColouring N (o, o1) x1 o2).bind fun r12 =>
                                                (chk (inb x2 x3)
                                                  ((impl_KempeChange N (o, o1) x1 o2 x3 (rdI x2 x3)).bind fun r13 =>
                                                  laws_FnKempe_l1 N (fun x5 => some ((x5, ()), ())) (fun x6 x7 x8 x9 o4 => (br x8
                                                    ((br x7
                                                      ((br x9
                                                        (((laws_vInts N o4 x6).bind fun r14 =>
                                                          some ((r14.1.1, ()), ())))
                                                        (some ((false, ()), ()))))
                                                      (some ((false, ()), ()))))
                                                    (some ((false, ()), ())))) N x2 r12.1.1 r12.1.2.1 r13.1.2.1 0 o o1 o2 o3 r13.1.1)))))) (chainR g.1.toNat g.2 cs x c).length 0 N (by omega) (by omega)
        simp only [Int.natCast_zero] at e0
        rw [e0]
        simp only [Bool.not_true, br_f, show ((g.1, g.2) : Int × List (Int × Int)) = g from rfl]
        rw [hi2, bind_some', hxi, chk_t, hk2, bind_some']
        simp only []
        have hgm : g.1 = ((g.1.toNat : Nat) : Int) := by omega
        have e1 := kem_l1 (R := (Bool × Unit) × Unit) (N := N) (k0 := fun x5 => some ((x5, ()), ())) (k1 := fun x6 x7 x8 x9 o4 => (br x8
                                                    ((br x7
                                                      ((br x9
                                                        (((laws_vInts N o4 x6).bind fun r14 =>
                                                          some ((r14.1.1, ()), ())))
                                                        (some ((false, ()), ()))))
                                                      (some ((false, ()), ()))))
                                                    (some ((false, ()), ())))) (x5 := cs) (o6 := kempeR g.1.toNat g.2 cs x c) (o7 := chainR g.1.toNat g.2 cs x c) (o8 := cs) (x6 := true) (x7 := true) (x8 := true) (m := g.1.toNat) (o5 := g.2) hN (by omega) hlen (by omega) (by omega) hcm g.1.toNat 0 N (by omega) (by omega)
        simp only [Int.natCast_zero] at e1
        rw [← hgm] at e1
        rw [e1, br_t, br_t, br_t, vs cs (by omega), bind_some']
      · have hkv : kempeV g k cs x c = ([], false) := by unfold kempeV; rw [if_neg (fun q => hne q.2)]
        rw [hkv]
        simp only [br_f]
        have hl0 := fun (k1 : Int → List Int → Int → Bool → Int → List (Int × Int) → List Int → List Int → Option ((Bool × Unit) × Unit)) => kem_l0 (k1 := k1) (R := (Bool × Unit) × Unit) (N := N) (k0 := fun x => some ((x, ()), ())) (x := k) (x1 := cs) (x2 := x) (x3 := c) (x4 := false) (o := g.1) (o1 := g.2) (o2 := []) (o3 := chainR g.1.toNat g.2 cs x c) (by omega) (by rw [hlen]; exact hxm) hmem
        refine (hl0 _ _ 0 N (Nat.zero_add _) (by omega)).trans ?_
        rfl
    · have hcv : chainV g k cs x c = ([], false) := by unfold chainV; rw [if_neg hs]
      have hkv : kempeV g k cs x c = ([], false) := by unfold kempeV; rw [if_neg (fun q => hs q.1)]
      rw [hcv, hkv]
      simp only [br_f]
      exact (kem_f (by omega)).trans rfl
theorem Kempe_pureT : ∀ x : argsT (psOf [LU8]), WfA [LU8] x → ∃ k m, (laws_FnKempe_S k).f x = some ((true, ()), m) :=
  fun x h => ⟨1048577, (), Kempe_pure (Nat.le_refl _) h.1.2⟩
end Go.Proofs.Ytbnjcjpnpidhmaa
