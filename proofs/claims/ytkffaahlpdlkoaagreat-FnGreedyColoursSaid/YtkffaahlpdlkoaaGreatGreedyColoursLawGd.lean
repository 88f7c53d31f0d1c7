/- Statements on data alone. -/
import Derived.Test.YtkffaahlpdlkoaaGreatPvPure
import Derived.Test.YtkffaahlpdlkoaaGreatGreedyColoursLawGc
set_option linter.all false
set_option linter.all false
namespace Go.Proofs.YtkffaahlpdlkoaaGreat
open Go Go.PV Classical
theorem sg_in {R : Type} {N : Nat} {code : List Int} (hco : codeOk code) (hN : 1048577 ≤ N) {k0 : Int → Int → Bool → Int → List Int × (Int × Int) → Int → Int → List (Int × Int) → Option R} {x4 x5 x7 o5 o6 : Int} {x6 : Bool} :
    ∀ (d : Nat) (x8 : Int) (K k : Nat) (c : List Int × (Int × Int)) (o : List (Int × Int)), x8 + (d : Int) = max x4 x8 → d < K → 0 ≤ x8 → x8 ≤ 100 → x4 ≤ 100 → CurOk code k c → k + 2 * d ≤ 1000000 → pairsUp o → o.length + d ≤ 1048576 →
      ∃ c' o', Zq66_l0_0 N k0 K x4 x5 x6 x7 x8 c o5 o6 o = k0 x4 x5 x6 x7 c' o5 o6 o' ∧ CurOk code (k + 2 * d) c' ∧ pairsUp o' ∧ o'.length ≤ o.length + d := by
  intro d
  induction d with
  | zero =>
    intro x8 K k c o hd hK h0 h1 h4 hc hk ho hl
    obtain ⟨K, rfl⟩ := succ_of hK
    refine ⟨c, o, ?_, hc, ho, by omega⟩
    simp only [Zq66_l0_0, ilt_f (show ¬ x8 < x4 by omega), br_f]
  | succ d ih =>
    intro x8 K k c o hd hK h0 h1 h4 hc hk ho hl
    obtain ⟨K, rfl⟩ := succ_of hK
    have hlt : x8 < x4 := by omega
    have hw : IntKind.i64.wrap (x8 + 1) = x8 + 1 := wrap_ok (by omega) (by omega)
    simp only [Zq66_l0_0, ilt_t hlt, br_t, hw]
    obtain ⟨x, c1, e1, e2, _⟩ := pick_ok (N := N) hco hc (by omega) x5
    rw [e1, bind_some']
    simp only []
    by_cases hx : x = 0
    · rw [ieq_t hx, br_t]
      obtain ⟨o1, p1, p2, p3, p4⟩ := putPair_eq (N := N) (e := (x7, x8)) ho (by omega) hN
      rw [p1, bind_some']
      simp only []
      obtain ⟨c', o', q1, q2, q3, q4⟩ := ih (x8 + 1) K (k + 2) c1 o1 (by omega) (by omega) (by omega) (by omega) h4 e2 (by omega) p2 (by omega)
      exact ⟨c', o', q1, cur_mono q2 (by omega), q3, by omega⟩
    · rw [ieq_f hx, br_f]
      obtain ⟨c', o', q1, q2, q3, q4⟩ := ih (x8 + 1) K (k + 2) c1 o (by omega) (by omega) (by omega) (by omega) h4 e2 (by omega) ho (by omega)
      exact ⟨c', o', q1, cur_mono q2 (by omega), q3, by omega⟩
theorem sg_out {R : Type} {N : Nat} {code : List Int} (hco : codeOk code) (hN : 1048577 ≤ N) {k0 : List Int × (Int × Int) → Int → Int → List (Int × Int) → Option R} {x x1 o1 o2 : Int} {x2 : Bool} (hx : x ≤ 8) :
    ∀ (d : Nat) (x3 : Int) (K k : Nat) (c : List Int × (Int × Int)) (o : List (Int × Int)), x3 + (d : Int) = max x x3 → d < K → 0 ≤ x3 → x3 ≤ 8 → CurOk code k c → k + 20 * d ≤ 1000000 → pairsUp o → o.length + 10 * d ≤ 1048576 →
      ∃ c' o', Zq66_l0 N k0 K x x1 x2 x3 c o1 o2 o = k0 c' o1 o2 o' ∧ CurOk code (k + 20 * d) c' ∧ pairsUp o' ∧ o'.length ≤ o.length + 10 * d := by
  intro d
  induction d with
  | zero =>
    intro x3 K k c o hd hK h0 h1 hc hk ho hl
    obtain ⟨K, rfl⟩ := succ_of hK
    refine ⟨c, o, ?_, hc, ho, by omega⟩
    simp only [Zq66_l0, ilt_f (show ¬ x3 < x by omega), br_f]
  | succ d ih =>
    intro x3 K k c o hd hK h0 h1 hc hk ho hl
    obtain ⟨K, rfl⟩ := succ_of hK
    have hlt : x3 < x := by omega
    have hw : IntKind.i64.wrap (x3 + 1) = x3 + 1 := wrap_ok (by omega) (by omega)
    simp only [Zq66_l0, ilt_t hlt, br_t, hw]
    obtain ⟨e, he⟩ : ∃ e : Nat, x3 + 1 + (e : Int) = max x (x3 + 1) := ⟨(max x (x3 + 1) - (x3 + 1)).toNat, by omega⟩
    have he8 : e ≤ 8 := by omega
    obtain ⟨c1, p1, q1, q2, q3, q4⟩ := sg_in (R := R) (N := N) hco hN (k0 := fun x4 x5 x6 x7 o4 o5 o6 o7 => (br (ilt 0 x7)
        ((br (!x6)
          (((Zq65 N (o4.1, (o4.2.1, o4.2.2)) x7).bind fun r6 =>
            ((Zq80 N o7 (r6.1.1, x7)).bind fun r7 =>
              Zq66_l0 N k0 K x4 x5 x6 (IntKind.i64.wrap (x7 + 1)) r6.2.1 o5 o6 r7.1.1)))
          (Zq66_l0 N k0 K x4 x5 x6 (IntKind.i64.wrap (x7 + 1)) o4 o5 o6 o7)))
        (Zq66_l0 N k0 K x4 x5 x6 (IntKind.i64.wrap (x7 + 1)) o4 o5 o6 o7))) (x4 := x) (x5 := x1) (x6 := x2) (x7 := x3) (o5 := o1) (o6 := o2) e (x3 + 1) N k c o he (by omega) (by omega) (by omega) (by omega) hc (by omega) ho (by omega)
    rw [q1]
    simp only [hw]
    have keep : ∃ c' o', Zq66_l0 N k0 K x x1 x2 (x3 + 1) c1 o1 o2 p1 = k0 c' o1 o2 o' ∧ CurOk code (k + 20 * (d + 1)) c' ∧ pairsUp o' ∧ o'.length ≤ o.length + 10 * (d + 1) := by
      obtain ⟨c', o', r1, r2, r3, r4⟩ := ih (x3 + 1) K (k + 2 * e) c1 p1 (by omega) (by omega) (by omega) (by omega) q2 (by omega) q3 (by omega)
      exact ⟨c', o', r1, cur_mono r2 (by omega), r3, by omega⟩
    by_cases hz : 0 < x3
    · rw [ilt_t hz, br_t]
      cases x2 with
      | true => exact keep
      | false =>
        simp only [Bool.not_false, br_t]
        obtain ⟨y, c2, e1, e2, _⟩ := pick_ok (N := N) hco q2 (by omega) x3
        rw [show ((c1.1, (c1.2.1, c1.2.2)) : List Int × (Int × Int)) = c1 from rfl, e1, bind_some']
        simp only []
        obtain ⟨o3, p2, p3, p4, p5⟩ := putPair_eq (N := N) (e := (y, x3)) q3 (by omega) hN
        rw [p2, bind_some']
        simp only []
        obtain ⟨c', o', r1, r2, r3, r4⟩ := ih (x3 + 1) K (k + 2 * e + 2) c2 o3 (by omega) (by omega) (by omega) (by omega) e2 (by omega) p3 (by omega)
        exact ⟨c', o', r1, cur_mono r2 (by omega), r3, by omega⟩
    · rw [ilt_f hz, br_f]
      exact keep
noncomputable def sgTail (N : Nat) (o : List Int × (Int × Int)) (o2 : Int) (o3 : List (Int × Int)) : Option (((Int × List (Int × Int)) × Unit) × ((List Int × (Int × Int)) × Unit)) :=
  ((Zq65 N o 50).bind fun r6 =>
    (br (ieq r6.1.1 0)
      (((Zq59 N r6.2.1 [(-1), 8, 9, 0, 4611686018427387904]).bind fun r7 =>
        some (((r7.1.1, o3), ()), (r7.2.1, ()))))
      ((br (ieq r6.1.1 1)
        (((Zq65 N (r6.2.1.1, (r6.2.1.2.1, r6.2.1.2.2)) 4).bind fun r8 =>
          ((Zq65 N r8.2.1 9).bind fun r9 =>
            (chk (room o3 [(r8.1.1, (IntKind.i64.wrap (r9.1.1 - 1)))])
              (some (((o2, (tApp o3 [(r8.1.1, (IntKind.i64.wrap (r9.1.1 - 1)))])), ()), (r9.2.1, ())))))))
        ((br (ieq r6.1.1 2)
          ((br (ilt 0 (tLen o3))
            (((Zq65 N (r6.2.1.1, (r6.2.1.2.1, r6.2.1.2.2)) (tLen o3)).bind fun r10 =>
              (chk (inb o3 r10.1.1)
                (chk (room o3 [(rdP o3 r10.1.1)])
                (some (((o2, (tApp o3 [(rdP o3 r10.1.1)])), ()), (r10.2.1, ())))))))
            (some (((o2, o3), ()), (r6.2.1, ())))))
          (some (((o2, o3), ()), (r6.2.1, ())))))))))
theorem sgTail_ok {N : Nat} {code : List Int} {k : Nat} {c : List Int × (Int × Int)} {o2 : Int} {o3 : List (Int × Int)} (hco : codeOk code) (h : CurOk code k c) (hk : k ≤ 900000) (ho : o3.length ≤ 1000) :
    ∃ g c', sgTail N c o2 o3 = some ((g, ()), (c', ())) ∧ CurOk code (k + 10) c' ∧ g.2.length ≤ o3.length + 1 := by
  unfold sgTail
  obtain ⟨x, c1, e1, e2, _⟩ := pick_ok (N := N) hco h (by omega) 50
  rw [e1, bind_some']
  simp only [show ((c1.1, (c1.2.1, c1.2.2)) : List Int × (Int × Int)) = c1 from rfl]
  by_cases h0 : x = 0
  · rw [ieq_t h0, br_t]
    obtain ⟨y, c2, f1, f2, _⟩ := among_ok (N := N) hco e2 (by omega) (l := [(-1), 8, 9, 0, 4611686018427387904]) (by simp)
    rw [f1, bind_some']
    exact ⟨_, _, rfl, cur_mono f2 (by omega), by simp only []; omega⟩
  · rw [ieq_f h0, br_f]
    by_cases h1 : x = 1
    · rw [ieq_t h1, br_t]
      obtain ⟨y, c2, f1, f2, _⟩ := pick_ok (N := N) hco e2 (by omega) 4
      rw [f1, bind_some']
      simp only []
      obtain ⟨z, c3, g1, g2, _⟩ := pick_ok (N := N) hco f2 (by omega) 9
      rw [g1, bind_some']
      simp only []
      rw [room_ok (by simp; omega), chk_t]
      exact ⟨_, _, rfl, cur_mono g2 (by omega), by simp [tApp]⟩
    · rw [ieq_f h1, br_f]
      by_cases h2 : x = 2
      · rw [ieq_t h2, br_t, tLen_n]
        by_cases h3 : 0 < o3.length
        · rw [ilt_t (by omega), br_t]
          obtain ⟨y, c2, f1, f2, f3, _, f5⟩ := pick_ok (N := N) hco e2 (by omega) (o3.length : Int)
          rw [f1, bind_some']
          simp only []
          obtain ⟨n, rfl⟩ := Int.eq_ofNat_of_zero_le f3
          have hn : n < o3.length := by have := f5 (by omega); omega
          rw [inb_n hn, chk_t, room_ok (by simp; omega), chk_t]
          exact ⟨_, _, rfl, cur_mono f2 (by omega), by simp [tApp]⟩
        · rw [ilt_f (by omega), br_f]
          exact ⟨_, _, rfl, cur_mono e2 (by omega), by simp only []; omega⟩
      · rw [ieq_f h2, br_f]
        exact ⟨_, _, rfl, cur_mono e2 (by omega), by simp only []; omega⟩
theorem sg_fin {N : Nat} {code : List Int} {k : Nat} {c : List Int × (Int × Int)} {n x1 : Int} {x2 : Bool} (hco : codeOk code) (hN : 1048577 ≤ N) (h : CurOk code k c) (hk : k ≤ 100000) (hn : 0 ≤ n ∧ n ≤ 8) :
    ∃ g c', Zq66_l0 N (fun o o1 o2 o3 => sgTail N o o2 o3) N n x1 x2 0 c 0 n [] = some ((g, ()), (c', ())) ∧ CurOk code (k + 180) c' ∧ g.2.length ≤ 100 := by
  obtain ⟨d, hd⟩ : ∃ d : Nat, n = (d : Int) := ⟨n.toNat, by omega⟩
  obtain ⟨c1, o1, e1, e2, e3, e4⟩ := sg_out (N := N) hco hN (k0 := fun o o1 o2 o3 => sgTail N o o2 o3) (x := n) (x1 := x1) (x2 := x2) (o1 := 0) (o2 := n) hn.2 d 0 N k c [] (by omega) (by omega) (by omega) (by omega) h (by omega) List.Pairwise.nil (by simp; omega)
  simp at e4
  obtain ⟨g, c2, f1, f2, f3⟩ := sgTail_ok (N := N) (o2 := n) hco e2 (by omega) (show o1.length ≤ 1000 by omega)
  exact ⟨g, c2, e1.trans f1, cur_mono f2 (by omega), by omega⟩
theorem someGraph_ok {N : Nat} {code : List Int} {k : Nat} {c : List Int × (Int × Int)} {most : Int} (hco : codeOk code) (hN : 1048577 ≤ N) (h : CurOk code k c) (hk : k ≤ 90000) (hm : 6 ≤ most ∧ most ≤ 8) :
    ∃ g c', Zq66 N c most = some ((g, ()), (c', ())) ∧ CurOk code (k + 200) c' ∧ g.2.length ≤ 100 := by
  unfold Zq66
  obtain ⟨n, c1, a1, a2, a3⟩ := among_ok (N := N) hco h (by omega) (l := [4, 5, 3, 6, 2, 1, 0]) (by simp)
  rw [a1, bind_some']
  simp only []
  have hn : 0 ≤ n ∧ n ≤ 6 := by simp at a3; omega
  have rest : ∀ (n : Int) (kk : Nat) (c : List Int × (Int × Int)), 0 ≤ n → CurOk code kk c → kk ≤ k + 6 → ∃ g c', ((Zq69 N n most).bind fun r3 =>
      ((Zq59 N c [1, 3, 4, 6]).bind fun r4 =>
        ((Zq64 N r4.2.1 5).bind fun r5 =>
          Zq66_l0 N (fun o o1 o2 o3 => sgTail N o o2 o3) N r3.1.1 r4.1.1 r5.1.1 0 r5.2.1 0 r3.1.1 []))) = some ((g, ()), (c', ())) ∧ CurOk code (k + 200) c' ∧ g.2.length ≤ 100 := by
    intro n kk c hn hc hkk
    rw [l1Least_eq, bind_some']
    simp only []
    obtain ⟨y, c2, b1, b2, _⟩ := among_ok (N := N) hco hc (by omega) (l := [1, 3, 4, 6]) (by simp)
    rw [b1, bind_some']
    simp only []
    obtain ⟨b, c3, d1, d2⟩ := one_ok (N := N) hco b2 (by omega) 5
    rw [d1, bind_some']
    simp only []
    have hr : 0 ≤ (if n < most then n else most) ∧ (if n < most then n else most) ≤ 8 := by split <;> omega
    obtain ⟨g, c', f1, f2, f3⟩ := sg_fin (N := N) (x1 := y) (x2 := b) hco hN d2 (by omega) hr
    exact ⟨g, c', f1, cur_mono f2 (by omega), f3⟩
  by_cases h6 : 6 < most
  · rw [ilt_t h6, br_t]
    obtain ⟨b, c2, d1, d2⟩ := one_ok (N := N) hco a2 (by omega) 4
    rw [d1, bind_some']
    simp only []
    cases b with
    | true =>
      rw [br_t]
      obtain ⟨y, c3, e1, e2, e3, e4, e5⟩ := pick_ok (N := N) hco d2 (by omega) 2
      rw [e1, bind_some']
      simp only []
      have := e5 (by omega)
      rw [wrap_ok (by omega) (by omega)]
      exact rest (7 + y) _ c3 (by omega) e2 (by omega)
    | false =>
      rw [br_f]
      exact rest n _ c2 hn.1 d2 (by omega)
  · rw [ilt_f h6, br_f]
    exact rest n _ c1 hn.1 a2 (by omega)
theorem graph_ok {N : Nat} {code : List Int} {k : Nat} {c : List Int × (Int × Int)} (hco : codeOk code) (hN : 1048577 ≤ N) (h : CurOk code k c) (hk : k ≤ 90000) : ∃ g c', Zq62 N c = some ((g, ()), (c', ())) ∧ CurOk code (k + 200) c' ∧ g.2.length ≤ 100 := by
  unfold Zq62
  obtain ⟨g, c', e1, e2, e3⟩ := someGraph_ok (N := N) (most := 6) hco hN h hk (by omega)
  rw [e1, bind_some']
  exact ⟨g, c', rfl, e2, e3⟩
theorem good_up {g : Int × List (Int × Int)} (h : goodG g) : pairsUp g.2 := by
  unfold pairsUp
  rw [List.pairwise_iff_getElem]
  intro i j hi hj hij
  have key : ∀ d, ∀ (h2 : i + d + 1 < g.2.length), edgeLt g.2[i] g.2[i + d + 1] := by
    intro d
    induction d with
    | zero =>
      intro h2
      have := (h.2 (i + 1) h2).2 (by omega)
      rw [show i + 1 - 1 = i by omega, rdP_n hi, rdP_n h2] at this
      exact this
    | succ d ih =>
      intro h2
      have h3 := ih (by omega)
      have := (h.2 (i + d + 1 + 1) h2).2 (by omega)
      rw [show i + d + 1 + 1 - 1 = i + d + 1 by omega, rdP_n (show i + d + 1 < g.2.length by omega), rdP_n (show i + d + 1 + 1 < g.2.length by omega)] at this
      exact edgeLt_trans h3 this
  have h4 := key (j - i - 1) (by omega)
  have e : i + (j - i - 1) + 1 = j := by omega
  simp only [e] at h4
  exact h4
theorem dense_loop {R : Type} {N m : Nat} (hm : m ≤ 8) (hN : 1048577 ≤ N) {k0 : List Int × (Int × Int) → Int → Int → List (Int × Int) → Option R} {c : List Int × (Int × Int)} {o1 : Int} :
    ∀ (d x K : Nat) (o : List (Int × Int)), x + d = max m x → 1 ≤ x → x ≤ 100 → d < K → pairsUp o → o.length + d ≤ 1048576 → ∃ o', Zq61_l0 N k0 K (x : Int) c o1 (m : Int) o = k0 c o1 (m : Int) o' ∧ o'.length ≤ o.length + d := by
  intro d
  induction d with
  | zero =>
    intro x K o hd h1 h100 hK ho hl
    obtain ⟨K, rfl⟩ := succ_of hK
    refine ⟨o, ?_, by omega⟩
    simp only [Zq61_l0, ilt_nf (show ¬ x < m by omega), br_f]
  | succ d ih =>
    intro x K o hd h1 h100 hK ho hl
    obtain ⟨K, rfl⟩ := succ_of hK
    simp only [Zq61_l0, ilt_n (show x < m by omega), br_t]
    rw [l2Neighbors_eq hm (by omega) hN, bind_some']
    simp only []
    rw [wrap_succ (by omega)]
    by_cases h2 : tLen (nbr m o (x : Int)) < 2
    · rw [ilt_t h2, br_t]
      obtain ⟨o1', p1, p2, p3, p4⟩ := putPair_eq (N := N) (e := (IntKind.i64.wrap ((x : Int) - 1), (x : Int))) ho (by omega) hN
      rw [p1, bind_some']
      simp only []
      obtain ⟨o', q1, q2⟩ := ih (x + 1) K o1' (by omega) (by omega) (by omega) (by omega) p2 (by omega)
      exact ⟨o', q1, by omega⟩
    · rw [ilt_f h2, br_f]
      obtain ⟨o', q1, q2⟩ := ih (x + 1) K o (by omega) (by omega) (by omega) (by omega) ho (by omega)
      exact ⟨o', q1, by omega⟩
theorem dense5_ok {N : Nat} {code : List Int} {k : Nat} {c : List Int × (Int × Int)} (hco : codeOk code) (hN : 1048577 ≤ N) (h : CurOk code k c) (hk : k ≤ 90000) : ∃ g c', Zq61 N c = some ((g, ()), (c', ())) ∧ CurOk code (k + 210) c' ∧ g.2.length ≤ 110 := by
  unfold Zq61
  obtain ⟨g, c1, e1, e2, e3⟩ := graph_ok (N := N) hco hN h hk
  rw [e1, bind_some']
  simp only [show ((g.1, g.2) : Int × List (Int × Int)) = g from rfl]
  rw [l2Good_eq (by omega) hN, bind_some']
  by_cases hg : goodG g
  · rw [decide_eq_true hg]
    simp only [Bool.not_true, br_f]
    obtain ⟨b, c2, f1, f2⟩ := one_ok (N := N) hco e2 (by omega) 4
    rw [f1, bind_some']
    cases b with
    | true =>
      simp only [br_t]
      exact ⟨g, c2, rfl, cur_mono f2 (by omega), by omega⟩
    | false =>
      simp only [br_f]
      have hg1 := hg.1
      obtain ⟨m, hm⟩ : ∃ m : Nat, g.1 = (m : Int) := ⟨g.1.toNat, by omega⟩
      rw [hm]
      obtain ⟨o', q1, q2⟩ := dense_loop (N := N) (m := m) (by omega) hN (k0 := fun o o1 o2 o3 => some (((o2, o3), ()), (o, ()))) (c := c2) (o1 := 0) (max m 1 - 1) 1 N g.2 (by omega) (by omega) (by omega) (by omega) (good_up hg) (by omega)
      exact ⟨((m : Int), o'), c2, q1, cur_mono f2 (by omega), by simp only []; omega⟩
  · rw [decide_eq_false hg]
    exact ⟨g, c1, rfl, cur_mono e2 (by omega), by omega⟩
theorem cur0 {code : List Int} : CurOk code 0 (code, (0, 0)) := ⟨rfl, Int.le_refl _, by simp⟩
theorem vCut_ok {N : Nat} {code : List Int} {n : Int} (hco : codeOk code) (hl : code.length ≤ 65536) (hn : 0 ≤ n) : ∃ code', Zq38 N code n = some ((code', ()), ()) ∧ codeOk code' := by
  unfold Zq38
  have fin : ∀ l : Nat, l ≤ code.length → ∀ v : Int, 0 ≤ v → codeOk (tApp (tApp [] (tCut code (l : Int) (tLen code))) [IntKind.u8.wrap v]) ∧ room (α := Int) (β := Int) [] (tCut code (l : Int) (tLen code)) = true ∧ room (tApp [] (tCut code (l : Int) (tLen code))) [IntKind.u8.wrap v] = true := by
    intro l hll v hv
    have hlen : (tCut code (l : Int) (tLen code)).length ≤ code.length := by simp [tCut, tLen]
    have hw : 0 ≤ IntKind.u8.wrap v ∧ IntKind.u8.wrap v ≤ 255 := by
      unfold IntKind.wrap
      simp only [IntKind.signed, IntKind.bits]
      have h1 := Int.emod_nonneg v (b := 2 ^ 8) (by decide)
      have h2 := Int.emod_lt_of_pos v (b := 2 ^ 8) (by decide)
      simp at h1 h2 ⊢
      omega
    refine ⟨⟨by simp [tApp]; omega, fun x hx => ?_⟩, room_ok (by simp; omega), room_ok (by simp [tApp]; omega)⟩
    simp only [tApp, List.nil_append, List.mem_append, List.mem_singleton] at hx
    rcases hx with hx | rfl
    · unfold tCut at hx
      exact hco.2 x (List.mem_of_mem_take (List.mem_of_mem_drop hx))
    · exact hw
  by_cases h : tLen code < n
  · rw [ilt_t h, br_t]
    obtain ⟨f1, f2, f3⟩ := fin code.length (Nat.le_refl _) (code.length : Int) (by omega)
    simp only [tLen_n] at f1 f2 f3 ⊢
    rw [ile_t (by omega), ile_t (Int.le_refl _)]
    simp only [Bool.and_self, chk_t]
    rw [f2, chk_t, f3, chk_t]
    exact ⟨_, rfl, f1⟩
  · rw [ilt_f h, br_f]
    obtain ⟨l, rfl⟩ := Int.eq_ofNat_of_zero_le hn
    have hll : l ≤ code.length := by rw [tLen_n] at h; omega
    obtain ⟨f1, f2, f3⟩ := fin l hll (l : Int) (by omega)
    rw [tLen_n] at f1 f2 f3 ⊢
    rw [ile_t (by omega), ile_t (show (l : Int) ≤ (code.length : Int) by omega), ile_t (Int.le_refl _)]
    simp only [Bool.and_self, chk_t]
    rw [f2, chk_t, f3, chk_t]
    exact ⟨_, rfl, f1⟩
theorem vInts_l0_eq {R : Type} (N : Nat) (k0 : Bool → Option R) (k1 : Unit → Option R) (a b : List Int) (hx : a.length ≤ 1099511627776) (hl : a.length = b.length) : ∀ (d n : Nat) (K : Nat), n + d = a.length → d < K →
    Zq39_l0 N k0 k1 K a b n = if a.drop n = b.drop n then k1 () else k0 false := by
  intro d
  induction d with
  | zero =>
    intro n K hd hK
    obtain ⟨k, rfl⟩ := succ_of hK
    have hn : ¬ n < a.length := by omega
    simp only [Zq39_l0, ilt_lenf hn, br_f]
    rw [if_pos]
    rw [List.drop_of_length_le (by omega), List.drop_of_length_le (by omega)]
  | succ d ih =>
    intro n K hd hK
    obtain ⟨k, rfl⟩ := succ_of hK
    have hn : n < a.length := by omega
    have hnb : n < b.length := by omega
    simp only [Zq39_l0, ilt_len hn, inb_n hn, inb_n hnb, br_t, chk_t]
    rw [wrap_succ (by omega), rdI_n hn, rdI_n hnb, ih (n + 1) k (by omega) (by omega), drop_cons hn, drop_cons hnb]
    by_cases he : a[n] = b[n]
    · rw [ine_f he, br_f, he]
      simp only [List.cons.injEq, true_and]
    · rw [ine_t he, br_t, if_neg]
      intro h
      injection h with h _
      exact he h
theorem vInts_eq {N : Nat} {a b : List Int} (hx : a.length ≤ 1099511627776) (hN : a.length < N) : Zq39 N a b = some ((decide (a = b), ()), ()) := by
  unfold Zq39
  simp only [tLen_n]
  by_cases hl : a.length = b.length
  · rw [ine_f (by omega), br_f]
    have := vInts_l0_eq N (fun x => some ((x, ()), ())) (fun _ => some ((true, ()), ())) a b hx hl a.length 0 N (by omega) (by omega)
    simp only [Int.natCast_zero, List.drop_zero] at this
    rw [this]
    by_cases h : a = b <;> simp [h]
  · rw [ine_t (by omega), br_t]
    have : a ≠ b := fun h => hl (by rw [h])
    simp [this]
theorem code_ok {x : List Int} (h : ∀ y ∈ x, (Lit.int .u8 y).wf = true) (hl : x.length ≤ 65536) : codeOk x := by
  refine ⟨by omega, fun y hy => ?_⟩
  have := h y hy
  simp [Lit.wf, IntKind.min, IntKind.max, IntKind.signed, IntKind.bits] at this
  omega
theorem apart_symm {a b : List Int} (h : a.length = b.length) : apartL a b = apartL b a := by
  unfold apartL
  rw [h]
  congr 1
  refine List.filter_congr fun i _ => decide_eq_decide.2 ⟨Ne.symm, Ne.symm⟩
theorem mem_apart {a b : List Int} {x : Int} : x ∈ apartL a b ↔ ∃ i : Nat, i < a.length ∧ rdI a (i : Int) ≠ rdI b (i : Int) ∧ x = (i : Int) := by
  unfold apartL
  rw [List.mem_map]
  constructor
  · rintro ⟨i, hi, rfl⟩
    obtain ⟨h1, h2⟩ := List.mem_filter.1 hi
    have := List.mem_range'_1.1 h1
    exact ⟨i, by omega, of_decide_eq_true h2, rfl⟩
  · rintro ⟨i, h1, h2, rfl⟩
    exact ⟨i, List.mem_filter.2 ⟨List.mem_range'_1.2 (by omega), decide_eq_true h2⟩, rfl⟩
theorem apart_nodup (a b : List Int) : (apartL a b).Nodup := by
  unfold apartL
  refine List.Pairwise.map (R := fun (i j : Nat) => i ≠ j) _ (fun i j h e => h (by omega)) ?_
  exact (List.nodup_range' (step := 1)).filter _
theorem rd_ext {a b : List Int} (h : a.length = b.length) (he : ∀ i : Nat, i < a.length → rdI a (i : Int) = rdI b (i : Int)) : a = b := by
  refine List.ext_getElem h fun i h1 h2 => ?_
  have := he i h1
  rwa [rdI_n h1, rdI_n h2] at this
theorem step_near {xs : List (List Int)} {p : List Int → List Int → Bool} {x y : List Int} (hp : ∀ x ∈ xs, ∀ y ∈ xs, p x y = true → p y x = true) (hx : x ∈ xs) (hy : y ∈ xs) (hne : x ≠ y) (h : p x y = true) : ((xs.idxOf y : Nat) : Int) ∈ rdL (nbL xs.length (stepsL p xs)) ((xs.idxOf x : Nat) : Int) := by
  have i1 := idx_lt hx
  have i2 := idx_lt hy
  have r1 := idx_rd hx
  have r2 := idx_rd hy
  rw [nbL_rd (in_nat i1), mem_nbS stepsL_ok]
  have hni : xs.idxOf x ≠ xs.idxOf y := fun e => hne (by rw [← r1, ← r2, e])
  by_cases hlt : xs.idxOf x < xs.idxOf y
  · exact .inr (mem_stepsL.2 ⟨_, _, rfl, hlt, i2, by rw [r1, r2]; exact h⟩)
  · exact .inl (mem_stepsL.2 ⟨_, _, rfl, by omega, i1, by rw [r1, r2]; exact hp x hx y hy h⟩)
theorem isCh_symm {a b : List Int} (h : a.length = b.length) (hc : isCh a b = true) : isCh b a = true := by
  unfold isCh at *
  rw [apart_symm h.symm]
  exact hc
def upd (f : Nat → Int) (v : Nat) (c : Int) : Nat → Int := fun u => if u = v then c else f u
def agreeS (S : List Nat) (f g : Nat → Int) : Prop := ∀ v ∈ S, f v = g v
def prS (es : List (Int × Int)) (k : Int) (S : List Nat) (f : Nat → Int) : Prop := ∀ v ∈ S, (0 ≤ f v ∧ f v < k) ∧ ∀ u ∈ S, nearG es (u : Int) (v : Int) → f u ≠ f v
theorem prS_agree {es : List (Int × Int)} {k : Int} {S : List Nat} {f g : Nat → Int} (h : agreeS S f g) (hf : prS es k S f) : prS es k S g := fun v hv => by
  obtain ⟨h1, h2⟩ := hf v hv
  refine ⟨by rw [← h v hv]; exact h1, fun u hu hn => ?_⟩
  rw [← h v hv, ← h u hu]
  exact h2 u hu hn
theorem prS_tail {es : List (Int × Int)} {k : Int} {v : Nat} {S : List Nat} {f : Nat → Int} (h : prS es k (v :: S) f) : prS es k S f := fun w hw => ⟨(h w (List.mem_cons_of_mem _ hw)).1, fun u hu => (h w (List.mem_cons_of_mem _ hw)).2 u (List.mem_cons_of_mem _ hu)⟩
inductive ChS (es : List (Int × Int)) (k : Int) (S : List Nat) (f : Nat → Int) : (Nat → Int) → Prop
  | base : ChS es k S f f
  | step {g : Nat → Int} {v : Nat} {c : Int} : ChS es k S f g → v ∈ S → prS es k S (upd g v c) → ChS es k S f (upd g v c)
theorem free_colour {k : Nat} {l : List Int} (h : l.length < k) : ∃ c : Int, 0 ≤ c ∧ c < (k : Int) ∧ c ∉ l := by
  refine Classical.byContradiction fun hno => ?_
  have hall : ∀ c ∈ (List.range k).map (fun i : Nat => (i : Int)), c ∈ l := fun c hc => by
    obtain ⟨i, hi, rfl⟩ := List.mem_map.1 hc
    exact Classical.byContradiction fun h => hno ⟨(i : Int), by omega, by have := List.mem_range.1 hi; omega, h⟩
  have hnd : ((List.range k).map (fun i : Nat => (i : Int))).Nodup := List.Pairwise.map (R := fun (i j : Nat) => i ≠ j) _ (fun i j h e => h (by omega)) List.nodup_range
  have := nodup_le hnd hall
  simp at this
  omega
noncomputable def nbIn (es : List (Int × Int)) (S : List Nat) (v : Nat) : List Nat := S.filter fun u => decide (nearG es (u : Int) (v : Int))
theorem mem_nbIn {es : List (Int × Int)} {S : List Nat} {u v : Nat} : u ∈ nbIn es S v ↔ u ∈ S ∧ nearG es (u : Int) (v : Int) := by
  unfold nbIn
  rw [List.mem_filter, decide_eq_true_eq]
theorem upd_same (f : Nat → Int) (v : Nat) (c : Int) : upd f v c v = c := by unfold upd; rw [if_pos rfl]
theorem upd_other {f : Nat → Int} {u v : Nat} {c : Int} (h : u ≠ v) : upd f v c u = f u := by unfold upd; rw [if_neg h]
theorem prS_upd {es : List (Int × Int)} {k : Int} {v : Nat} {S : List Nat} {f : Nat → Int} {c : Int} (hl : ¬ nearG es (v : Int) (v : Int)) (h : prS es k (v :: S) f) (hc : 0 ≤ c ∧ c < k) (hn : ∀ u ∈ S, nearG es (u : Int) (v : Int) → f u ≠ c) : prS es k (v :: S) (upd f v c) := by
  intro w hw
  by_cases e : w = v
  · subst e
    rw [upd_same]
    refine ⟨hc, fun u hu hnu => ?_⟩
    by_cases e2 : u = w
    · subst e2; exact absurd hnu hl
    · rw [upd_other e2]
      exact hn u ((List.mem_cons.1 hu).resolve_left e2) hnu
  · rw [upd_other e]
    obtain ⟨h1, h2⟩ := h w hw
    refine ⟨h1, fun u hu hnu => ?_⟩
    by_cases e2 : u = v
    · subst e2
      rw [upd_same]
      exact fun q => hn w ((List.mem_cons.1 hw).resolve_left e) (nearG_symm.1 hnu) q.symm
    · rw [upd_other e2]
      exact h2 u hu hnu
theorem lift_ch {es : List (Int × Int)} {k d : Nat} {v : Nat} {S : List Nat} (hl : ∀ u : Nat, ¬ nearG es (u : Int) (u : Int)) (hv : v ∉ S) (hd : (nbIn es S v).length ≤ d) (hk : d + 2 ≤ k) {f g : Nat → Int} (hf : prS es (k : Int) (v :: S) f) (h : ChS es (k : Int) S f g) :
    ∃ g', ChS es (k : Int) (v :: S) f g' ∧ agreeS S g' g ∧ prS es (k : Int) (v :: S) g' := by
  induction h with
  | base => exact ⟨f, .base, fun _ _ => rfl, hf⟩
  | @step g u c _ hu hp ih =>
    obtain ⟨g', h1, h2, h3⟩ := ih
    have huv : u ≠ v := fun e => hv (e ▸ hu)
    have hcr := (hp u hu).1
    rw [upd_same] at hcr
    -- the change where the node ahead does not hinder it
    have go : ∀ q : Nat → Int, ChS es (k : Int) (v :: S) f q → agreeS S q g → prS es (k : Int) (v :: S) q → (nearG es (u : Int) (v : Int) → q v ≠ c) → ∃ g', ChS es (k : Int) (v :: S) f g' ∧ agreeS S g' (upd g u c) ∧ prS es (k : Int) (v :: S) g' := by
      intro q c1 c2 c3 c4
      have hpq : prS es (k : Int) (v :: S) (upd q u c) := by
        intro w hw
        by_cases e : w = u
        · subst e
          rw [upd_same]
          refine ⟨hcr, fun z hz hn => ?_⟩
          by_cases e2 : z = w
          · subst e2; exact absurd hn (hl _)
          · rw [upd_other e2]
            rcases List.mem_cons.1 hz with rfl | hz
            · exact c4 (nearG_symm.1 hn)
            · have := (hp w hu).2 z hz hn
              rw [upd_same, upd_other e2] at this
              rw [c2 z hz]
              exact this
        · rw [upd_other e]
          obtain ⟨i1, i2⟩ := c3 w hw
          refine ⟨i1, fun z hz hn => ?_⟩
          by_cases e2 : z = u
          · subst e2
            rw [upd_same]
            rcases List.mem_cons.1 hw with rfl | hw
            · exact fun q' => c4 hn q'.symm
            · have := (hp w hw).2 z hu hn
              rw [upd_same, upd_other e] at this
              rw [c2 w hw]
              exact this
          · rw [upd_other e2]
            exact i2 z hz hn
      refine ⟨upd q u c, .step c1 (List.mem_cons_of_mem _ hu) hpq, fun w hw => ?_, hpq⟩
      by_cases e : w = u
      · subst e; rw [upd_same, upd_same]
      · rw [upd_other e, upd_other e]; exact c2 w hw
    by_cases hc : nearG es (u : Int) (v : Int) ∧ g' v = c
    · obtain ⟨c2, r1, r2, r3⟩ := free_colour (k := k) (l := c :: (nbIn es S v).map g') (by simp; omega)
      have hne : c2 ≠ c := fun e => r3 (e ▸ List.mem_cons_self ..)
      have hpu := prS_upd (c := c2) (hl v) h3 ⟨r1, r2⟩ fun z hz hn e => r3 (List.mem_cons_of_mem _ (List.mem_map.2 ⟨z, mem_nbIn.2 ⟨hz, hn⟩, e⟩))
      refine go (upd g' v c2) (.step h1 (List.mem_cons_self ..) hpu) (fun w hw => ?_) hpu fun _ => by rw [upd_same]; exact hne
      rw [upd_other (fun (e : w = v) => hv (e ▸ hw))]
      exact h2 w hw
    · exact go g' h1 h2 h3 fun hn e => hc ⟨hn, e⟩
def peels (es : List (Int × Int)) (d : Nat) : List Nat → Prop
  | [] => True
  | v :: S => v ∉ S ∧ (nbIn es S v).length ≤ d ∧ peels es d S
theorem ch_all {es : List (Int × Int)} {k d : Nat} (hl : ∀ u : Nat, ¬ nearG es (u : Int) (u : Int)) (hk : d + 2 ≤ k) : ∀ {S : List Nat}, peels es d S → ∀ {f g : Nat → Int}, prS es (k : Int) S f → prS es (k : Int) S g → ∃ g', ChS es (k : Int) S f g' ∧ agreeS S g' g := by
  intro S
  induction S with
  | nil => intro _ f g _ _; exact ⟨f, .base, fun v hv => by cases hv⟩
  | cons v S ih =>
    intro hp f g hf hg
    obtain ⟨p1, p2, p3⟩ := hp
    obtain ⟨g1, h1, h2⟩ := ih p3 (prS_tail hf) (prS_tail hg)
    obtain ⟨g2, c1, c2, c3⟩ := lift_ch hl p1 p2 hk hf h1
    have hag : agreeS S g2 g := fun w hw => (c2 w hw).trans (h2 w hw)
    have hagu : agreeS (v :: S) (upd g2 v (g v)) g := fun w hw => by
      by_cases e : w = v
      · subst e; rw [upd_same]
      · rw [upd_other e]; exact hag w ((List.mem_cons.1 hw).resolve_left e)
    exact ⟨upd g2 v (g v), .step c1 (List.mem_cons_self ..) (prS_agree (fun w hw => (hagu w hw).symm) hg), hagu⟩
theorem col_some {es : List (Int × Int)} {k d : Nat} (hl : ∀ u : Nat, ¬ nearG es (u : Int) (u : Int)) (hk : d + 1 ≤ k) : ∀ {S : List Nat}, peels es d S → ∃ f, prS es (k : Int) S f := by
  intro S
  induction S with
  | nil => intro _; exact ⟨fun _ => 0, fun v hv => by cases hv⟩
  | cons v S ih =>
    intro hp
    obtain ⟨p1, p2, p3⟩ := hp
    obtain ⟨f, hf⟩ := ih p3
    obtain ⟨c, r1, r2, r3⟩ := free_colour (k := k) (l := (nbIn es S v).map f) (by simp; omega)
    refine ⟨upd f v c, fun w hw => ?_⟩
    by_cases e : w = v
    · subst e
      rw [upd_same]
      refine ⟨⟨r1, r2⟩, fun u hu hn => ?_⟩
      by_cases e2 : u = w
      · subst e2; exact absurd hn (hl _)
      · rw [upd_other e2]
        exact fun q => r3 (List.mem_map.2 ⟨u, mem_nbIn.2 ⟨(List.mem_cons.1 hu).resolve_left e2, hn⟩, q⟩)
    · rw [upd_other e]
      have hwS := (List.mem_cons.1 hw).resolve_left e
      refine ⟨(hf w hwS).1, fun u hu hn => ?_⟩
      by_cases e2 : u = v
      · subst e2
        rw [upd_same]
        exact fun q => r3 (List.mem_map.2 ⟨w, mem_nbIn.2 ⟨hwS, nearG_symm.1 hn⟩, q.symm⟩)
      · rw [upd_other e2]
        exact (hf w hwS).2 u ((List.mem_cons.1 hu).resolve_left e2) hn
theorem peels_nodup {es : List (Int × Int)} {d : Nat} : ∀ {S : List Nat}, peels es d S → S.Nodup := by
  intro S
  induction S with
  | nil => intro _; exact List.nodup_nil
  | cons v S ih => intro h; exact List.nodup_cons.2 ⟨h.1, ih h.2.2⟩
def preC (es : List (Int × Int)) (b : List Int) : Prop := ∀ i : Nat, i < b.length → freeC es (b.take i) (rdI b (i : Int))
theorem moreC_free {k : Nat} {es : List (Int × Int)} : ∀ (d : Nat) (b : List Int) (l : List (List Int)), preC es b → (∀ x ∈ l, preC es x) → ∀ x ∈ moreC k es d b l, preC es x := by
  intro d
  induction d with
  | zero =>
    intro b l hb h x hx
    simp only [moreC, List.mem_append, List.mem_singleton] at hx
    rcases hx with hx | rfl
    · exact h x hx
    · exact hb
  | succ d ih =>
    intro b l hb h
    unfold moreC
    refine stepsC_inv (p := fun l => ∀ x ∈ l, preC es x) (fun c l h1 h2 => ?_) k 0 l h
    by_cases hf : freeC es b (c : Int)
    · rw [if_pos hf]
      refine ih _ _ (fun i hi => ?_) h2
      by_cases hib : i < b.length
      · rw [List.take_append_of_le_length (by omega), rdI_n hi, List.getElem_append_left hib, ← rdI_n hib]
        exact hb i hib
      · have e : i = b.length := by simp at hi; omega
        subst e
        rw [List.take_left, rdI_n hi, List.getElem_concat_length rfl]
        exact hf
    · rw [if_neg hf]; exact h2
theorem allC_proper {g : Int × List (Int × Int)} {k : Int} {x : List Int} (hk : colCase g k) (hx : x ∈ allC g k) : proper g k x := by
  have hg := hk.1.1
  have hl := allC_rows x hx
  refine ⟨by omega, fun z hz => ?_, fun e he => ?_⟩
  · have := (allC_sorted g k).2 x hx z hz
    have := hk.2
    omega
  · have hp := moreC_free (k := k.toNat) (es := g.2) g.1.toNat [] [] (fun i hi => by cases hi) (by simp) x hx
    have hee := goodG_edges hk.1 e he
    obtain ⟨a, ha⟩ : ∃ a : Nat, e.1 = (a : Int) := ⟨e.1.toNat, by omega⟩
    obtain ⟨b, hb⟩ : ∃ b : Nat, e.2 = (b : Int) := ⟨e.2.toNat, by omega⟩
    have hbl : b < x.length := by omega
    have hlt : (x.take b).length = b := by simp; omega
    have := hp b hbl a (by omega)
    rw [rdI_take (by omega) (by omega), hlt] at this
    rw [ha, hb]
    exact fun q => this ⟨q, .inl (by rw [← ha, ← hb]; exact he)⟩
noncomputable def toL (m : Nat) (f : Nat → Int) : List Int := (List.range m).map f
theorem toL_len (m : Nat) (f : Nat → Int) : (toL m f).length = m := by simp [toL]
theorem toL_rd {m : Nat} {f : Nat → Int} {i : Nat} (hi : i < m) : rdI (toL m f) (i : Int) = f i := by
  rw [rdI_n (by rw [toL_len]; exact hi)]
  simp [toL]
theorem toL_of {m : Nat} {a : List Int} (h : a.length = m) : toL m (fun v : Nat => rdI a (v : Int)) = a := rd_ext (by rw [toL_len, h]) fun i hi => by
  rw [toL_len] at hi
  exact toL_rd hi
theorem toL_agree {m : Nat} {S : List Nat} (hS : ∀ v, v ∈ S ↔ v < m) {f g : Nat → Int} (h : agreeS S f g) : toL m f = toL m g := rd_ext (by rw [toL_len, toL_len]) fun i hi => by
  rw [toL_len] at hi
  rw [toL_rd hi, toL_rd hi]
  exact h i ((hS i).2 hi)
theorem proper_prS {g : Int × List (Int × Int)} {k : Int} {S : List Nat} (hg : goodG g) (hS : ∀ v, v ∈ S ↔ v < g.1.toNat) {a : List Int} (h : proper g k a) : prS g.2 k S (fun v : Nat => rdI a (v : Int)) := by
  intro v hv
  have hvm := (hS v).1 hv
  have hl : a.length = g.1.toNat := by have := h.1; omega
  have := h.2.1 _ (List.getElem_mem (show v < a.length by omega))
  rw [← rdI_n (show v < a.length by omega)] at this
  refine ⟨by show 0 ≤ rdI a (v : Int) ∧ rdI a (v : Int) < k; omega, fun u hu hn => ?_⟩
  rcases hn with hn | hn
  · exact h.2.2 _ hn
  · exact fun q => h.2.2 _ hn q.symm
theorem prS_proper {g : Int × List (Int × Int)} {k : Int} {S : List Nat} (hg : goodG g) (hS : ∀ v, v ∈ S ↔ v < g.1.toNat) {f : Nat → Int} (h : prS g.2 k S f) : proper g k (toL g.1.toNat f) := by
  have hg1 := hg.1
  refine ⟨by rw [toL_len]; omega, fun z hz => ?_, fun e he => ?_⟩
  · obtain ⟨i, hi, rfl⟩ := List.mem_map.1 hz
    have := (h i ((hS i).2 (List.mem_range.1 hi))).1
    omega
  · have hee := goodG_edges hg e he
    obtain ⟨a, ha⟩ : ∃ a : Nat, e.1 = (a : Int) := ⟨e.1.toNat, by omega⟩
    obtain ⟨b, hb⟩ : ∃ b : Nat, e.2 = (b : Int) := ⟨e.2.toNat, by omega⟩
    rw [ha, hb, toL_rd (by omega), toL_rd (by omega)]
    exact (h b ((hS b).2 (by omega))).2 a ((hS a).2 (by omega)) (.inl (by rw [← ha, ← hb]; exact he))
theorem cnt_one {L : List (List Int)} {n : Nat} (hn : 0 < n) (h : ∀ i j : Nat, i < n → j < n → Wk L (i : Int) (j : Int)) : cntN L n = 1 := by
  unfold cntN
  obtain ⟨m, rfl⟩ : ∃ m, n = m + 1 := ⟨n - 1, by omega⟩
  rw [List.range_succ_eq_map, List.filter_cons_of_pos (by simp), List.filter_eq_nil_iff.2 (fun x hx => ?_)]
  · rfl
  · obtain ⟨i, hi, rfl⟩ := List.mem_map.1 hx
    have := List.mem_range.1 hi
    simp only [decide_eq_true_eq]
    exact fun q => q 0 (by omega) (h 0 (i + 1) (by omega) (by omega))
theorem peelCh {g : Int × List (Int × Int)} {k : Int} {d : Nat} {S : List Nat} (hk : colCase g k) (hl : (allC g k).length ≤ 300) (hS : ∀ v, v ∈ S ↔ v < g.1.toNat) (hp : peels g.2 d S) (hd : (d : Int) + 2 ≤ k) {a b : List Int} (ha : a ∈ allC g k) (hb : b ∈ allC g k) :
    Wk (nbL (allC g k).length (stepsL isCh (allC g k))) (((allC g k).idxOf a : Nat) : Int) (((allC g k).idxOf b : Nat) : Int) := by
  have hg := hk.1
  have hloop : ∀ u : Nat, ¬ nearG g.2 (u : Int) (u : Int) := fun u h => by
    rcases h with h | h <;> · have := goodG_edges hg _ h; simp at this
  have pa := allC_proper hk ha
  have pb := allC_proper hk hb
  have hkk : ((k.toNat : Nat) : Int) = k := by have := hk.2; omega
  have fa := proper_prS hg hS pa
  have fb := proper_prS hg hS pb
  rw [← hkk] at fa fb
  obtain ⟨g', h1, h2⟩ := ch_all hloop (show d + 2 ≤ k.toNat by omega) hp fa fb
  have hpsym : ∀ x ∈ allC g k, ∀ y ∈ allC g k, isCh x y = true → isCh y x = true := fun x hx y hy h => isCh_symm (by rw [allC_rows x hx, allC_rows y hy]) h
  have key : ∀ {q : Nat → Int}, ChS g.2 ((k.toNat : Nat) : Int) S (fun v : Nat => rdI a (v : Int)) q → prS g.2 ((k.toNat : Nat) : Int) S q ∧ Wk (nbL (allC g k).length (stepsL isCh (allC g k))) (((allC g k).idxOf a : Nat) : Int) (((allC g k).idxOf (toL g.1.toNat q) : Nat) : Int) := by
    intro q hq
    induction hq with
    | base => exact ⟨fa, by rw [toL_of (allC_rows a ha)]; exact .base⟩
    | @step q v c _ hv hpr ih =>
      obtain ⟨i1, i2⟩ := ih
      refine ⟨hpr, ?_⟩
      have m1 := mem_allC hk hl (prS_proper hg hS (by rw [← hkk]; exact i1))
      have m2 := mem_allC hk hl (prS_proper hg hS (by rw [← hkk]; exact hpr))
      have hvm := (hS v).1 hv
      by_cases e : q v = c
      · have : upd q v c = q := by
          funext u
          unfold upd
          split
          · rename_i h; rw [h, e]
          · rfl
        rw [this]
        exact i2
      · refine .step i2 (step_near hpsym m1 m2 (fun q' => e ?_) (decide_eq_true ?_))
        · have h0 : rdI (toL g.1.toNat q) (v : Int) = rdI (toL g.1.toNat (upd q v c)) (v : Int) := by rw [q']
          rw [toL_rd hvm, toL_rd hvm, upd_same] at h0
          exact h0
        · have hp1 : (apartL (toL g.1.toNat q) (toL g.1.toNat (upd q v c))).Perm [(v : Int)] := (List.perm_ext_iff_of_nodup (apart_nodup ..) (by simp)).2 fun z => by
            rw [mem_apart, List.mem_singleton, toL_len]
            constructor
            · rintro ⟨i, h1, h3, rfl⟩
              rw [toL_rd h1, toL_rd h1] at h3
              by_cases q1 : i = v
              · rw [q1]
              · rw [upd_other q1] at h3; exact absurd rfl h3
            · rintro rfl
              exact ⟨v, hvm, by rw [toL_rd hvm, toL_rd hvm, upd_same]; exact e, rfl⟩
          have := hp1.length_eq
          simpa using this
  have := (key h1).2
  rw [toL_agree hS h2, toL_of (allC_rows b hb)] at this
  exact this
theorem scS_snd {m : Nat} {es : List (Int × Int)} {out : List Int} : ∀ (xs : List Nat) (s : Int × Int), (s.1 < 0 ∨ s.2 = (dgP m es out s.1 : Int)) → ((xs.foldl (scS m es out) s).1 < 0 ∨ (xs.foldl (scS m es out) s).2 = (dgP m es out (xs.foldl (scS m es out) s).1 : Int)) := by
  intro xs
  induction xs with
  | nil => intro s h; exact h
  | cons x xs ih =>
    intro s h
    rw [List.foldl_cons]
    refine ih _ ?_
    unfold scS
    split
    · exact .inr rfl
    · exact h
theorem peel_prop {N : Nat} {m : Nat} {es : List (Int × Int)} (hm : m ≤ 8) (hg : goodG ((m : Int), es)) (hx : es.length ≤ 1048576) (hN : 1048577 ≤ N) : ∀ (d : Nat) (out : List Int) (most : Int) (K1 : Nat), (cand m out).length = d → out.length + d = m → most ≤ 8 → d < K1 →
    ∃ (tl : List Nat) (D : Int), spec_l5Peeling_l0 N (fun most o => some ((o, most, ()), ())) K1 most (m : Int) es out = some ((out ++ tl.map (fun c : Nat => (c : Int)), D, ()), ()) ∧ most ≤ D ∧ D ≤ 8 ∧ (0 < d → 0 ≤ D) ∧ peels es D.toNat tl ∧ ∀ v, v ∈ tl ↔ v ∈ cand m out := by
  intro d
  induction d with
  | zero =>
    intro out most K1 hc ho hmo hK1
    obtain ⟨k1, rfl⟩ := succ_of hK1
    have hnil := List.length_eq_zero_iff.1 hc
    refine ⟨[], most, ?_, Int.le_refl _, hmo, fun h => absurd h (Nat.lt_irrefl 0), trivial, fun v => by rw [hnil]⟩
    simp only [spec_l5Peeling_l0]
    rw [ilt_f (by rw [tLen_n]; omega), br_f]
    simp
  | succ d ih =>
    intro out most K1 hc ho hmo hK1
    obtain ⟨k1, rfl⟩ := succ_of hK1
    have hne : cand m out ≠ [] := fun h => by rw [h] at hc; simp at hc
    obtain ⟨q1, q2⟩ := scan_rel (out := out) hm hg (cand m out) (-1, 0) (-1, 8) (fun x h => (mem_cand.1 h).1) (.inl ⟨rfl, rfl⟩) hne
    obtain ⟨b, hbc, hbe⟩ : ∃ b ∈ cand m out, ((cand m out).foldl (scS m es out) (-1, 0)).1 = (b : Int) := by
      rcases q2 with h | ⟨_, h⟩
      · exact h
      · exact absurd h (by simp)
    have hsn := (scS_snd (m := m) (es := es) (out := out) (cand m out) (-1, 0) (.inl (by simp))).resolve_left (by rw [hbe]; omega)
    rw [hbe] at hsn
    obtain ⟨hbm, hbo⟩ := mem_cand.1 hbc
    have hdg := dgP_lt hg (out := out) hbm
    have hcl := cand_less hbc
    have hmo2 : (if ((cand m out).foldl (scS m es out) (-1, 0)).2 < most then most else ((cand m out).foldl (scS m es out) (-1, 0)).2) ≤ 8 := by
      split <;> omega
    obtain ⟨tl, D, r1, r2, r3, r4, r5, r6⟩ := ih (out ++ [(b : Int)]) (if ((cand m out).foldl (scS m es out) (-1, 0)).2 < most then most else ((cand m out).foldl (scS m es out) (-1, 0)).2) k1 (by omega) (by simp; omega) hmo2 (by omega)
    have hmD : most ≤ D ∧ (dgP m es out (b : Int) : Int) ≤ D := by
      rw [hsn] at r2
      split at r2 <;> omega
    have hbt : b ∉ tl := fun h => by
      have := (mem_cand.1 ((r6 b).1 h)).2
      simp at this
    refine ⟨b :: tl, D, ?_, hmD.1, r3, fun _ => by omega, ⟨hbt, ?_, r5⟩, fun v => ?_⟩
    · simp only [spec_l5Peeling_l0]
      rw [ilt_t (by rw [tLen_n]; omega), br_t, spec_scan_eq _ hm hx (by omega) hN, room_ok (by simp; omega), chk_t, l1Most_eq]
      simp only [bind_some']
      rw [hbe]
      refine Eq.trans r1 ?_
      simp
    · have hnd : ((nbIn es tl b).map (fun u : Nat => (u : Int))).Nodup := List.Pairwise.map (R := fun (i j : Nat) => i ≠ j) _ (fun i j h e => h (by omega)) ((peels_nodup r5).filter _)
      have hin : ∀ x ∈ (nbIn es tl b).map (fun u : Nat => (u : Int)), x ∈ (nbr m es (b : Int)).filter fun y => !decide (y ∈ out) := fun x hx => by
        obtain ⟨u, hu, rfl⟩ := List.mem_map.1 hx
        obtain ⟨hu1, hu2⟩ := mem_nbIn.1 hu
        obtain ⟨hu3, hu4⟩ := mem_cand.1 ((r6 u).1 hu1)
        rw [List.mem_filter, mem_nbr]
        refine ⟨⟨u, hu3, nearG_symm.1 hu2, rfl⟩, ?_⟩
        rw [decide_eq_false (fun q => hu4 (List.mem_append_left _ q))]
        rfl
      have := nodup_le hnd hin
      rw [List.length_map] at this
      unfold dgP at hmD
      omega
    · rw [List.mem_cons, r6 v, mem_cand, mem_cand, List.mem_append, List.mem_singleton]
      constructor
      · rintro (rfl | ⟨h1, h2⟩)
        · exact ⟨hbm, hbo⟩
        · exact ⟨h1, fun q => h2 (.inl q)⟩
      · rintro ⟨h1, h2⟩
        by_cases e : v = b
        · exact .inl e
        · exact .inr ⟨h1, fun q => q.elim h2 fun q => e (by omega)⟩
theorem isState_eq {N : Nat} {s : List Int} (hl : s.length ≤ 24) (hb : ∀ z ∈ s, -99 ≤ z ∧ z ≤ 99) (hN : 1048577 ≤ N) : Zq29 N s = some ((true, ()), ()) := by
  unfold Zq29
  rw [tLen_n, ile_t (by omega), br_t, ContainsFunc_LI_int_eq (g := fun z => !decide (-99 ≤ z ∧ z ≤ 99)) (fun z _ => ?_) (by omega) (by omega), bind_some']
  · have : (s.any fun z => !decide (-99 ≤ z ∧ z ≤ 99)) = false := by
      rw [List.any_eq_false]
      intro z hz
      rw [decide_eq_true (hb z hz)]
      simp
    rw [this]
    rfl
  · unfold Zq30
    rw [between_eq, bind_some', bind_some']
theorem okSt_pair {n : Nat} {st : List (Int × Int)} (h : okSt n st) : ∀ i : Nat, i < st.length → pairAt (n : Int) st i := by
  intro i hi
  have h2 := h.2 _ (List.getElem_mem hi)
  rw [← rdP_n hi] at h2
  refine ⟨⟨h2.1, h2.2.1, h2.2.2⟩, fun h0 => ?_⟩
  have := (List.pairwise_iff_getElem.1 h.1) (i - 1) i (by omega) hi (by omega)
  rw [rdP_n hi, rdP_n (show i - 1 < st.length by omega)]
  exact this
theorem isPairs_ok {N n : Nat} {es : List (Int × Int)} (hx : es.length ≤ 1048576) (h : okSt n es) (hN : 1048577 ≤ N) : Zq27 N es (n : Int) = some ((true, ()), ()) := by
  have hp := okSt_pair h
  unfold Zq27
  have go : ∀ (d n' K : Nat), n' + d = es.length → d < K → Zq27_l0 N (fun x => some ((x, ()), ())) (fun (_ : Unit) => some ((true, ()), ())) K es (n : Int) es (es.length : Int) (n' : Int) = some ((true, ()), ()) := by
    intro d
    induction d with
    | zero =>
      intro n' K hd hK
      obtain ⟨K, rfl⟩ := succ_of hK
      simp only [Zq27_l0, ilt_nf (show ¬ n' < es.length by omega), br_f]
    | succ d ih =>
      intro n' K hd hK
      obtain ⟨K, rfl⟩ := succ_of hK
      have hn : n' < es.length := by omega
      simp only [Zq27_l0, ilt_n hn, inb_n hn, br_t, chk_t]
      obtain ⟨⟨p1, p2, p3⟩, p4⟩ := hp n' hn
      rw [ilt_f (by omega), br_f, ile_f (by omega), br_f, ile_f (by omega), br_f, wrap_succ (by omega)]
      by_cases h0 : 0 < n'
      · rw [ilt_0 h0, br_t, wrap_pred (by omega) h0, inb_n (by omega), chk_t]
        obtain ⟨r, r1, r2, _⟩ := comparePairs_eq hN (rdP es ((n' - 1 : Nat) : Int)) ((rdP es n').1, (rdP es n').2)
        have := r2.2 (p4 h0)
        rw [r1]
        simp only [bind_some']
        rw [ile_f (by omega), br_f]
        exact ih (n' + 1) K (by omega) (by omega)
      · rw [ilt_0n h0, br_f]
        exact ih (n' + 1) K (by omega) (by omega)
  rw [tLen_n]
  exact go es.length 0 N (by omega) (by omega)
theorem isSpace_ok {N : Nat} {xs : List (List Int)} {st : List (Int × Int)} (h1 : xs.length ≤ 300) (h2 : st.length ≤ 6000) (hs : ∀ x ∈ xs, x.length ≤ 24 ∧ ∀ z ∈ x, -99 ≤ z ∧ z ≤ 99) (hl : lexSorted xs) (h : okSt xs.length st) (hN : 1048577 ≤ N) : Zq14 N (xs, st) = some ((true, ()), ()) := by
  unfold Zq14
  simp only []
  rw [tLen_n, tLen_n, ilt_f (by omega), br_f, ilt_f (by omega), br_f]
  have go : ∀ (d n K : Nat), n + d = xs.length → d < K → Zq14_l0 N (fun x1 => some ((x1, ()), ())) (fun o o1 => ((Zq27 N o1 (tLen o)).bind fun r => some ((r.1.1, ()), ()))) K xs (xs.length : Int) (n : Int) xs st = some ((true, ()), ()) := by
    intro d
    induction d with
    | zero =>
      intro n K hd hK
      obtain ⟨K, rfl⟩ := succ_of hK
      simp only [Zq14_l0, ilt_nf (show ¬ n < xs.length by omega), br_f]
      rw [tLen_n, isPairs_ok (by omega) h hN, bind_some']
    | succ d ih =>
      intro n K hd hK
      obtain ⟨K, rfl⟩ := succ_of hK
      have hn : n < xs.length := by omega
      obtain ⟨a1, a2⟩ := hs _ (List.getElem_mem hn)
      simp only [Zq14_l0, ilt_n hn, inb_n hn, br_t, chk_t]
      rw [rdL_n hn, isState_eq a1 a2 hN, bind_some']
      simp only [Bool.not_true, br_f]
      rw [wrap_succ (by omega)]
      by_cases h0 : 0 < n
      · have hn1 : n - 1 < xs.length := by omega
        obtain ⟨b1, b2⟩ := hs _ (List.getElem_mem hn1)
        have hlt := (List.pairwise_iff_getElem.1 hl) (n - 1) n hn1 hn (by omega)
        rw [ilt_0 h0, br_t, wrap_pred (by omega) h0, inb_n hn1, chk_t, rdL_n hn1, Compare_lex (by omega) (by omega) hN, bind_some']
        simp only []
        rw [ile_f (by omega), br_f]
        exact ih (n + 1) K (by omega) (by omega)
      · rw [ilt_0n h0, br_f]
        exact ih (n + 1) K (by omega) (by omega)
  exact go xs.length 0 N (by omega) (by omega)
theorem partsOf_cnt {N : Nat} {xs : List (List Int)} {st : List (Int × Int)} (h1 : xs.length ≤ 300) (h2 : st.length ≤ 6000) (hs : ∀ x ∈ xs, x.length ≤ 24 ∧ ∀ z ∈ x, -99 ≤ z ∧ z ≤ 99) (hl : lexSorted xs) (h : okSt xs.length st) (hN : 1048577 ≤ N) :
    ∃ b : List (List Int), Zq16 N (xs, st) = some ((b, true, ()), ()) ∧ b.length = cntN (nbL xs.length st) xs.length := by
  have hok := nbL_ok (n := xs.length) (by omega) h
  have hlen := hok.1
  have h0 : ∀ y : Nat, y < xs.length → (rdB (List.replicate xs.length false) (y : Int) = true ↔ seenP (nbL xs.length st) 0 (y : Int)) := fun y hy => by
    constructor
    · intro q
      unfold rdB at q
      simp [List.getElem?_replicate, hy] at q
    · rintro ⟨j, j1, _⟩
      omega
  obtain ⟨b, b1, b2⟩ := implParts (N := N) hok (by omega) hN xs.length 0 N [] (List.replicate xs.length false) (by omega) (by omega) (by simp [cntN]) (by simp) h0
  have hg : (ile 0 (tLen (nbL xs.length st)) && ile (tLen (nbL xs.length st)) (tLen (nbL xs.length st)) && fits (tLen (nbL xs.length st))) = true := by
    rw [tLen_n, hlen, ile_t (by omega), ile_t (Int.le_refl _), fits_ok (by omega)]
    rfl
  have hp : Zq33 N (nbL xs.length st) (-1) = some ((b, ()), ()) := by
    unfold Zq33
    rw [hg, chk_t, ile_f (by decide), br_f, tLen_n, hlen, tRep_n]
    exact b1
  refine ⟨b, ?_, b2⟩
  unfold Zq16
  simp only []
  rw [isSpace_ok h1 h2 hs hl h hN, bind_some']
  simp only [Bool.not_true, br_f]
  rw [sroads_eq (by omega) (by omega) h hN, bind_some']
  simp only []
  rw [hp, bind_some']
/-! ### The law of the spaces of colourings -/
theorem wk_idx {L : List (List Int)} {xs : List (List Int)} (hnd : xs.Nodup) (h : ∀ a ∈ xs, ∀ b ∈ xs, Wk L ((xs.idxOf a : Nat) : Int) ((xs.idxOf b : Nat) : Int)) (i j : Nat) (hi : i < xs.length) (hj : j < xs.length) : Wk L (i : Int) (j : Int) := by
  have := h _ (List.getElem_mem hi) _ (List.getElem_mem hj)
  rwa [List.Nodup.idxOf_getElem hnd, List.Nodup.idxOf_getElem hnd] at this
theorem allC_one {g : Int × List (Int × Int)} {k : Int} (h0 : g.1.toNat = 0) : (allC g k).length = 1 := by
  unfold allC
  rw [h0]
  rfl
theorem col_pos {g : Int × List (Int × Int)} {k : Int} {d : Nat} {S : List Nat} (hk : colCase g k) (hl : (allC g k).length ≤ 300) (hS : ∀ v, v ∈ S ↔ v < g.1.toNat) (hp : peels g.2 d S) (hd : (d : Int) + 1 ≤ k) : 0 < (allC g k).length := by
  have hg := hk.1
  have hloop : ∀ u : Nat, ¬ nearG g.2 (u : Int) (u : Int) := fun u h => by
    rcases h with h | h <;> · have := goodG_edges hg _ h; simp at this
  have hkk : ((k.toNat : Nat) : Int) = k := by have := hk.2; omega
  obtain ⟨f, hf⟩ := col_some hloop (show d + 1 ≤ k.toNat by omega) hp
  rw [hkk] at hf
  exact List.length_pos_of_mem (mem_allC hk hl (prS_proper hg hS hf))
theorem col_conn {g : Int × List (Int × Int)} {k D : Int} {S : List Nat} (hk : colCase g k) (hl : (allC g k).length ≤ 300) (hS : ∀ v, v ∈ S ↔ v < g.1.toNat) (h0 : 0 < g.1.toNat → 0 ≤ D) (hp : peels g.2 D.toNat S) (hd : D + 2 ≤ k) : cntN (nbL (allC g k).length (stepsL isCh (allC g k))) (allC g k).length = 1 := by
  by_cases hm : g.1.toNat = 0
  · have h1 := allC_one (k := k) hm
    refine cnt_one (by omega) fun i j hi hj => ?_
    rw [show i = j by omega]
    exact .base
  · have := h0 (by omega)
    exact cnt_one (col_pos hk hl hS hp (by omega)) (wk_idx (lex_nodup (allC_sorted g k).1) fun a ha b hb => peelCh hk hl hS hp (by omega) ha hb)
theorem perm_of : ∀ {a b : List Int}, a.Nodup → (∀ x ∈ a, x ∈ b) → b.length ≤ a.length → a.Perm b := by
  intro a
  induction a with
  | nil =>
    intro b _ _ h
    have : b = [] := List.eq_nil_of_length_eq_zero (by simpa using h)
    rw [this]
  | cons x a ih =>
    intro b hn hs hl
    obtain ⟨n1, n2⟩ := List.nodup_cons.1 hn
    have hx : x ∈ b := hs x (List.mem_cons_self ..)
    have h1 := List.perm_cons_erase hx
    have hl2 := List.length_erase_of_mem hx
    have hb0 : 0 < b.length := List.length_pos_of_mem hx
    refine (List.Perm.cons x (ih n2 (fun y hy => ?_) (by rw [hl2]; simp at hl; omega))).trans h1.symm
    have hy2 : y ∈ b := hs y (List.mem_cons_of_mem _ hy)
    exact (List.mem_erase_of_ne (fun e : y = x => n1 (by rw [← e]; exact hy))).2 hy2
noncomputable def upL (n : Nat) : List Int := (List.range n).map fun i : Nat => (i : Int)
theorem mem_upL {n : Nat} {c : Int} : c ∈ upL n ↔ 0 ≤ c ∧ c < (n : Int) := by
  unfold upL
  rw [List.mem_map]
  constructor
  · rintro ⟨i, hi, rfl⟩
    rw [List.mem_range] at hi
    omega
  · rintro ⟨h1, h2⟩
    exact ⟨c.toNat, List.mem_range.2 (by omega), by omega⟩
theorem upL_len (n : Nat) : (upL n).length = n := by simp [upL]
theorem upL_nodup (n : Nat) : (upL n).Nodup := by
  unfold upL
  refine List.Pairwise.map _ (fun a b h e => h ?_) List.nodup_range
  omega
theorem upL_asc (n : Nat) : asc (upL n) := by
  unfold upL
  refine List.Pairwise.map _ (fun a b h => ?_) List.pairwise_lt_range
  omega
theorem upL_rd {n i : Nat} (h : i < n) : rdI (upL n) (i : Int) = (i : Int) := by
  rw [rdI_n (by rw [upL_len]; exact h)]
  simp [upL]
def isOrd (xs : List Int) (m : Int) : Prop := (xs.length : Int) = m ∧ ∀ c : Int, 0 ≤ c → c < m → c ∈ xs
theorem ord_perm {xs : List Int} {n : Nat} (h : isOrd xs (n : Int)) : (upL n).Perm xs :=
  perm_of (upL_nodup n) (fun c hc => h.2 c (mem_upL.1 hc).1 (mem_upL.1 hc).2) (by rw [upL_len]; have := h.1; omega)
theorem rising_up (n : Nat) : rising 0 ((n : Int) - 1) (upL n) := by
  intro i hi
  rw [upL_len] at hi
  refine ⟨?_, fun h0 => ?_⟩
  · rw [upL_rd hi]
    omega
  · rw [upL_rd hi, upL_rd (by omega)]
    omega
theorem rising_low {xs : List Int} {hi : Int} (h : rising 0 hi xs) : ∀ i : Nat, i < xs.length → (i : Int) ≤ rdI xs (i : Int) := by
  intro i
  induction i with
  | zero => intro h0; exact (h 0 h0).1.1
  | succ i ih =>
    intro h0
    have h1 := ih (by omega)
    have h2 := (h (i + 1) h0).2 (by omega)
    rw [show i + 1 - 1 = i by omega] at h2
    omega
theorem rising_high {xs : List Int} {hi : Int} (h : rising 0 hi xs) : ∀ (d i : Nat), i + d + 1 = xs.length → rdI xs (i : Int) + (d : Int) ≤ hi := by
  intro d
  induction d with
  | zero =>
    intro i hl
    have := (h i (by omega)).1.2
    omega
  | succ d ih =>
    intro i hl
    have h1 := ih (i + 1) (by omega)
    have h2 := (h (i + 1) (by omega)).2 (by omega)
    rw [show i + 1 - 1 = i by omega] at h2
    omega
theorem rising_ord {xs : List Int} {n : Nat} (hl : xs.length = n) : rising 0 ((n : Int) - 1) (mergeI xs) ↔ isOrd xs (n : Int) := by
  have hp := mergeI_perm xs
  have hml : (mergeI xs).length = n := hp.length_eq.trans hl
  constructor
  · intro h
    refine ⟨by omega, fun c h0 h1 => ?_⟩
    have hc : c.toNat < (mergeI xs).length := by omega
    have a1 := rising_low h c.toNat hc
    have a2 := rising_high h (n - 1 - c.toNat) c.toNat (by omega)
    have e : rdI (mergeI xs) (c.toNat : Int) = c := by omega
    rw [rdI_n hc] at e
    exact hp.mem_iff.1 (e ▸ List.getElem_mem hc)
  · intro h
    have e : mergeI xs = upL n := asc_perm (mergeI_asc xs) (upL_asc n) (hp.trans (ord_perm h).symm)
    rw [e]
    exact rising_up n
theorem isOrder_eq {N : Nat} {xs : List Int} {m : Int} (hx : xs.length ≤ 1048576) (hN : 1048577 ≤ N) : Zq26 N xs m = some ((decide (isOrd xs m), ()), ()) := by
  unfold Zq26
  rw [tLen_n]
  by_cases h : (xs.length : Int) = m
  · rw [ieq_t h, br_t]
    unfold Zq54 Zq53 sortVF
    rw [bind_some']
    simp only []
    rw [if_pos (by omega), bind_some']
    simp only []
    have hml : (mergeI xs).length = xs.length := (mergeI_perm xs).length_eq
    rw [isRising_eq (by omega) (by omega) hN, bind_some']
    simp only []
    rw [← h, decide_eq_decide.2 (rising_ord rfl)]
  · rw [ieq_f h, br_f, decide_eq_false fun q => h q.1]
theorem l5Order_eq {N : Nat} {g : Int × List (Int × Int)} {xs : List Int} (hg : 0 ≤ g.1 ∧ g.1 ≤ 8) (hx : xs.length ≤ 1048576) (hN : 1048577 ≤ N) : Zq89 N g xs = some ((decide (isOrd xs g.1), ()), ()) := by
  unfold Zq89
  obtain ⟨m, hm⟩ : ∃ m : Nat, g.1 = (m : Int) := ⟨g.1.toNat, by omega⟩
  have := loop_all_if (P := ∀ i : Nat, i < m → (i : Int) ∈ xs) (m := m) (L := fun K i => Zq89_l0 N (fun x => some ((x, ()), ())) (fun order1 o o1 => some (((ieq (tLen order1) o), ()), ())) K xs (i : Int) (m : Int) g.2) (fun i : Nat => (i : Int) ∈ xs) Iff.rfl (kt := some ((ieq (tLen xs) (m : Int), ()), ())) (kf := some ((false, ()), ())) (fun K n hn => ?_) (fun K n hn hp => ?_) (fun K n hn hp => ?_) (show m < N by omega)
  · rw [show ((0 : Nat) : Int) = 0 from rfl] at this
    rw [hm, this]
    by_cases h : ∀ i : Nat, i < m → (i : Int) ∈ xs
    · rw [if_pos h, tLen_n, ieq_d]
      refine congrArg (fun b => some ((b, ()), ())) (decide_eq_decide.2 ⟨fun e => ⟨e, fun c h0 h1 => ?_⟩, fun q => q.1⟩)
      have := h c.toNat (by omega)
      rwa [show ((c.toNat : Nat) : Int) = c by omega] at this
    · rw [if_neg h, decide_eq_false fun q => h fun i hi => q.2 _ (by omega) (by omega)]
  · simp only [Zq89_l0, ilt_nf hn, br_f]
  · simp only [Zq89_l0, ilt_n hn, br_t]
    rw [l1Has_eq hx hN, bind_some', decide_eq_true hp]
    simp only [Bool.not_true, br_f]
    rw [wrap_succ (by omega)]
  · simp only [Zq89_l0, ilt_n hn, br_t]
    rw [l1Has_eq hx hN, bind_some', decide_eq_false hp]
    simp only [Bool.not_false, br_t]
/-! ### Colours with other names -/
def freeN (m : Nat) (es : List (Int × Int)) (o : List Int) (x : Int) (c : Nat) : Prop := ∀ y ∈ nbr m es x, rdI o y ≠ (c : Int)
noncomputable def leastC (m : Nat) (es : List (Int × Int)) (o : List Int) (x : Int) : Nat := Classical.choose (exists_first (freeN m es o x) 9)
theorem leastC_spec (m : Nat) (es : List (Int × Int)) (o : List Int) (x : Int) : leastC m es o x ≤ 9 ∧ (∀ i, i < leastC m es o x → ¬ freeN m es o x i) ∧ (leastC m es o x < 9 → freeN m es o x (leastC m es o x)) := Classical.choose_spec (exists_first (freeN m es o x) 9)
theorem taken_le {o L : List Int} {c : Nat} (h : ∀ i : Nat, i < c → ∃ y ∈ L, rdI o y = (i : Int)) : c ≤ L.length := by
  have := nodup_le (a := upL c) (b := L.map (rdI o)) (upL_nodup c) fun z hz => by
    obtain ⟨h0, h1⟩ := mem_upL.1 hz
    obtain ⟨y, y1, y2⟩ := h z.toNat (by omega)
    exact List.mem_map.2 ⟨y, y1, by omega⟩
  rwa [upL_len, List.length_map] at this
theorem leastC_le {m : Nat} (hm : m ≤ 8) (es : List (Int × Int)) (o : List Int) (x : Int) : leastC m es o x ≤ 8 ∧ freeN m es o x (leastC m es o x) := by
  obtain ⟨h1, h2, h3⟩ := leastC_spec m es o x
  have := taken_le (o := o) (L := nbr m es x) (c := leastC m es o x) fun i hi => by
    have := h2 i hi
    unfold freeN at this
    refine Classical.byContradiction fun q => this fun y hy e => q ⟨y, hy, e⟩
  have := nbr_len m es x
  exact ⟨by omega, h3 (by omega)⟩
noncomputable def gstep (m : Nat) (es : List (Int × Int)) (o : List Int) (x : Int) : List Int := tSet o x (leastC m es o x : Int)
noncomputable def grL (m : Nat) (es : List (Int × Int)) (P : List Int) : List Int := P.foldl (gstep m es) (List.replicate m (-1))
theorem grL_snoc (m : Nat) (es : List (Int × Int)) (P : List Int) (x : Int) : grL m es (P ++ [x]) = tSet (grL m es P) x (leastC m es (grL m es P) x : Int) := by
  unfold grL
  rw [List.foldl_append]
  rfl
structure GInv (m : Nat) (es : List (Int × Int)) (P o : List Int) : Prop where
  len : o.length = m
  pos : ∀ y, InN m y → y ∈ P → 0 ≤ rdI o y ∧ rdI o y ≤ 8
  neg : ∀ y, InN m y → y ∉ P → rdI o y = -1
  col : ∀ y z, InN m y → InN m z → y ∈ P → z ∈ P → nearG es y z → rdI o y ≠ rdI o z
theorem ginv_nil (m : Nat) (es : List (Int × Int)) : GInv m es [] (grL m es []) := by
  refine ⟨by simp [grL], fun y _ h => absurd h (by simp), fun y hy _ => ?_, fun y z _ _ h => absurd h (by simp)⟩
  obtain ⟨i, hi, rfl⟩ := nat_of hy
  unfold grL
  rw [List.foldl_nil, rdI_n (by simpa using hi)]
  simp
theorem ginv_step {m : Nat} {es : List (Int × Int)} {P : List Int} {x : Int} (hm : m ≤ 8) (hir : ∀ y : Int, ¬ nearG es y y) (h : GInv m es P (grL m es P)) (hx : InN m x) (hp : x ∉ P) : GInv m es (P ++ [x]) (grL m es (P ++ [x])) := by
  obtain ⟨i, hi, rfl⟩ := nat_of hx
  obtain ⟨l1, l2⟩ := leastC_le hm es (grL m es P) (i : Int)
  have hlt : i < (grL m es P).length := by rw [h.len]; exact hi
  have hrd : ∀ y : Int, InN m y → rdI (grL m es (P ++ [(i : Int)])) y = if y = (i : Int) then (leastC m es (grL m es P) (i : Int) : Int) else rdI (grL m es P) y := fun y hy => by
    rw [grL_snoc]
    exact rdI_set hlt _ y hy.1
  have hfree : ∀ z : Int, InN m z → z ∈ P → nearG es (i : Int) z → (leastC m es (grL m es P) (i : Int) : Int) ≠ rdI (grL m es P) z := fun z hz _ hn e => by
    obtain ⟨j, hj, rfl⟩ := nat_of hz
    exact l2 _ (mem_nbr.2 ⟨j, hj, hn, rfl⟩) e.symm
  refine ⟨by rw [grL_snoc, tSet_n, List.length_set, h.len], fun y hy hyp => ?_, fun y hy hyp => ?_, fun y z hy hz hyp hzp hn => ?_⟩
  · rw [hrd y hy]
    split
    · omega
    · rename_i hne
      rcases List.mem_append.1 hyp with q | q
      · exact h.pos y hy q
      · exact absurd (List.mem_singleton.1 q) hne
  · rw [hrd y hy, if_neg fun e => hyp (List.mem_append.2 (.inr (List.mem_singleton.2 e)))]
    exact h.neg y hy fun q => hyp (List.mem_append.2 (.inl q))
  · rw [hrd y hy, hrd z hz]
    have side : ∀ w : Int, w ∈ P ++ [(i : Int)] → w ≠ (i : Int) → w ∈ P := fun w hw hne => by
      rcases List.mem_append.1 hw with q | q
      · exact q
      · exact absurd (List.mem_singleton.1 q) hne
    by_cases ey : y = (i : Int)
    · by_cases ez : z = (i : Int)
      · rw [ey, ez] at hn
        exact absurd hn (hir _)
      · rw [if_pos ey, if_neg ez]
        exact hfree z hz (side z hzp ez) (ey ▸ hn)
    · by_cases ez : z = (i : Int)
      · rw [if_neg ey, if_pos ez]
        exact fun e => hfree y hy (side y hyp ey) (ez ▸ nearG_symm.1 hn) e.symm
      · rw [if_neg ey, if_neg ez]
        exact h.col y z hy hz (side y hyp ey) (side z hzp ez) hn
theorem ginv_of {m : Nat} {es : List (Int × Int)} (hm : m ≤ 8) (hir : ∀ y : Int, ¬ nearG es y y) {order : List Int} (hn : order.Nodup) (hin : ∀ x ∈ order, InN m x) : ∀ n : Nat, n ≤ order.length → GInv m es (order.take n) (grL m es (order.take n)) := by
  intro n
  induction n with
  | zero => intro _; rw [List.take_zero]; exact ginv_nil m es
  | succ n ih =>
    intro h
    have hl : n < order.length := by omega
    rw [List.take_add_one, List.getElem?_eq_getElem hl]
    refine ginv_step hm hir (ih (by omega)) (hin _ (List.getElem_mem hl)) fun q => ?_
    obtain ⟨j, hj, e⟩ := List.getElem_of_mem q
    rw [List.length_take] at hj
    rw [List.getElem_take] at e
    have := (List.getElem_inj hn).1 e
    omega
end Go.Proofs.YtkffaahlpdlkoaaGreat
