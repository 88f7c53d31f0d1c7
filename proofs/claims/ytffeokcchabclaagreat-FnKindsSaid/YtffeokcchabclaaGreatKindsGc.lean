/- Statements on data alone. -/
import Derived.Test.YtffeokcchabclaaGreatPvPure
import Derived.Test.YtffeokcchabclaaGreatKindsGb
set_option linter.all false
set_option linter.all false
namespace Go.Proofs.YtffeokcchabclaaGreat
open Go Go.PV Classical
theorem among_ok {N : Nat} {code : List Int} {k : Nat} {c : List Int × (Int × Int)} (hco : codeOk code) (h : CurOk code k c) (hk : k ≤ 1000000) {l : List Int} (hl : l ≠ []) : ∃ x c', Zq65 N c l = some ((x, ()), (c', ())) ∧ CurOk code (k + 2) c' ∧ x ∈ l := by
  unfold Zq65
  have hp : 0 < l.length := List.length_pos_iff.2 hl
  obtain ⟨x, c', e1, e2, e3, e4, e5⟩ := pick_ok (N := N) hco h hk (tLen l)
  rw [e1, bind_some']
  simp only []
  rw [tLen_n] at e5
  obtain ⟨n, rfl⟩ := Int.eq_ofNat_of_zero_le e3
  have hn : n < l.length := by have := e5 (by omega); omega
  rw [inb_n hn, chk_t, rdI_n hn]
  exact ⟨_, _, rfl, e2, List.getElem_mem hn⟩
theorem one_ok {N : Nat} {code : List Int} {k : Nat} {c : List Int × (Int × Int)} (hco : codeOk code) (h : CurOk code k c) (hk : k ≤ 1000000) (n : Int) : ∃ b c', Zq71 N c n = some ((b, ()), (c', ())) ∧ CurOk code (k + 2) c' := by
  unfold Zq71
  obtain ⟨x, c', e1, e2, _⟩ := pick_ok (N := N) hco h hk n
  rw [e1, bind_some']
  exact ⟨_, _, rfl, e2⟩
theorem sg_in {R : Type} {N : Nat} {code : List Int} (hco : codeOk code) (hN : 1048577 ≤ N) {k0 : Int → Int → Bool → Int → List Int × (Int × Int) → Int → Int → List (Int × Int) → Option R} {x4 x5 x7 o5 o6 : Int} {x6 : Bool} :
    ∀ (d : Nat) (x8 : Int) (K k : Nat) (c : List Int × (Int × Int)) (o : List (Int × Int)), x8 + (d : Int) = max x4 x8 → d < K → 0 ≤ x8 → x8 ≤ 100 → x4 ≤ 100 → CurOk code k c → k + 2 * d ≤ 1000000 → pairsUp o → o.length + d ≤ 1048576 →
      ∃ c' o', Zq73_l0_0 N k0 K x4 x5 x6 x7 x8 c o5 o6 o = k0 x4 x5 x6 x7 c' o5 o6 o' ∧ CurOk code (k + 2 * d) c' ∧ pairsUp o' ∧ o'.length ≤ o.length + d := by
  intro d
  induction d with
  | zero =>
    intro x8 K k c o hd hK h0 h1 h4 hc hk ho hl
    obtain ⟨K, rfl⟩ := succ_of hK
    refine ⟨c, o, ?_, hc, ho, by omega⟩
    simp only [Zq73_l0_0, ilt_f (show ¬ x8 < x4 by omega), br_f]
  | succ d ih =>
    intro x8 K k c o hd hK h0 h1 h4 hc hk ho hl
    obtain ⟨K, rfl⟩ := succ_of hK
    have hlt : x8 < x4 := by omega
    have hw : IntKind.i64.wrap (x8 + 1) = x8 + 1 := wrap_ok (by omega) (by omega)
    simp only [Zq73_l0_0, ilt_t hlt, br_t, hw]
    obtain ⟨x, c1, e1, e2, _⟩ := pick_ok (N := N) hco hc (by omega) x5
    rw [e1, bind_some']
    simp only []
    by_cases hx : x = 0
    · rw [ieq_t hx, br_t]
      obtain ⟨o1, p1, p2, p3, p4⟩ := putPair_eq (N := N) (e := (x7, x8)) ho (by omega) hN
      rw [p1, bind_some']
      simp only []
      obtain ⟨c', o', q1, q2, q3, q4⟩ := ih (x8 + 1) K (k + 2) c1 o1 (by omega) (by omega) (by omega) (by omega) h4 e2 (by omega) p2 (by omega)
      exact ⟨c', o', q1, cur_mono q2 (by omega), q3, by omega⟩
    · rw [ieq_f hx, br_f]
      obtain ⟨c', o', q1, q2, q3, q4⟩ := ih (x8 + 1) K (k + 2) c1 o (by omega) (by omega) (by omega) (by omega) h4 e2 (by omega) ho (by omega)
      exact ⟨c', o', q1, cur_mono q2 (by omega), q3, by omega⟩
theorem sg_out {R : Type} {N : Nat} {code : List Int} (hco : codeOk code) (hN : 1048577 ≤ N) {k0 : List Int × (Int × Int) → Int → Int → List (Int × Int) → Option R} {x x1 o1 o2 : Int} {x2 : Bool} (hx : x ≤ 8) :
    ∀ (d : Nat) (x3 : Int) (K k : Nat) (c : List Int × (Int × Int)) (o : List (Int × Int)), x3 + (d : Int) = max x x3 → d < K → 0 ≤ x3 → x3 ≤ 8 → CurOk code k c → k + 20 * d ≤ 1000000 → pairsUp o → o.length + 10 * d ≤ 1048576 →
      ∃ c' o', Zq73_l0 N k0 K x x1 x2 x3 c o1 o2 o = k0 c' o1 o2 o' ∧ CurOk code (k + 20 * d) c' ∧ pairsUp o' ∧ o'.length ≤ o.length + 10 * d := by
  intro d
  induction d with
  | zero =>
    intro x3 K k c o hd hK h0 h1 hc hk ho hl
    obtain ⟨K, rfl⟩ := succ_of hK
    refine ⟨c, o, ?_, hc, ho, by omega⟩
    simp only [Zq73_l0, ilt_f (show ¬ x3 < x by omega), br_f]
  | succ d ih =>
    intro x3 K k c o hd hK h0 h1 hc hk ho hl
    obtain ⟨K, rfl⟩ := succ_of hK
    have hlt : x3 < x := by omega
    have hw : IntKind.i64.wrap (x3 + 1) = x3 + 1 := wrap_ok (by omega) (by omega)
    simp only [Zq73_l0, ilt_t hlt, br_t, hw]
    obtain ⟨e, he⟩ : ∃ e : Nat, x3 + 1 + (e : Int) = max x (x3 + 1) := ⟨(max x (x3 + 1) - (x3 + 1)).toNat, by omega⟩
    have he8 : e ≤ 8 := by omega
    obtain ⟨c1, p1, q1, q2, q3, q4⟩ := sg_in (R := R) (N := N) hco hN (k0 := fun x4 x5 x6 x7 o4 o5 o6 o7 => (br (ilt 0 x7)
        ((br (!x6)
          (((Zq72 N (o4.1, (o4.2.1, o4.2.2)) x7).bind fun r6 =>
            ((Zq89 N o7 (r6.1.1, x7)).bind fun r7 =>
              Zq73_l0 N k0 K x4 x5 x6 (IntKind.i64.wrap (x7 + 1)) r6.2.1 o5 o6 r7.1.1)))
          (Zq73_l0 N k0 K x4 x5 x6 (IntKind.i64.wrap (x7 + 1)) o4 o5 o6 o7)))
        (Zq73_l0 N k0 K x4 x5 x6 (IntKind.i64.wrap (x7 + 1)) o4 o5 o6 o7))) (x4 := x) (x5 := x1) (x6 := x2) (x7 := x3) (o5 := o1) (o6 := o2) e (x3 + 1) N k c o he (by omega) (by omega) (by omega) (by omega) hc (by omega) ho (by omega)
    rw [q1]
    simp only [hw]
    have keep : ∃ c' o', Zq73_l0 N k0 K x x1 x2 (x3 + 1) c1 o1 o2 p1 = k0 c' o1 o2 o' ∧ CurOk code (k + 20 * (d + 1)) c' ∧ pairsUp o' ∧ o'.length ≤ o.length + 10 * (d + 1) := by
      obtain ⟨c', o', r1, r2, r3, r4⟩ := ih (x3 + 1) K (k + 2 * e) c1 p1 (by omega) (by omega) (by omega) (by omega) q2 (by omega) q3 (by omega)
      exact ⟨c', o', r1, cur_mono r2 (by omega), r3, by omega⟩
    by_cases hz : 0 < x3
    · rw [ilt_t hz, br_t]
      cases x2 with
      | true => exact keep
      | false =>
        simp only [Bool.not_false, br_t]
        obtain ⟨y, c2, e1, e2, _⟩ := pick_ok (N := N) hco q2 (by omega) x3
        rw [show ((c1.1, (c1.2.1, c1.2.2)) : List Int × (Int × Int)) = c1 from rfl, e1, bind_some']
        simp only []
        obtain ⟨o3, p2, p3, p4, p5⟩ := putPair_eq (N := N) (e := (y, x3)) q3 (by omega) hN
        rw [p2, bind_some']
        simp only []
        obtain ⟨c', o', r1, r2, r3, r4⟩ := ih (x3 + 1) K (k + 2 * e + 2) c2 o3 (by omega) (by omega) (by omega) (by omega) e2 (by omega) p3 (by omega)
        exact ⟨c', o', r1, cur_mono r2 (by omega), r3, by omega⟩
    · rw [ilt_f hz, br_f]
      exact keep
noncomputable def sgTail (N : Nat) (o : List Int × (Int × Int)) (o2 : Int) (o3 : List (Int × Int)) : Option (((Int × List (Int × Int)) × Unit) × ((List Int × (Int × Int)) × Unit)) :=
  ((Zq72 N o 50).bind fun r6 =>
    (br (ieq r6.1.1 0)
      (((Zq65 N r6.2.1 [(-1), 8, 9, 0, 4611686018427387904]).bind fun r7 =>
        some (((r7.1.1, o3), ()), (r7.2.1, ()))))
      ((br (ieq r6.1.1 1)
        (((Zq72 N (r6.2.1.1, (r6.2.1.2.1, r6.2.1.2.2)) 4).bind fun r8 =>
          ((Zq72 N r8.2.1 9).bind fun r9 =>
            (chk (room o3 [(r8.1.1, (IntKind.i64.wrap (r9.1.1 - 1)))])
              (some (((o2, (tApp o3 [(r8.1.1, (IntKind.i64.wrap (r9.1.1 - 1)))])), ()), (r9.2.1, ())))))))
        ((br (ieq r6.1.1 2)
          ((br (ilt 0 (tLen o3))
            (((Zq72 N (r6.2.1.1, (r6.2.1.2.1, r6.2.1.2.2)) (tLen o3)).bind fun r10 =>
              (chk (inb o3 r10.1.1)
                (chk (room o3 [(rdP o3 r10.1.1)])
                (some (((o2, (tApp o3 [(rdP o3 r10.1.1)])), ()), (r10.2.1, ())))))))
            (some (((o2, o3), ()), (r6.2.1, ())))))
          (some (((o2, o3), ()), (r6.2.1, ())))))))))
theorem sgTail_ok {N : Nat} {code : List Int} {k : Nat} {c : List Int × (Int × Int)} {o2 : Int} {o3 : List (Int × Int)} (hco : codeOk code) (h : CurOk code k c) (hk : k ≤ 900000) (ho : o3.length ≤ 1000) :
    ∃ g c', sgTail N c o2 o3 = some ((g, ()), (c', ())) ∧ CurOk code (k + 10) c' ∧ g.2.length ≤ o3.length + 1 := by
  unfold sgTail
  obtain ⟨x, c1, e1, e2, _⟩ := pick_ok (N := N) hco h (by omega) 50
  rw [e1, bind_some']
  simp only [show ((c1.1, (c1.2.1, c1.2.2)) : List Int × (Int × Int)) = c1 from rfl]
  by_cases h0 : x = 0
  · rw [ieq_t h0, br_t]
    obtain ⟨y, c2, f1, f2, _⟩ := among_ok (N := N) hco e2 (by omega) (l := [(-1), 8, 9, 0, 4611686018427387904]) (by simp)
    rw [f1, bind_some']
    exact ⟨_, _, rfl, cur_mono f2 (by omega), by simp only []; omega⟩
  · rw [ieq_f h0, br_f]
    by_cases h1 : x = 1
    · rw [ieq_t h1, br_t]
      obtain ⟨y, c2, f1, f2, _⟩ := pick_ok (N := N) hco e2 (by omega) 4
      rw [f1, bind_some']
      simp only []
      obtain ⟨z, c3, g1, g2, _⟩ := pick_ok (N := N) hco f2 (by omega) 9
      rw [g1, bind_some']
      simp only []
      rw [room_ok (by simp; omega), chk_t]
      exact ⟨_, _, rfl, cur_mono g2 (by omega), by simp [tApp]⟩
    · rw [ieq_f h1, br_f]
      by_cases h2 : x = 2
      · rw [ieq_t h2, br_t, tLen_n]
        by_cases h3 : 0 < o3.length
        · rw [ilt_t (by omega), br_t]
          obtain ⟨y, c2, f1, f2, f3, _, f5⟩ := pick_ok (N := N) hco e2 (by omega) (o3.length : Int)
          rw [f1, bind_some']
          simp only []
          obtain ⟨n, rfl⟩ := Int.eq_ofNat_of_zero_le f3
          have hn : n < o3.length := by have := f5 (by omega); omega
          rw [inb_n hn, chk_t, room_ok (by simp; omega), chk_t]
          exact ⟨_, _, rfl, cur_mono f2 (by omega), by simp [tApp]⟩
        · rw [ilt_f (by omega), br_f]
          exact ⟨_, _, rfl, cur_mono e2 (by omega), by simp only []; omega⟩
      · rw [ieq_f h2, br_f]
        exact ⟨_, _, rfl, cur_mono e2 (by omega), by simp only []; omega⟩
theorem sg_fin {N : Nat} {code : List Int} {k : Nat} {c : List Int × (Int × Int)} {n x1 : Int} {x2 : Bool} (hco : codeOk code) (hN : 1048577 ≤ N) (h : CurOk code k c) (hk : k ≤ 100000) (hn : 0 ≤ n ∧ n ≤ 8) :
    ∃ g c', Zq73_l0 N (fun o o1 o2 o3 => sgTail N o o2 o3) N n x1 x2 0 c 0 n [] = some ((g, ()), (c', ())) ∧ CurOk code (k + 180) c' ∧ g.2.length ≤ 100 := by
  obtain ⟨d, hd⟩ : ∃ d : Nat, n = (d : Int) := ⟨n.toNat, by omega⟩
  obtain ⟨c1, o1, e1, e2, e3, e4⟩ := sg_out (N := N) hco hN (k0 := fun o o1 o2 o3 => sgTail N o o2 o3) (x := n) (x1 := x1) (x2 := x2) (o1 := 0) (o2 := n) hn.2 d 0 N k c [] (by omega) (by omega) (by omega) (by omega) h (by omega) List.Pairwise.nil (by simp; omega)
  simp at e4
  obtain ⟨g, c2, f1, f2, f3⟩ := sgTail_ok (N := N) (o2 := n) hco e2 (by omega) (show o1.length ≤ 1000 by omega)
  exact ⟨g, c2, e1.trans f1, cur_mono f2 (by omega), by omega⟩
theorem someGraph_ok {N : Nat} {code : List Int} {k : Nat} {c : List Int × (Int × Int)} {most : Int} (hco : codeOk code) (hN : 1048577 ≤ N) (h : CurOk code k c) (hk : k ≤ 90000) (hm : 6 ≤ most ∧ most ≤ 8) :
    ∃ g c', Zq73 N c most = some ((g, ()), (c', ())) ∧ CurOk code (k + 200) c' ∧ g.2.length ≤ 100 := by
  unfold Zq73
  obtain ⟨n, c1, a1, a2, a3⟩ := among_ok (N := N) hco h (by omega) (l := [4, 5, 3, 6, 2, 1, 0]) (by simp)
  rw [a1, bind_some']
  simp only []
  have hn : 0 ≤ n ∧ n ≤ 6 := by simp at a3; omega
  have rest : ∀ (n : Int) (kk : Nat) (c : List Int × (Int × Int)), 0 ≤ n → CurOk code kk c → kk ≤ k + 6 → ∃ g c', ((Zq76 N n most).bind fun r3 =>
      ((Zq65 N c [1, 3, 4, 6]).bind fun r4 =>
        ((Zq71 N r4.2.1 5).bind fun r5 =>
          Zq73_l0 N (fun o o1 o2 o3 => sgTail N o o2 o3) N r3.1.1 r4.1.1 r5.1.1 0 r5.2.1 0 r3.1.1 []))) = some ((g, ()), (c', ())) ∧ CurOk code (k + 200) c' ∧ g.2.length ≤ 100 := by
    intro n kk c hn hc hkk
    rw [l1Least_eq, bind_some']
    simp only []
    obtain ⟨y, c2, b1, b2, _⟩ := among_ok (N := N) hco hc (by omega) (l := [1, 3, 4, 6]) (by simp)
    rw [b1, bind_some']
    simp only []
    obtain ⟨b, c3, d1, d2⟩ := one_ok (N := N) hco b2 (by omega) 5
    rw [d1, bind_some']
    simp only []
    have hr : 0 ≤ (if n < most then n else most) ∧ (if n < most then n else most) ≤ 8 := by split <;> omega
    obtain ⟨g, c', f1, f2, f3⟩ := sg_fin (N := N) (x1 := y) (x2 := b) hco hN d2 (by omega) hr
    exact ⟨g, c', f1, cur_mono f2 (by omega), f3⟩
  by_cases h6 : 6 < most
  · rw [ilt_t h6, br_t]
    obtain ⟨b, c2, d1, d2⟩ := one_ok (N := N) hco a2 (by omega) 4
    rw [d1, bind_some']
    simp only []
    cases b with
    | true =>
      rw [br_t]
      obtain ⟨y, c3, e1, e2, e3, e4, e5⟩ := pick_ok (N := N) hco d2 (by omega) 2
      rw [e1, bind_some']
      simp only []
      have := e5 (by omega)
      rw [wrap_ok (by omega) (by omega)]
      exact rest (7 + y) _ c3 (by omega) e2 (by omega)
    | false =>
      rw [br_f]
      exact rest n _ c2 hn.1 d2 (by omega)
  · rw [ilt_f h6, br_f]
    exact rest n _ c1 hn.1 a2 (by omega)
theorem cur0 {code : List Int} : CurOk code 0 (code, (0, 0)) := ⟨rfl, Int.le_refl _, by simp⟩
theorem code_ok {x : List Int} (h : ∀ y ∈ x, (Lit.int .u8 y).wf = true) (hl : x.length ≤ 65536) : codeOk x := by
  refine ⟨by omega, fun y hy => ?_⟩
  have := h y hy
  simp [Lit.wf, IntKind.min, IntKind.max, IntKind.signed, IntKind.bits] at this
  omega
theorem rInts_l0_eq {R : Type} (N : Nat) (k0 : Bool → Option R) (k1 : Unit → Option R) (a b : List Int) (hx : a.length ≤ 1099511627776) (hl : a.length = b.length) : ∀ (d n : Nat) (K : Nat), n + d = a.length → d < K →
    Zq42_l0 N k0 k1 K a b n = if a.drop n = b.drop n then k1 () else k0 false := by
  intro d
  induction d with
  | zero =>
    intro n K hd hK
    obtain ⟨k, rfl⟩ := succ_of hK
    have hn : ¬ n < a.length := by omega
    simp only [Zq42_l0, ilt_lenf hn, br_f]
    rw [if_pos]
    rw [List.drop_of_length_le (by omega), List.drop_of_length_le (by omega)]
  | succ d ih =>
    intro n K hd hK
    obtain ⟨k, rfl⟩ := succ_of hK
    have hn : n < a.length := by omega
    have hnb : n < b.length := by omega
    simp only [Zq42_l0, ilt_len hn, inb_n hn, inb_n hnb, br_t, chk_t]
    rw [wrap_succ (by omega), rdI_n hn, rdI_n hnb, ih (n + 1) k (by omega) (by omega), drop_cons hn, drop_cons hnb]
    by_cases he : a[n] = b[n]
    · rw [ine_f he, br_f, he]
      simp only [List.cons.injEq, true_and]
    · rw [ine_t he, br_t, if_neg]
      intro h
      injection h with h _
      exact he h
theorem rInts_eq {N : Nat} {a b : List Int} (hx : a.length ≤ 1099511627776) (hN : a.length < N) : Zq42 N a b = some ((decide (a = b), ()), ()) := by
  unfold Zq42
  simp only [tLen_n]
  by_cases hl : a.length = b.length
  · rw [ine_f (by omega), br_f]
    have := rInts_l0_eq N (fun x => some ((x, ()), ())) (fun _ => some ((true, ()), ())) a b hx hl a.length 0 N (by omega) (by omega)
    simp only [Int.natCast_zero, List.drop_zero] at this
    rw [this]
    by_cases h : a = b <;> simp [h]
  · rw [ine_t (by omega), br_t]
    have : a ≠ b := fun h => hl (by rw [h])
    simp [this]
theorem rTable_l0_eq {R : Type} (N : Nat) (k0 : Bool → Option R) (k1 : Unit → Option R) (a b : List (List Int)) (hx : a.length ≤ 1099511627776) (hxs : ∀ x ∈ a, x.length ≤ 1048576) (hN : 1048577 ≤ N) (hl : a.length = b.length) : ∀ (d n : Nat) (K : Nat), n + d = a.length → d < K →
    Zq44_l0 N k0 k1 K a b n = if a.drop n = b.drop n then k1 () else k0 false := by
  intro d
  induction d with
  | zero =>
    intro n K hd hK
    obtain ⟨k, rfl⟩ := succ_of hK
    have hn : ¬ n < a.length := by omega
    simp only [Zq44_l0, ilt_lenf hn, br_f]
    rw [if_pos]
    rw [List.drop_of_length_le (by omega), List.drop_of_length_le (by omega)]
  | succ d ih =>
    intro n K hd hK
    obtain ⟨k, rfl⟩ := succ_of hK
    have hn : n < a.length := by omega
    have hnb : n < b.length := by omega
    simp only [Zq44_l0, ilt_len hn, inb_n hn, inb_n hnb, br_t, chk_t]
    have ha := hxs _ (List.getElem_mem hn)
    rw [wrap_succ (by omega), rdL_n hn, rdL_n hnb, rInts_eq (by omega) (by omega), bind_some', ih (n + 1) k (by omega) (by omega), drop_cons hn, drop_cons hnb, br_ite]
    by_cases he : a[n] = b[n]
    · rw [he, if_neg (by simp)]
      simp only [List.cons.injEq, true_and]
    · rw [if_pos (by simp [he]), if_neg]
      intro h
      injection h with h _
      exact he h
theorem rTable_eq {N : Nat} {a b : List (List Int)} (hx : a.length ≤ 1048576) (hxs : ∀ x ∈ a, x.length ≤ 1048576) (hN : 1048577 ≤ N) : Zq44 N a b = some ((decide (a = b), ()), ()) := by
  unfold Zq44
  simp only [tLen_n]
  by_cases hl : a.length = b.length
  · rw [ine_f (by omega), br_f]
    have := rTable_l0_eq N (fun x => some ((x, ()), ())) (fun _ => some ((true, ()), ())) a b (by omega) hxs hN hl a.length 0 N (by omega) (by omega)
    simp only [Int.natCast_zero, List.drop_zero] at this
    rw [this]
    by_cases h : a = b <;> simp [h]
  · rw [ine_t (by omega), br_t]
    have : a ≠ b := fun h => hl (by rw [h])
    simp [this]
theorem rPairs_self {N : Nat} {a : List (Int × Int)} (hx : a.length ≤ 1048576) (hN : 1048577 ≤ N) : Zq43 N a a = some ((true, ()), ()) := by
  unfold Zq43
  rw [ine_f rfl, br_f]
  have go : ∀ (d n K : Nat), n + d = a.length → d < K → Zq43_l0 N (fun x => some ((x, ()), ())) (fun (_ : Unit) => some ((true, ()), ())) K a a (n : Int) = some ((true, ()), ()) := by
    intro d
    induction d with
    | zero =>
      intro n K hd hK
      obtain ⟨K, rfl⟩ := succ_of hK
      simp only [Zq43_l0, ilt_lenf (show ¬ n < a.length by omega), br_f]
    | succ d ih =>
      intro n K hd hK
      obtain ⟨K, rfl⟩ := succ_of hK
      have hn : n < a.length := by omega
      simp only [Zq43_l0, ilt_len hn, br_t, inb_n hn, chk_t]
      rw [ieq_t rfl, ieq_t rfl, wrap_succ (by omega)]
      simp only [Bool.and_self, Bool.not_true, br_f]
      exact ih (n + 1) K (by omega) (by omega)
  exact go a.length 0 N (by omega) (by omega)
def inS (S : List Nat) (g : Nat → Int) (a c : Int) (z : Int) : Prop := ∃ u : Nat, u ∈ S ∧ z = (u : Int) ∧ (g u = a ∨ g u = c)
theorem okSt_pair {n : Nat} {st : List (Int × Int)} (h : okSt n st) : ∀ i : Nat, i < st.length → pairAt (n : Int) st i := by
  intro i hi
  have h2 := h.2 _ (List.getElem_mem hi)
  rw [← rdP_n hi] at h2
  refine ⟨⟨h2.1, h2.2.1, h2.2.2⟩, fun h0 => ?_⟩
  have := (List.pairwise_iff_getElem.1 h.1) (i - 1) i (by omega) hi (by omega)
  rw [rdP_n hi, rdP_n (show i - 1 < st.length by omega)]
  exact this
noncomputable def card (m A : Nat) : Nat := (setOf m A).length
def subN (m A B : Nat) : Prop := ∀ i, i < m → A.testBit i = true → B.testBit i = true
theorem subN_refl (m A : Nat) : subN m A A := fun _ _ h => h
theorem subN_trans {m A B C : Nat} (h1 : subN m A B) (h2 : subN m B C) : subN m A C := fun i hi h => h2 i hi (h1 i hi h)
theorem sub_mem {m A B : Nat} (h : subN m A B) : ∀ z ∈ setOf m A, z ∈ setOf m B := fun z hz => by
  obtain ⟨i, hi, hb, rfl⟩ := mem_setOf.1 hz
  exact mem_setN.2 ⟨hi, h i hi hb⟩
theorem card_out {m A x : Nat} (hx : x < m) (h : A.testBit x = false) : card m (A ^^^ 2 ^ x) = card m A + 1 := by
  have h1 := nodup_le (a := (x : Int) :: setOf m A) (b := setOf m (A ^^^ 2 ^ x)) (List.nodup_cons.2 ⟨(fun q => by rw [(mem_setN.1 q).2] at h; cases h), setOf_nodup m A⟩) fun z hz => by
    rcases List.mem_cons.1 hz with rfl | hz
    · exact mem_setN.2 ⟨hx, by rw [xor_bit, h]; simp⟩
    · obtain ⟨i, hi, hb, rfl⟩ := mem_setOf.1 hz
      refine mem_setN.2 ⟨hi, ?_⟩
      rw [xor_bit, hb]
      by_cases e : x = i
      · subst e; rw [h] at hb; cases hb
      · simp [e]
  have h2 := nodup_le (a := setOf m (A ^^^ 2 ^ x)) (b := (x : Int) :: setOf m A) (setOf_nodup m _) fun z hz => by
    obtain ⟨i, hi, hb, rfl⟩ := mem_setOf.1 hz
    by_cases e : x = i
    · subst e; exact List.mem_cons_self ..
    · refine List.mem_cons_of_mem _ (mem_setN.2 ⟨hi, ?_⟩)
      rw [xor_bit] at hb
      simpa [e] using hb
  unfold card
  simp only [List.length_cons] at h1 h2
  omega
theorem xor_twice (A x : Nat) : (A ^^^ 2 ^ x) ^^^ 2 ^ x = A := by rw [Nat.xor_assoc, Nat.xor_self, Nat.xor_zero]
theorem card_in {m A x : Nat} (hx : x < m) (h : A.testBit x = true) : card m (A ^^^ 2 ^ x) + 1 = card m A := by
  have := card_out (A := A ^^^ 2 ^ x) hx (by rw [xor_bit, h]; simp)
  rw [xor_twice] at this
  omega
theorem sub_add {m A x : Nat} (h : A.testBit x = false) : subN m A (A ^^^ 2 ^ x) := fun i hi hb => by
  rw [xor_bit, hb]
  by_cases e : x = i
  · subst e; rw [h] at hb; cases hb
  · simp [e]
theorem sub_rem {m A x : Nat} (h : A.testBit x = true) : subN m (A ^^^ 2 ^ x) A := fun i hi hb => by
  rw [xor_bit] at hb
  by_cases e : x = i
  · subst e; exact h
  · simpa [e] using hb
def upV (m : Nat) (V : Nat → Prop) : Prop := ∀ A B, A < 2 ^ m → B < 2 ^ m → subN m A B → V A → V B
def oth (m A : Nat) : Nat := (2 ^ m - 1) ^^^ A
theorem oth_bit {m A i : Nat} (hi : i < m) : (oth m A).testBit i = !A.testBit i := by
  unfold oth
  rw [Nat.testBit_xor, Nat.testBit_two_pow_sub_one]
  simp [hi]
theorem oth_lt {m A : Nat} (hA : A < 2 ^ m) : oth m A < 2 ^ m := Nat.xor_lt_two_pow (by have := Nat.two_pow_pos m; omega) hA
theorem oth_oth (m A : Nat) : oth m (oth m A) = A := by
  unfold oth
  rw [← Nat.xor_assoc, Nat.xor_self, Nat.zero_xor]
theorem oth_xor (m A x : Nat) : oth m (A ^^^ 2 ^ x) = oth m A ^^^ 2 ^ x := by
  unfold oth
  rw [Nat.xor_assoc]
theorem oth_sub {m A B : Nat} (h : subN m A B) : subN m (oth m B) (oth m A) := fun i hi hb => by
  rw [oth_bit hi] at hb ⊢
  cases ha : A.testBit i with
  | true => rw [h i hi ha] at hb; cases hb
  | false => rfl
def tightV (m : Nat) (V : Nat → Prop) (T : Nat) : Prop := V T ∧ ∀ x, x < m → T.testBit x = true → ¬ V (T ^^^ 2 ^ x)
def sg (kind : Int) (m A : Nat) : Nat := if kind = 2 then oth m A else A
theorem sg_lt {kind : Int} {m A : Nat} (h : A < 2 ^ m) : sg kind m A < 2 ^ m := by
  unfold sg
  split
  · exact oth_lt h
  · exact h
theorem sg_xor {kind : Int} {m A x : Nat} : sg kind m (A ^^^ 2 ^ x) = sg kind m A ^^^ 2 ^ x := by
  unfold sg
  split
  · exact oth_xor m A x
  · rfl
theorem sg_inv {kind : Int} {m A : Nat} : sg kind m (sg kind m A) = A := by
  unfold sg
  split
  · exact oth_oth m A
  · rfl
theorem sg_bit {kind : Int} {m A i : Nat} (hi : i < m) : (sg kind m A).testBit i = (A.testBit i != decide (kind = 2)) := by
  unfold sg
  by_cases h : kind = 2
  · rw [if_pos h, oth_bit hi, decide_eq_true h]
    simp
  · rw [if_neg h, decide_eq_false h]
    simp
def vK (m : Nat) (es : List (Int × Int)) (kind : Int) (T : Nat) : Prop := hasK m es kind (setOf m (sg kind m T))
theorem vK_up (m : Nat) (es : List (Int × Int)) (kind : Int) : upV m (vK m es kind) := fun A B hA hB h v => by
  unfold vK sg at *
  by_cases hk : kind = 2
  · subst hk
    rw [if_pos rfl] at v ⊢
    exact hasK_down (A := oth m A) (sub_mem (oth_sub h)) v
  · rw [if_neg hk] at v ⊢
    exact hasK_up hk (sub_mem h) v
theorem vK_sg {m : Nat} {es : List (Int × Int)} {kind : Int} {A : Nat} : vK m es kind (sg kind m A) ↔ hasK m es kind (setOf m A) := by unfold vK; rw [sg_inv]
def tightM (m : Nat) (es : List (Int × Int)) (kind : Int) (A : Nat) : Prop := ∀ x, x < m → (A.testBit x != decide (kind = 2)) = true → ¬ hasK m es kind (setOf m (A ^^^ 2 ^ x))
theorem tight_iff {m : Nat} {es : List (Int × Int)} {kind : Int} {A : Nat} : tightV m (vK m es kind) (sg kind m A) ↔ hasK m es kind (setOf m A) ∧ tightM m es kind A := by
  unfold tightV tightM
  rw [vK_sg]
  refine and_congr_right fun _ => forall_congr' fun x => forall_congr' fun hx => ?_
  rw [sg_bit hx, ← sg_xor, vK_sg]
noncomputable def grV (V : Nat → Prop) (T x : Nat) : Nat := if T.testBit x = true ∧ V (T ^^^ 2 ^ x) then T ^^^ 2 ^ x else T
noncomputable def grN (V : Nat → Prop) : Nat → Nat → Nat
  | 0, T => T
  | x + 1, T => grV V (grN V x T) x
theorem grN_facts {m : Nat} {V : Nat → Prop} (hV : upV m V) {T : Nat} (hT : T < 2 ^ m) (vT : V T) : ∀ x, x ≤ m → grN V x T < 2 ^ m ∧ V (grN V x T) ∧ subN m (grN V x T) T ∧ ∀ y, y < x → (grN V x T).testBit y = true → ¬ V (grN V x T ^^^ 2 ^ y) := by
  intro x
  induction x with
  | zero => intro _; exact ⟨hT, vT, subN_refl m T, fun y hy => by omega⟩
  | succ x ih =>
    intro hx
    obtain ⟨h1, h2, h3, h4⟩ := ih (by omega)
    show grV V (grN V x T) x < 2 ^ m ∧ V (grV V (grN V x T) x) ∧ subN m (grV V (grN V x T) x) T ∧ ∀ y, y < x + 1 → (grV V (grN V x T) x).testBit y = true → ¬ V (grV V (grN V x T) x ^^^ 2 ^ y)
    generalize grN V x T = S at h1 h2 h3 h4
    unfold grV
    by_cases q : S.testBit x = true ∧ V (S ^^^ 2 ^ x)
    · rw [if_pos q]
      have hl := xor_lt (m := m) (x := x) h1 (by omega)
      refine ⟨hl, q.2, subN_trans (sub_rem q.1) h3, fun y hy hb hv => ?_⟩
      by_cases e : y = x
      · subst e
        rw [xor_bit, q.1] at hb
        simp at hb
      · have hyS : S.testBit y = true := by
          rw [xor_bit] at hb
          simpa [Ne.symm e] using hb
        refine h4 y (by omega) hyS (hV _ _ (xor_lt hl (by omega)) (xor_lt h1 (by omega)) (fun i hi h => ?_) hv)
        rw [xor_bit, xor_bit] at h
        rw [xor_bit]
        by_cases e2 : x = i
        · subst e2
          rw [q.1] at h ⊢
          simp [e] at h ⊢
        · simpa [e2] using h
    · rw [if_neg q]
      refine ⟨h1, h2, h3, fun y hy hb hv => ?_⟩
      by_cases e : y = x
      · subst e
        exact q ⟨hb, hv⟩
      · exact h4 y (by omega) hb hv
theorem grN_tight {m : Nat} {V : Nat → Prop} (hV : upV m V) {T : Nat} (hT : T < 2 ^ m) (vT : V T) : tightV m V (grN V m T) := by
  obtain ⟨_, h2, _, h4⟩ := grN_facts hV hT vT m (Nat.le_refl _)
  exact ⟨h2, h4⟩
theorem grN_same {m : Nat} {V : Nat → Prop} {T : Nat} (h : tightV m V T) : ∀ x, x ≤ m → grN V x T = T := by
  intro x
  induction x with
  | zero => intro _; rfl
  | succ x ih =>
    intro hx
    show grV V (grN V x T) x = T
    rw [ih (by omega)]
    unfold grV
    rw [if_neg fun q => h.2 x (by omega) q.1 q.2]
theorem xor_lift : ∀ x : Nat, x < 8 → shlI .u64 1 (x : Int) = ((2 ^ x : Nat) : Int)
  | 0, _ => by kernel_rfl
  | 1, _ => by kernel_rfl
  | 2, _ => by kernel_rfl
  | 3, _ => by kernel_rfl
  | 4, _ => by kernel_rfl
  | 5, _ => by kernel_rfl
  | 6, _ => by kernel_rfl
  | 7, _ => by kernel_rfl
  | n + 8, h => absurd h (by omega)
theorem xor64 {a b : Nat} (ha : a < 256) (hb : b < 256) : bitop .xor .u64 (a : Int) (b : Int) = ((a ^^^ b : Nat) : Int) := by
  have e1 := ofInt64 (n := a) (by omega)
  have e2 := ofInt64 (n := b) (by omega)
  have h1 : a ^^^ b < 256 := Nat.xor_lt_two_pow (n := 8) ha hb
  show IntKind.u64.wrap (((BitVec.ofInt 64 (a : Int) ^^^ BitVec.ofInt 64 (b : Int)).toNat : Nat) : Int) = _
  rw [BitVec.toNat_xor, e1, e2]
  exact wrap64 (by omega)
theorem turn_eq {m A x : Nat} (hm : m ≤ 8) (hA : A < 2 ^ m) (hx : x < m) : bitop .xor .u64 (A : Int) (shlI .u64 1 (x : Int)) = ((A ^^^ 2 ^ x : Nat) : Int) := by
  have := pow256 hm
  rw [xor_lift x (by omega), xor64 (by omega) (Nat.lt_of_lt_of_le (Nat.pow_lt_pow_right (by omega) hx) this)]
def shrB (kind : Int) (A x : Nat) : Bool := A.testBit x != decide (kind = 2)
theorem shr_impl (kind : Int) (A x : Nat) : (!(A.testBit x == ieq kind 2)) = shrB kind A x := by
  unfold shrB
  rw [ieq_d]
  cases A.testBit x <;> cases decide (kind = 2) <;> rfl
theorem shr_spec (kind : Int) (A x : Nat) : (A.testBit x == ine kind 2) = shrB kind A x := by
  unfold shrB
  rw [ine_d, decide_not]
  cases A.testBit x <;> cases decide (kind = 2) <;> rfl
theorem dec_mem {m A x : Nat} (hx : x < m) : decide ((x : Int) ∈ setOf m A) = A.testBit x := by
  cases h : A.testBit x with
  | true => exact decide_eq_true (mem_setN.2 ⟨hx, h⟩)
  | false => exact decide_eq_false fun q => by rw [(mem_setN.1 q).2] at h; cases h
theorem isTight_eq {N m A : Nat} {es : List (Int × Int)} {kind : Int} (hm : m ≤ 8) (hA : A < 2 ^ m) (hg : goodG ((m : Int), es)) (hx : es.length ≤ 1048576) (hN : 1048577 ≤ N) : Zq11 N ((m : Int), es) kind (A : Int) = some ((decide (tightM m es kind A), ()), ()) := by
  have h256 := pow256 hm
  unfold Zq11
  have := loop_all_if (P := tightM m es kind A) (m := m) (L := fun K i => Zq11_l0 N (fun x => some ((x, ()), ())) (fun (_ : Unit) => some ((true, ()), ())) K kind (A : Int) (m : Int) (i : Int) (m : Int) es) (fun x => (A.testBit x != decide (kind = 2)) = true → ¬ hasK m es kind (setOf m (A ^^^ 2 ^ x))) Iff.rfl (kt := some ((true, ()), ())) (kf := some ((false, ()), ())) (fun K n hn => ?_) (fun K n hn hp => ?_) (fun K n hn hp => ?_) (show m < N by omega)
  · rw [show ((0 : Nat) : Int) = 0 from rfl] at this
    simp only []
    rw [this]
    by_cases h : tightM m es kind A <;> simp [h]
  · simp only [Zq11_l0, ilt_nf hn, br_f]
  · simp only [Zq11_l0, ilt_n hn, br_t]
    rw [bag_has_eq (by omega) (by omega), bind_some']
    simp only []
    rw [shr_impl, ile_t (by omega), chk_t, turn_eq hm hA hn, hasKind_eq hm (xor_lt hA hn) hg hx hN, bind_some', wrap_succ (by omega)]
    simp only []
    cases hs : shrB kind A n with
    | true => rw [br_t, decide_eq_false (hp hs), br_f]
    | false => rw [br_f]
  · have hs : shrB kind A n = true := Classical.byContradiction fun q => hp fun q2 => absurd q2 q
    have hk : hasK m es kind (setOf m (A ^^^ 2 ^ n)) := Classical.byContradiction fun q => hp fun _ => q
    simp only [Zq11_l0, ilt_n hn, br_t]
    rw [bag_has_eq (by omega) (by omega), bind_some']
    simp only []
    rw [shr_impl, hs, br_t, ile_t (by omega), chk_t, turn_eq hm hA hn, hasKind_eq hm (xor_lt hA hn) hg hx hN, bind_some', decide_eq_true hk, br_t]
theorem l4Tight_eq {N m A : Nat} {es : List (Int × Int)} {kind : Int} (hm : m ≤ 8) (hA : A < 2 ^ m) (hx : es.length ≤ 1048576) (hN : 1048577 ≤ N) : Zq99 N ((m : Int), es) kind (setOf m A) = some ((decide (tightM m es kind A), ()), ()) := by
  have h256 := pow256 hm
  have hsl := setOf_len m A
  unfold Zq99
  have := loop_all_if (P := tightM m es kind A) (m := m) (L := fun K i => Zq99_l0 N (fun x => some ((x, ()), ())) (fun (_ : Unit) => some ((true, ()), ())) K kind (setOf m A) (i : Int) (m : Int) es) (fun x => (A.testBit x != decide (kind = 2)) = true → ¬ hasK m es kind (setOf m (A ^^^ 2 ^ x))) Iff.rfl (kt := some ((true, ()), ())) (kf := some ((false, ()), ())) (fun K n hn => ?_) (fun K n hn hp => ?_) (fun K n hn hp => ?_) (show m < N by omega)
  · rw [show ((0 : Nat) : Int) = 0 from rfl] at this
    simp only []
    rw [this]
    by_cases h : tightM m es kind A <;> simp [h]
  · simp only [Zq99_l0, ilt_nf hn, br_f]
  · have hs2 := setOf_len m (A ^^^ 2 ^ n)
    simp only [Zq99_l0, ilt_n hn, br_t]
    rw [l1Has_eq (by omega) hN, bind_some']
    simp only []
    rw [dec_mem hn, shr_spec, l4Turned_eq hm hA hn hN, bind_some']
    simp only []
    rw [l4Has_eq hm hx (by omega) hN, bind_some', wrap_succ (by omega)]
    simp only []
    cases hs : shrB kind A n with
    | true => rw [br_t, decide_eq_false (hp hs), br_f]
    | false => rw [br_f]
  · have hs : shrB kind A n = true := Classical.byContradiction fun q => hp fun q2 => absurd q2 q
    have hk : hasK m es kind (setOf m (A ^^^ 2 ^ n)) := Classical.byContradiction fun q => hp fun _ => q
    have hs2 := setOf_len m (A ^^^ 2 ^ n)
    simp only [Zq99_l0, ilt_n hn, br_t]
    rw [l1Has_eq (by omega) hN, bind_some']
    simp only []
    rw [dec_mem hn, shr_spec, hs, br_t, l4Turned_eq hm hA hn hN, bind_some']
    simp only []
    rw [l4Has_eq hm hx (by omega) hN, bind_some', decide_eq_true hk, br_t]
def KindL (m : Nat) (es : List (Int × Int)) (kind : Int) (L : List (List Int)) : Prop := L.Pairwise sizeLt ∧ L.length ≤ 2304 ∧ ∀ s, s ∈ L ↔ (∃ a : Nat, a < 2 ^ m ∧ s = setOf m a) ∧ hasK m es kind s
noncomputable def cmpS (a b : List Int) : Int := if a.length < b.length then -1 else if b.length < a.length then 1 else lexC a b
theorem compareSets_eq {N : Nat} {a b : List Int} (ha : a.length ≤ 1048576) (hb : b.length ≤ 1048576) (hN : 1048577 ≤ N) : Zq30 N a b = some ((cmpS a b, ()), ()) := by
  unfold Zq30 cmpS
  rw [compare_eq, bind_some', Compare_lex ha hb hN, bind_some']
  simp only []
  rw [Or2_eq hN, bind_some', tLen_n, tLen_n]
  congr 3
  by_cases h1 : a.length < b.length
  · rw [if_pos (show (a.length : Int) < b.length by omega), if_pos h1]
    simp
  · rw [if_neg (show ¬ (a.length : Int) < b.length by omega), if_neg h1]
    by_cases h2 : b.length < a.length
    · rw [if_pos (show (b.length : Int) < a.length by omega), if_pos h2]
      simp
    · rw [if_neg (show ¬ (b.length : Int) < a.length by omega), if_neg h2]
      simp
theorem cmpS_lt {a b : List Int} : cmpS a b < 0 ↔ sizeLt a b := by
  unfold cmpS sizeLt
  by_cases h1 : a.length < b.length
  · rw [if_pos h1]
    simp [h1]
  · rw [if_neg h1]
    by_cases h2 : b.length < a.length
    · rw [if_pos h2]
      constructor
      · intro q; omega
      · rintro (q | q) <;> omega
    · rw [if_neg h2]
      constructor
      · intro q; exact .inr ⟨by omega, q⟩
      · rintro (q | q)
        · omega
        · exact q.2
theorem sizeLt_irr (a : List Int) : ¬ sizeLt a a := by
  rintro (q | q)
  · omega
  · have := q.2
    rw [lexC_self] at this
    omega
theorem sizeLt_trans {a b c : List Int} (h1 : sizeLt a b) (h2 : sizeLt b c) : sizeLt a c := by
  rcases h1 with h1 | ⟨h1, h3⟩
  · rcases h2 with h2 | ⟨h2, _⟩
    · exact .inl (by omega)
    · exact .inl (by omega)
  · rcases h2 with h2 | ⟨h2, h4⟩
    · exact .inl (by omega)
    · exact .inr ⟨by omega, lexC_trans h3 h4⟩
theorem sizeLt_tot {a b : List Int} (h1 : ¬ sizeLt a b) (h2 : a ≠ b) : sizeLt b a := by
  by_cases q : b.length < a.length
  · exact .inl q
  · by_cases q2 : a.length < b.length
    · exact absurd (.inl q2) h1
    · exact .inr ⟨by omega, lexC_flip (fun q3 => h1 (.inr ⟨by omega, q3⟩)) h2⟩
theorem size_nodup {L : List (List Int)} (h : L.Pairwise sizeLt) : L.Nodup := h.imp fun {a b} hab e => by subst e; exact sizeLt_irr _ hab
theorem SortFunc_sets {N : Nat} {xs ys : List (List Int)} (hx : xs.length ≤ 1048576) (hl : ∀ x ∈ xs, x.length ≤ 1048576) (hn : xs.Nodup) (hs : ys.Pairwise sizeLt) (hm : ∀ s, s ∈ ys ↔ s ∈ xs) (hN : 1048577 ≤ N) :
    Zq52 N xs () = some ((), (ys, ())) := by
  have hc : ∀ a ∈ xs, ∀ b ∈ xs, (Zq30 N a b).map (fun z => z.1.1) = some (cmpS a b) := fun a ha b hb => by rw [compareSets_eq (hl a ha) (hl b hb) hN]; rfl
  have hv : ∀ a ∈ xs, ∀ b ∈ xs, cmpV (fun a b => (Zq30 N a b).map fun z => z.1.1) a b = cmpS a b := fun a ha b hb => by
    show ((Zq30 N a b).map fun z => z.1.1).getD 0 = _
    rw [hc a ha b hb]
    rfl
  unfold Zq52
  refine sortF_eq ⟨⟨by omega, fun a ha b hb => ⟨_, hc a ha b hb⟩, fun a ha => ?_, fun a ha b hb c hc' h1 h2 => ?_, fun a ha b hb c hc' h1 h2 => ?_, fun a ha b hb h1 h2 => ?_⟩, (List.perm_ext_iff_of_nodup (size_nodup hs) hn).2 hm, ?_⟩
  · rw [hv a ha a ha, cmpS_lt]
    exact sizeLt_irr a
  · rw [hv a ha b hb, cmpS_lt] at h1
    rw [hv b hb c hc', cmpS_lt] at h2
    rw [hv a ha c hc', cmpS_lt]
    exact sizeLt_trans h1 h2
  · rw [hv a ha b hb, cmpS_lt] at h1
    rw [hv b hb c hc', cmpS_lt] at h2
    rw [hv a ha c hc', cmpS_lt]
    intro h3
    by_cases e : a = b
    · exact h2 (e ▸ h3)
    · exact h2 (sizeLt_trans (sizeLt_tot h1 e) h3)
  · rw [hv a ha b hb, cmpS_lt] at h1
    rw [hv b hb a ha, cmpS_lt] at h2
    exact Classical.byContradiction fun e => h2 (sizeLt_tot h1 e)
  · refine hs.imp_of_mem fun {a b} ha hb hab => ?_
    rw [hv b ((hm b).1 hb) a ((hm a).1 ha), cmpS_lt]
    exact fun q => sizeLt_irr _ (sizeLt_trans hab q)
theorem ofKind_eq {N m : Nat} {es : List (Int × Int)} {kind : Int} {L : List (List Int)} (hm : m ≤ 8) (hg : goodG ((m : Int), es)) (hx : es.length ≤ 1048576) (hL : KindL m es kind L) (hN : 1048577 ≤ N) : Zq13 N ((m : Int), es) kind = some ((L, ()), ()) := by
  have h256 := pow256 hm
  unfold Zq13
  simp only []
  have hl1 := hL.2.1
  obtain ⟨ys, _, y1, y2⟩ := l2Sorted_eq (N := N) (xs := L) (by omega) (fun s hs => by
    obtain ⟨⟨a, _, rfl⟩, _⟩ := (hL.2.2 s).1 hs
    have := setOf_len m a
    omega) hN
  have hy : ∀ s, s ∈ ys ↔ (∃ a : Nat, a < 2 ^ m ∧ s = setOf m a) ∧ decide (hasK m es kind s) = true := fun s => by rw [y2, hL.2.2, decide_eq_true_eq]
  have hlen : ∀ s ∈ ys, s.length ≤ 1048576 := fun s hs => by
    obtain ⟨⟨a, _, rfl⟩, _⟩ := (hy s).1 hs
    have := setOf_len m a
    omega
  rw [sets_eq (p := fun s => decide (hasK m es kind s)) hm (fun a ha => ?_) y1 hy hN, bind_some']
  · simp only []
    have hsz := lex_small (m := m) y1 (fun s hs => ((hy s).1 hs).1)
    rw [SortFunc_sets (ys := L) (by omega) hlen (lex_nodup y1) hL.1 (fun s => (y2 s).symm) hN, bind_some']
  · unfold Zq14
    rw [hasKind_eq hm ha hg hx hN, bind_some', bind_some']
noncomputable def tL (m : Nat) (es : List (Int × Int)) (kind : Int) (s : List Int) : Bool := decide (∃ A, A < 2 ^ m ∧ s = setOf m A ∧ tightM m es kind A)
theorem tL_set {m A : Nat} {es : List (Int × Int)} {kind : Int} (hA : A < 2 ^ m) : tL m es kind (setOf m A) = decide (tightM m es kind A) := by
  unfold tL
  refine decide_eq_decide.2 ⟨fun ⟨B, hB, e, h⟩ => ?_, fun h => ⟨A, hA, rfl, h⟩⟩
  rw [setOf_inj hA hB e]
  exact h
theorem idx_find (g : List Int → Bool) (x : List Int) : ∀ (l : List (List Int)) (i : Nat), Lib.idxByFrom (fun _ y => g y) x l i = if l.any g = true then findAt g l i else -1 := by
  intro l
  induction l with
  | nil => intro i; rfl
  | cons y l ih =>
    intro i
    simp only [Lib.idxByFrom, List.any_cons, findAt_cons]
    rw [ih]
    by_cases h : g y = true
    · simp [h]
    · simp [h]
theorem IndexFunc_idx {N : Nat} {xs : List (List Int)} {f : List Int → Option Bool} {g : List Int → Bool} (hf : ∀ x ∈ xs, f x = some (g x)) (hx : xs.length ≤ 1099511627776) (hN : xs.length < N) : Zq49 N xs f = some ((idxR (fun x => (f x).getD false) xs, ()), ()) := by
  unfold Zq49
  have := IndexFunc_LLI_LI_l0_eq N (fun x => some ((x, ()), ())) (fun _ => some (((-1 : Int), ()), ())) xs f g hf hx xs.length 0 N (by omega) (by omega)
  simp only [Int.natCast_zero, List.drop_zero] at this
  rw [tLen_n, this]
  have e : idxR (fun x => (f x).getD false) xs = if xs.any g = true then findAt g xs 0 else -1 := by
    rw [← idx_find g []]
    unfold idxR Lib.idxBy
    have key : ∀ (l : List (List Int)) (i : Nat), (∀ x ∈ l, f x = some (g x)) → Lib.idxByFrom (fun _ y => (f y).getD false) [] l i = Lib.idxByFrom (fun _ y => g y) [] l i := by
      intro l
      induction l with
      | nil => intro i _; rfl
      | cons y l ih =>
        intro i h
        simp only [Lib.idxByFrom]
        have e : (f y).getD false = g y := by rw [h y (List.mem_cons_self ..)]; rfl
        have e2 := ih (i + 1) fun x hx => h x (List.mem_cons_of_mem _ hx)
        by_cases q : g y = true
        · rw [if_pos (e.trans q), if_pos q]
        · rw [if_neg (fun z => q (e.symm.trans z)), if_neg q]
          exact e2
    exact key xs 0 hf
  rw [e]
  split <;> rfl
theorem Delete_eq {N : Nat} {xs : List (List Int)} {f : List Int → Option Bool} {g : List Int → Bool} (hf : ∀ x ∈ xs, f x = some (g x)) (hx : xs.length ≤ 1048576) (hN : 1048577 ≤ N) : Zq48 N xs f = some ((xs.filter fun x => !g x, ()), ()) := by
  unfold Zq48 delF
  rw [if_pos ⟨fun x h => ⟨_, hf x h⟩, IndexFunc_idx hf (by omega) (by omega), by omega⟩]
  congr 3
  refine List.filter_congr fun x h => ?_
  rw [hf x h]
  rfl
theorem tight_eq {N m : Nat} {es : List (Int × Int)} {kind : Int} {L : List (List Int)} (hm : m ≤ 8) (hg : goodG ((m : Int), es)) (hx : es.length ≤ 1048576) (hL : KindL m es kind L) (hN : 1048577 ≤ N) : Zq16 N ((m : Int), es) kind = some ((L.filter (tL m es kind), ()), ()) := by
  unfold Zq16
  simp only []
  have hl := hL.2.1
  rw [ofKind_eq hm hg hx hL hN, bind_some']
  simp only []
  rw [Delete_eq (g := fun s => !tL m es kind s) (fun s hs => ?_) (by omega) hN, bind_some']
  · simp only [Bool.not_not]
  · obtain ⟨⟨A, hA, rfl⟩, _⟩ := (hL.2.2 s).1 hs
    unfold Zq17
    rw [bagOf_set hm hA hN, bind_some']
    simp only []
    rw [isTight_eq hm hA hg hx hN, bind_some', bind_some', tL_set hA]
theorem l4Sets_KL {N m : Nat} {es : List (Int × Int)} {kind : Int} (hm : m ≤ 8) (hx : es.length ≤ 1048576) (hN : 1048577 ≤ N) : ∃ L, Zq98 N ((m : Int), es) kind = some ((L, ()), ()) ∧ KindL m es kind L := by
  obtain ⟨L, h1, h2, h3, h4⟩ := l4Sets_eq (N := N) (kind := kind) hm hx hN
  exact ⟨L, h1, h2, h3, h4⟩
theorem spec_tight_l0 {R : Type} {N m : Nat} {es : List (Int × Int)} {kind : Int} {L : List (List Int)} {k0 : List (List Int) → Option R} (hm : m ≤ 8) (hx : es.length ≤ 1048576) (hL : KindL m es kind L) (hN : 1048577 ≤ N) :
    ∀ (d n K : Nat) (o : List (List Int)), n + d = L.length → d < K → o = (L.take n).filter (tL m es kind) → Zq64_l0 N k0 K kind L (n : Int) (m : Int) es o = k0 (L.filter (tL m es kind)) := by
  have hl := hL.2.1
  intro d
  induction d with
  | zero =>
    intro n K o hd hK e
    obtain ⟨K, rfl⟩ := succ_of hK
    simp only [Zq64_l0, ilt_lenf (show ¬ n < L.length by omega), br_f]
    rw [e, List.take_of_length_le (by omega)]
  | succ d ih =>
    intro n K o hd hK e
    obtain ⟨K, rfl⟩ := succ_of hK
    have hn : n < L.length := by omega
    have hol : o.length ≤ n := by
      rw [e]
      exact Nat.le_trans (List.length_filter_le ..) (by rw [List.length_take]; omega)
    obtain ⟨⟨A, hA, eA⟩, _⟩ := (hL.2.2 _).1 (List.getElem_mem hn)
    have tk : L.take (n + 1) = L.take n ++ [setOf m A] := by rw [List.take_add_one, List.getElem?_eq_getElem hn, eA]; rfl
    simp only [Zq64_l0, ilt_len hn, br_t, inb_n hn, chk_t]
    rw [rdL_n hn, eA, l4Tight_eq hm hA hx hN, bind_some', room_ok (by simp; omega), chk_t, wrap_succ (by omega), tApp_d, ← tL_set (es := es) (kind := kind) hA]
    simp only []
    cases ht : tL m es kind (setOf m A) with
    | true =>
      rw [br_t]
      refine ih (n + 1) K _ (by omega) (by omega) ?_
      rw [tk, List.filter_append, List.filter_cons_of_pos ht, e]
      rfl
    | false =>
      rw [br_f]
      refine ih (n + 1) K _ (by omega) (by omega) ?_
      rw [tk, List.filter_append, List.filter_cons_of_neg (by rw [ht]; simp), e]
      simp
def kCase (g : Int × List (Int × Int)) (kind : Int) : Prop := goodG g ∧ 1 ≤ kind ∧ kind ≤ 3
theorem Tight_both {N : Nat} {g : Int × List (Int × Int)} {kind : Int} (hx : g.2.length ≤ 1048576) (hN : 1048577 ≤ N) : ∃ r : List (List Int) × Bool, Zq64 N g kind = some ((r.1, r.2, ()), ()) ∧ Zq24 N g kind = some ((r.1, r.2, ()), ()) ∧ r.1.length ≤ 2304 ∧ (∀ s ∈ r.1, s.length ≤ 8) ∧ (r.2 = true ↔ kCase g kind) ∧ (kCase g kind → ∃ L, KindL g.1.toNat g.2 kind L ∧ r.1 = L.filter (tL g.1.toNat g.2 kind)) := by
  unfold Zq64 Zq24 Zq31
  simp only [show ((g.1, g.2) : Int × List (Int × Int)) = g from rfl]
  rw [l4Good_eq hx hN, IsGraph_eq hx hN, bind_some', bind_some', between_eq, bind_some', bind_some']
  by_cases hg : goodG g
  · by_cases hk : 1 ≤ kind ∧ kind ≤ 3
    · rw [decide_eq_true (show goodG g ∧ 1 ≤ kind ∧ kind ≤ 3 from ⟨hg, hk⟩), decide_eq_true hg, decide_eq_true hk]
      simp only [Bool.not_true, br_f]
      obtain ⟨m, hm⟩ : ∃ m : Nat, g.1 = (m : Int) := ⟨g.1.toNat, by have := hg.1; omega⟩
      obtain ⟨g1, es⟩ := g
      simp only at hm hx ⊢
      subst hm
      have hm8 : m ≤ 8 := by have := hg.1; simp only at this; omega
      obtain ⟨L, l1, l2⟩ := l4Sets_KL (N := N) (kind := kind) hm8 hx hN
      have hl := l2.2.1
      have := spec_tight_l0 (N := N) (k0 := fun o3 => some ((o3, true, ()), ())) hm8 hx l2 hN L.length 0 N [] (by omega) (by omega) (by simp)
      rw [show ((0 : Nat) : Int) = 0 from rfl] at this
      refine ⟨(L.filter (tL m es kind), true), ?_, ?_, ?_, ?_, ⟨fun _ => ⟨hg, hk⟩, fun _ => rfl⟩, fun _ => ⟨L, l2, rfl⟩⟩
      · rw [l1, bind_some']
        exact this
      · rw [tight_eq hm8 hg hx l2 hN, bind_some']
      · exact Nat.le_trans (List.length_filter_le ..) hl
      · intro s hs
        obtain ⟨⟨A, _, rfl⟩, _⟩ := (l2.2.2 s).1 (List.mem_filter.1 hs).1
        have := setOf_len m A
        omega
    · rw [decide_eq_false (fun q : goodG g ∧ 1 ≤ kind ∧ kind ≤ 3 => hk q.2), decide_eq_true hg, decide_eq_false hk]
      exact ⟨([], false), rfl, rfl, by simp, by simp, ⟨(fun q => by cases q), fun q => absurd q.2 hk⟩, fun q => absurd q.2 hk⟩
  · rw [decide_eq_false (fun q : goodG g ∧ 1 ≤ kind ∧ kind ≤ 3 => hg q.1), decide_eq_false hg]
    exact ⟨([], false), rfl, rfl, by simp, by simp, ⟨(fun q => by cases q), fun q => absurd q.1 hg⟩, fun q => absurd q.1 hg⟩
theorem setCase_facts {g : Int × List (Int × Int)} (hg : goodG g) {s : List Int} (h : rising 0 (g.1 - 1) s) : ∃ A, A < 2 ^ g.1.toNat ∧ s = setOf g.1.toNat A := by
  obtain ⟨m, hm⟩ : ∃ m : Nat, g.1 = (m : Int) := ⟨g.1.toNat, by have := hg.1; omega⟩
  rw [hm] at h
  rw [hm, show ((m : Int)).toNat = m from Int.toNat_natCast m]
  exact rising_set (by have := hg.1; omega) h
noncomputable def hasV (g : Int × List (Int × Int)) (kind : Int) (s : List Int) : Bool × Bool := if kCase g kind ∧ rising 0 (g.1 - 1) s then (decide (hasK g.1.toNat g.2 kind s), true) else (false, false)
theorem Has_both {N : Nat} {g : Int × List (Int × Int)} {kind : Int} {s : List Int} (hx : g.2.length ≤ 1048576) (hs : s.length ≤ 1048576) (hN : 1048577 ≤ N) : Zq60 N g kind s = some (((hasV g kind s).1, (hasV g kind s).2, ()), ()) ∧ Zq19 N g kind s = some (((hasV g kind s).1, (hasV g kind s).2, ()), ()) := by
  unfold Zq60 Zq90 Zq19 Zq35 Zq31 hasV
  simp only [show ((g.1, g.2) : Int × List (Int × Int)) = g from rfl]
  rw [l4Good_eq hx hN, bind_some', IsGraph_eq hx hN, bind_some']
  by_cases hg : goodG g
  · have hg1 := hg.1
    simp only [between_eq, bind_some']
    by_cases hk : 1 ≤ kind ∧ kind ≤ 3
    · rw [decide_eq_true (show goodG g ∧ 1 ≤ kind ∧ kind ≤ 3 from ⟨hg, hk⟩), decide_eq_true hg, decide_eq_true hk]
      simp only [Bool.not_true, br_f, br_t]
      rw [wrap_ok (by omega) (by omega), l1Rising_eq hs hN, bind_some', bind_some', isRising_eq hs (by omega) hN, bind_some', bind_some']
      simp only []
      by_cases h2 : rising 0 (g.1 - 1) s
      · rw [decide_eq_true h2, if_pos ⟨⟨hg, hk⟩, h2⟩]
        simp only [Bool.not_true, br_f]
        obtain ⟨A, hA, rfl⟩ := setCase_facts hg h2
        obtain ⟨m, hm⟩ : ∃ m : Nat, g.1 = (m : Int) := ⟨g.1.toNat, by omega⟩
        obtain ⟨g1, es⟩ := g
        simp only at hm hx hg1 hA hs ⊢
        subst hm
        simp only [Int.toNat_natCast] at hA hs ⊢
        rw [l4Has_eq (by omega) hx hs hN, bind_some', bagOf_set (by omega) hA hN, bind_some']
        simp only []
        rw [hasKind_eq (by omega) hA hg hx hN, bind_some']
        first | exact ⟨rfl, rfl⟩ | exact ⟨rfl, trivial⟩ | exact ⟨trivial, rfl⟩ | simp
      · rw [decide_eq_false h2, if_neg fun q => h2 q.2]
        first | exact ⟨rfl, rfl⟩ | exact ⟨rfl, trivial⟩ | exact ⟨trivial, rfl⟩ | simp
    · rw [decide_eq_false (fun q : goodG g ∧ 1 ≤ kind ∧ kind ≤ 3 => hk q.2), decide_eq_true hg, decide_eq_false hk, if_neg fun q => hk q.1.2]
      first | exact ⟨rfl, rfl⟩ | exact ⟨rfl, trivial⟩ | exact ⟨trivial, rfl⟩ | simp
  · rw [decide_eq_false (fun q : goodG g ∧ 1 ≤ kind ∧ kind ≤ 3 => hg q.1), decide_eq_false hg, if_neg fun q => hg q.1.1]
    first | exact ⟨rfl, rfl⟩ | exact ⟨rfl, trivial⟩ | exact ⟨trivial, rfl⟩ | simp
theorem ofK_set {g : Int × List (Int × Int)} {kind : Int} {s : List Int} (h : ofK g kind s) : ∃ A, A < 2 ^ g.1.toNat ∧ s = setOf g.1.toNat A := setCase_facts h.1.1 h.2.1
noncomputable def tightV' (g : Int × List (Int × Int)) (kind : Int) (s : List Int) : Bool × Bool := if ofK g kind s then (tL g.1.toNat g.2 kind s, true) else (false, false)
theorem IsTight_both {N : Nat} {g : Int × List (Int × Int)} {kind : Int} {s : List Int} (hx : g.2.length ≤ 1048576) (hs : s.length ≤ 1048576) (hN : 1048577 ≤ N) : Zq61 N g kind s = some (((tightV' g kind s).1, (tightV' g kind s).2, ()), ()) ∧ Zq21 N g kind s = some (((tightV' g kind s).1, (tightV' g kind s).2, ()), ()) := by
  unfold Zq61 Zq21 tightV'
  simp only [show ((g.1, g.2) : Int × List (Int × Int)) = g from rfl]
  rw [l4One_eq hx hs hN, bind_some', isOfKind_eq hx hs hN, bind_some']
  by_cases h : ofK g kind s
  · rw [decide_eq_true h, if_pos h]
    simp only [Bool.not_true, br_f]
    obtain ⟨A, hA, rfl⟩ := ofK_set h
    have hg := h.1.1
    have hg1 := hg.1
    obtain ⟨m, hm⟩ : ∃ m : Nat, g.1 = (m : Int) := ⟨g.1.toNat, by omega⟩
    obtain ⟨g1, es⟩ := g
    simp only at hm hx hg1 hA hs ⊢
    subst hm
    simp only [Int.toNat_natCast] at hA hs ⊢
    rw [l4Tight_eq (by omega) hA hx hN, bind_some', bagOf_set (by omega) hA hN, bind_some']
    simp only []
    rw [isTight_eq (by omega) hA hg hx hN, bind_some', tL_set hA]
    first | exact ⟨rfl, rfl⟩ | exact ⟨rfl, trivial⟩ | exact ⟨trivial, rfl⟩ | simp
  · rw [decide_eq_false h, if_neg h]
    first | exact ⟨rfl, rfl⟩ | exact ⟨rfl, trivial⟩ | exact ⟨trivial, rfl⟩ | simp
noncomputable def kwaysL (m : Nat) (es : List (Int × Int)) (kind : Int) (A : Nat) : List Int := ((List.range' 0 m).filter fun x => decide (hasK m es kind (setOf m (A ^^^ 2 ^ x)))).map fun x : Nat => (x : Int)
theorem mem_kways {m : Nat} {es : List (Int × Int)} {kind : Int} {A x : Nat} : (x : Int) ∈ kwaysL m es kind A ↔ x < m ∧ hasK m es kind (setOf m (A ^^^ 2 ^ x)) := by
  unfold kwaysL
  rw [List.mem_map]
  constructor
  · rintro ⟨y, hy, e⟩
    rw [List.mem_filter, List.mem_range'_1, decide_eq_true_eq] at hy
    have : y = x := by omega
    subst this
    exact ⟨by omega, hy.2⟩
  · rintro ⟨h1, h2⟩
    exact ⟨x, by rw [List.mem_filter, List.mem_range'_1, decide_eq_true_eq]; exact ⟨by omega, h2⟩, rfl⟩
theorem kwaysL_len (m : Nat) (es : List (Int × Int)) (kind : Int) (A : Nat) : (kwaysL m es kind A).length ≤ m := by
  unfold kwaysL
  rw [List.length_map]
  exact Nat.le_trans (List.length_filter_le ..) (by simp)
theorem Ways_both {N : Nat} {g : Int × List (Int × Int)} {kind : Int} {s : List Int} (hx : g.2.length ≤ 1048576) (hs : s.length ≤ 1048576) (hN : 1048577 ≤ N) : ∃ r : List Int × Bool, Zq62 N g kind s = some ((r.1, r.2, ()), ()) ∧ Zq22 N g kind s = some ((r.1, r.2, ()), ()) ∧ r.1.length ≤ 8 ∧ r.2 = decide (ofK g kind s) ∧ ∀ A, A < 2 ^ g.1.toNat → s = setOf g.1.toNat A → ofK g kind s → r.1 = kwaysL g.1.toNat g.2 kind A := by
  unfold Zq62 Zq22
  simp only [show ((g.1, g.2) : Int × List (Int × Int)) = g from rfl]
  rw [l4One_eq hx hs hN, bind_some', isOfKind_eq hx hs hN, bind_some']
  by_cases h : ofK g kind s
  · rw [decide_eq_true h]
    simp only [Bool.not_true, br_f]
    obtain ⟨A, hA, rfl⟩ := ofK_set h
    have hg := h.1.1
    have hg1 := hg.1
    obtain ⟨m, hm⟩ : ∃ m : Nat, g.1 = (m : Int) := ⟨g.1.toNat, by omega⟩
    obtain ⟨g1, es⟩ := g
    simp only at hm hx hg1 hA hs ⊢
    subst hm
    simp only [Int.toNat_natCast] at hA hs ⊢
    have hm8 : m ≤ 8 := by omega
    have hwl := kwaysL_len m es kind A
    have e : iter (fun n (o : List Int) => if hasK m es kind (setOf m (A ^^^ 2 ^ n)) then o ++ [(n : Int)] else o) m 0 [] = kwaysL m es kind A := by
      rw [iter_app, List.nil_append]
      rfl
    have i1 := loop_iter (L := fun K n o => Zq22_l0 N (fun o => some ((o, true, ()), ())) K kind (setOf m A) (m : Int) n (m : Int) es o) (k := fun o => some ((o, true, ()), ())) (m := m) (Inv := fun n o => o.length ≤ n) (step := fun n o => if hasK m es kind (setOf m (A ^^^ 2 ^ n)) then o ++ [(n : Int)] else o) (fun K n o hn _ => by
      simp only [Zq22_l0, ilt_nf hn, br_f]) (fun K n o hn ho => by
      simp only [Zq22_l0, ilt_n hn, br_t]
      rw [bagOf_set hm8 hA hN, bind_some']
      simp only []
      rw [ile_t (by omega), chk_t, turn_eq hm8 hA hn, hasKind_eq hm8 (xor_lt hA hn) hg hx hN, bind_some', room_ok (by simp; omega), chk_t, wrap_succ (by omega), tApp_d]
      simp only []
      by_cases q : hasK m es kind (setOf m (A ^^^ 2 ^ n))
      · rw [decide_eq_true q, br_t, if_pos q]
      · rw [decide_eq_false q, br_f, if_neg q]) (fun n o hn ho => by
      by_cases q : hasK m es kind (setOf m (A ^^^ 2 ^ n))
      · rw [if_pos q]; simp; omega
      · rw [if_neg q]; omega) (K := N) (s := []) (by omega) (by simp)
    have i2 := loop_iter (L := fun K n o => Zq62_l0 N (fun o => some ((o, true, ()), ())) K kind (setOf m A) n (m : Int) es o) (k := fun o => some ((o, true, ()), ())) (m := m) (Inv := fun n o => o.length ≤ n) (step := fun n o => if hasK m es kind (setOf m (A ^^^ 2 ^ n)) then o ++ [(n : Int)] else o) (fun K n o hn _ => by
      simp only [Zq62_l0, ilt_nf hn, br_f]) (fun K n o hn ho => by
      have hs2 := setOf_len m (A ^^^ 2 ^ n)
      simp only [Zq62_l0, ilt_n hn, br_t]
      rw [l4Turned_eq hm8 hA hn hN, bind_some']
      simp only []
      rw [l4Has_eq hm8 hx (by omega) hN, bind_some', room_ok (by simp; omega), chk_t, wrap_succ (by omega), tApp_d]
      simp only []
      by_cases q : hasK m es kind (setOf m (A ^^^ 2 ^ n))
      · rw [decide_eq_true q, br_t, if_pos q]
      · rw [decide_eq_false q, br_f, if_neg q]) (fun n o hn ho => by
      by_cases q : hasK m es kind (setOf m (A ^^^ 2 ^ n))
      · rw [if_pos q]; simp; omega
      · rw [if_neg q]; omega) (K := N) (s := []) (by omega) (by simp)
    rw [e] at i1 i2
    simp only [Int.natCast_zero] at i1 i2
    refine ⟨(kwaysL m es kind A, true), i2, i1, by simp only; omega, rfl, fun B hB e2 _ => ?_⟩
    rw [setOf_inj hA hB e2]
  · rw [decide_eq_false h]
    exact ⟨([], false), rfl, rfl, by simp, rfl, fun A _ _ q => absurd q h⟩
noncomputable def grM (m : Nat) (es : List (Int × Int)) (kind : Int) (x A : Nat) : Nat := sg kind m (grN (vK m es kind) x (sg kind m A))
theorem grM_zero (m : Nat) (es : List (Int × Int)) (kind : Int) (A : Nat) : grM m es kind 0 A = A := by
  show sg kind m (sg kind m A) = A
  exact sg_inv
theorem grM_succ {m : Nat} {es : List (Int × Int)} {kind : Int} {x A : Nat} (hx : x < m) : grM m es kind (x + 1) A = if shrB kind (grM m es kind x A) x = true ∧ hasK m es kind (setOf m (grM m es kind x A ^^^ 2 ^ x)) then grM m es kind x A ^^^ 2 ^ x else grM m es kind x A := by
  show sg kind m (grV (vK m es kind) (grN (vK m es kind) x (sg kind m A)) x) = _
  unfold grM
  generalize grN (vK m es kind) x (sg kind m A) = S
  unfold grV
  have e1 : (S.testBit x = true) ↔ shrB kind (sg kind m S) x = true := by
    unfold shrB
    rw [sg_bit hx]
    cases S.testBit x <;> cases decide (kind = 2) <;> simp
  have e2 : vK m es kind (S ^^^ 2 ^ x) ↔ hasK m es kind (setOf m (sg kind m S ^^^ 2 ^ x)) := by
    unfold vK
    rw [sg_xor]
  by_cases q : S.testBit x = true ∧ vK m es kind (S ^^^ 2 ^ x)
  · rw [if_pos q, if_pos ⟨e1.1 q.1, e2.1 q.2⟩, sg_xor]
  · rw [if_neg q, if_neg fun z => q ⟨e1.2 z.1, e2.2 z.2⟩]
theorem Greedy_both {N : Nat} {g : Int × List (Int × Int)} {kind : Int} {s : List Int} (hx : g.2.length ≤ 1048576) (hs : s.length ≤ 1048576) (hN : 1048577 ≤ N) : ∃ r : List Int × Bool, Zq59 N g kind s = some ((r.1, r.2, ()), ()) ∧ Zq18 N g kind s = some ((r.1, r.2, ()), ()) ∧ r.1.length ≤ 8 ∧ r.2 = decide (ofK g kind s) ∧ ∀ A, A < 2 ^ g.1.toNat → s = setOf g.1.toNat A → ofK g kind s → r.1 = setOf g.1.toNat (grM g.1.toNat g.2 kind g.1.toNat A) := by
  unfold Zq59 Zq18
  simp only [show ((g.1, g.2) : Int × List (Int × Int)) = g from rfl]
  rw [l4One_eq hx hs hN, bind_some', isOfKind_eq hx hs hN, bind_some']
  by_cases h : ofK g kind s
  · rw [decide_eq_true h]
    simp only [Bool.not_true, br_f]
    obtain ⟨A, hA, rfl⟩ := ofK_set h
    have hg := h.1.1
    have hg1 := hg.1
    have hk := h.2.2
    obtain ⟨m, hm⟩ : ∃ m : Nat, g.1 = (m : Int) := ⟨g.1.toNat, by omega⟩
    obtain ⟨g1, es⟩ := g
    simp only at hm hx hg1 hA hs hk ⊢
    subst hm
    simp only [Int.toNat_natCast] at hA hs hk ⊢
    have hm8 : m ≤ 8 := by omega
    have h256 := pow256 hm8
    have hlt : ∀ x, x ≤ m → grM m es kind x A < 2 ^ m := fun x hx2 => sg_lt (grN_facts (vK_up m es kind) (sg_lt hA) (vK_sg.2 hk) x hx2).1
    have i1 : ∀ (d n K : Nat), n + d = m → d < K → Zq18_l0 N (fun b => ((Zq27 N b).bind fun r2 => some ((r2.1.1, true, ()), ()))) K kind (grM m es kind n A : Int) (m : Int) (n : Int) (m : Int) es = some ((setOf m (grM m es kind m A), true, ()), ()) := by
      intro d
      induction d with
      | zero =>
        intro n K hd hK
        obtain ⟨K, rfl⟩ := succ_of hK
        have : n = m := by omega
        subst this
        simp only [Zq18_l0, ilt_nf (Nat.lt_irrefl n), br_f]
        rw [bag_list_eq hm8 (hlt n (Nat.le_refl _)) hN, bind_some']
      | succ d ih =>
        intro n K hd hK
        obtain ⟨K, rfl⟩ := succ_of hK
        have hn : n < m := by omega
        have hl := hlt n (by omega)
        simp only [Zq18_l0, ilt_n hn, br_t]
        rw [bag_has_eq (by omega) (by omega), bind_some']
        simp only []
        rw [shr_impl, ile_t (by omega), chk_t, turn_eq hm8 hl hn, hasKind_eq hm8 (xor_lt hl hn) hg hx hN, bind_some', chk_t, wrap_succ (by omega)]
        simp only []
        have nx := ih (n + 1) K (by omega) (by omega)
        rw [grM_succ hn] at nx
        cases hsb : shrB kind (grM m es kind n A) n with
        | true =>
          rw [br_t]
          by_cases q : hasK m es kind (setOf m (grM m es kind n A ^^^ 2 ^ n))
          · rw [if_pos ⟨hsb, q⟩] at nx
            rw [decide_eq_true q, br_t]
            exact nx
          · rw [if_neg fun z => q z.2] at nx
            rw [decide_eq_false q, br_f]
            exact nx
        | false =>
          rw [if_neg fun z => by rw [hsb] at z; cases z.1] at nx
          rw [br_f]
          exact nx
    have i2 : ∀ (d n K : Nat), n + d = m → d < K → Zq59_l0 N (fun out => some ((out, true, ()), ())) K kind (setOf m (grM m es kind n A)) (n : Int) (m : Int) es = some ((setOf m (grM m es kind m A), true, ()), ()) := by
      intro d
      induction d with
      | zero =>
        intro n K hd hK
        obtain ⟨K, rfl⟩ := succ_of hK
        have : n = m := by omega
        subst this
        simp only [Zq59_l0, ilt_nf (Nat.lt_irrefl n), br_f]
      | succ d ih =>
        intro n K hd hK
        obtain ⟨K, rfl⟩ := succ_of hK
        have hn : n < m := by omega
        have hl := hlt n (by omega)
        have hs2 := setOf_len m (grM m es kind n A)
        have hs3 := setOf_len m (grM m es kind n A ^^^ 2 ^ n)
        simp only [Zq59_l0, ilt_n hn, br_t]
        rw [l1Has_eq (by omega) hN, bind_some']
        simp only []
        rw [dec_mem hn, shr_spec, l4Turned_eq hm8 hl hn hN, bind_some']
        simp only []
        rw [l4Has_eq hm8 hx (by omega) hN, bind_some', bind_some', wrap_succ (by omega)]
        simp only []
        have nx := ih (n + 1) K (by omega) (by omega)
        rw [grM_succ hn] at nx
        cases hsb : shrB kind (grM m es kind n A) n with
        | true =>
          rw [br_t]
          by_cases q : hasK m es kind (setOf m (grM m es kind n A ^^^ 2 ^ n))
          · rw [if_pos ⟨hsb, q⟩] at nx
            rw [decide_eq_true q, br_t]
            exact nx
          · rw [if_neg fun z => q z.2] at nx
            rw [decide_eq_false q, br_f]
            exact nx
        | false =>
          rw [if_neg fun z => by rw [hsb] at z; cases z.1] at nx
          rw [br_f]
          exact nx
    have r1 := i1 m 0 N (by omega) (by omega)
    have r2 := i2 m 0 N (by omega) (by omega)
    rw [grM_zero, show ((0 : Nat) : Int) = 0 from rfl] at r1 r2
    have hfl := setOf_len m (grM m es kind m A)
    refine ⟨(setOf m (grM m es kind m A), true), ?_, ?_, by simp only; omega, rfl, fun B hB e2 _ => ?_⟩
    · rw [l1Own_ro hs, bind_some']
      exact r2
    · rw [bagOf_set hm8 hA hN, bind_some']
      exact r1
    · rw [setOf_inj hA hB e2]
  · rw [decide_eq_false h]
    exact ⟨([], false), rfl, rfl, by simp, rfl, fun A _ _ q => absurd q h⟩
theorem setOf_rising {m A : Nat} : rising 0 ((m : Int) - 1) (setOf m A) := by
  intro i hi
  have h1 := setOf_in (m := m) (a := A) _ (List.getElem_mem hi)
  refine ⟨?_, fun h0 => ?_⟩
  · rw [rdI_n hi]
    have := h1.1
    have := h1.2
    omega
  · rw [rdI_n hi, rdI_n (show i - 1 < (setOf m A).length by omega)]
    exact List.pairwise_iff_getElem.1 (setOf_strict m A) (i - 1) i (by omega) hi (by omega)
theorem oth_list {m A : Nat} : ((List.range' 0 m).filter fun x : Nat => decide (¬ (x : Int) ∈ setOf m A)).map (fun x : Nat => (x : Int)) = setOf m (oth m A) := by
  unfold setOf
  congr 1
  refine List.filter_congr fun x hx => ?_
  have hx : x < m := by have := List.mem_range'_1.1 hx; omega
  rw [oth_bit hx, decide_not]
  exact congrArg _ (dec_mem hx)
noncomputable def otherR (g : Int × List (Int × Int)) (s : List Int) : List Int × Bool := if goodG g ∧ rising 0 (g.1 - 1) s then (((List.range' 0 g.1.toNat).filter fun x : Nat => decide (¬ (x : Int) ∈ s)).map (fun x : Nat => (x : Int)), true) else ([], false)
theorem otherR_len (g : Int × List (Int × Int)) (s : List Int) : (otherR g s).1.length ≤ 8 := by
  unfold otherR
  split
  · rename_i h
    have := h.1.1
    rw [List.length_map]
    exact Nat.le_trans (List.length_filter_le ..) (by simp; omega)
  · simp
end Go.Proofs.YtffeokcchabclaaGreat
