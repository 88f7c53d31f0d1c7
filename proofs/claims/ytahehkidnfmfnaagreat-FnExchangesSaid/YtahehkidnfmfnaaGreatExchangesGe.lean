/- Statements on data alone. -/
import Derived.Test.YtahehkidnfmfnaaGreatPvPure
import Derived.Test.YtahehkidnfmfnaaGreatExchangesGd
set_option linter.all false
set_option linter.all false
namespace Go.Proofs.YtahehkidnfmfnaaGreat
open Go Go.PV Classical
theorem next_ok {N : Nat} {code : List Int} {k : Nat} {c : List Int × (Int × Int)} (hco : codeOk code) (h : CurOk code k c) (hk : k ≤ 1000000000) : ∃ x c', Zq89 N c = some ((x, ()), (c', ())) ∧ CurOk code (k + 1) c' ∧ 0 ≤ x ∧ x ≤ 255 := by
 obtain ⟨cd, at', seed⟩ := c
 obtain ⟨h1, h2, h3⟩ := h
 simp only at h1 h2 h3
 subst h1
 have hw : IntKind.i64.wrap (at' + 1) = at' + 1 := wrap_ok (by omega) (by omega)
 unfold Zq89
 simp only [hw]
 by_cases hlt : at' < (cd.length : Int)
 ·obtain ⟨n, rfl⟩ := Int.eq_ofNat_of_zero_le h2
  have hn : n < cd.length := by omega
  have hb := hco.2 _ (List.getElem_mem hn)
  have hrd : rd U8 cd (n : Int) = cd[n] := by
   unfold rd
   rw [Int.toNat_natCast, List.getD_eq_getElem?_getD, List.getElem?_eq_getElem hn]
   rfl
  rw [ilt_len hn, br_t, inb_n hn, chk_t, hrd]
  by_cases hle : (n : Int) + 1 ≤ (cd.length : Int)
  ·rw [tLen_n, ile_t hle, br_t]
   refine ⟨_, _, rfl, ⟨rfl, by show (0 : Int) ≤ (n : Int) + 1; omega, by show (n : Int) + 1 ≤ ((k + 1 : Nat) : Int); omega⟩, ?_⟩
   rw [wrap_ok (by omega) (by omega)]
   exact hb
  ·omega
 ·rw [tLen_n, ilt_f hlt, br_f]
  by_cases hle : at' + 1 ≤ (cd.length : Int)
  ·rw [ile_t hle, br_t]
   exact ⟨_, _, rfl, ⟨rfl, by show (0 : Int) ≤ at' + 1; omega, by show at' + 1 ≤ ((k + 1 : Nat) : Int); omega⟩, by omega, by omega⟩
  ·rw [ile_f hle, br_f]
   exact ⟨_, _, rfl, ⟨rfl, by show (0 : Int) ≤ at' + 1; omega, by show at' + 1 ≤ ((k + 1 : Nat) : Int); omega⟩, u8_and _⟩
theorem tmod_in {x n : Int} (hx : 0 ≤ x) (hn : 1 ≤ n) : 0 ≤ x.tmod n ∧ x.tmod n < n ∧ x.tmod n ≤ x := by
 obtain ⟨a, rfl⟩ := Int.eq_ofNat_of_zero_le hx
 obtain ⟨b, rfl⟩ := Int.eq_ofNat_of_zero_le (show 0 ≤ n by omega)
 have e : ((a : Int)).tmod (b : Int) = ((a % b : Nat) : Int) := rfl
 rw [e]
 have := Nat.mod_lt a (show 0 < b by omega)
 have := Nat.mod_le a b
 omega
theorem pick_ok {N : Nat} {code : List Int} {k : Nat} {c : List Int × (Int × Int)} (hco : codeOk code) (h : CurOk code k c) (hk : k ≤ 1000000) (n : Int) : ∃ x c', Zq93 N c n = some ((x, ()), (c', ())) ∧ CurOk code (k + 2) c' ∧ 0 ≤ x ∧ x ≤ 65535 ∧ (1 ≤ n → x < n) := by
 unfold Zq93
 by_cases h1 : n ≤ 1
 ·rw [ile_t h1, br_t]
  exact ⟨_, _, rfl, cur_mono h (by omega), by omega, by omega, fun h => by omega⟩
 ·rw [ile_f h1, br_f]
  obtain ⟨x, c', e1, e2, e3, e4⟩ := next_ok (N := N) hco h (by omega)
  rw [e1, bind_some']
  simp only []
  by_cases h2 : 200 < n
  ·rw [ilt_t h2, br_t]
   obtain ⟨y, c2, f1, f2, f3, f4⟩ := next_ok (N := N) hco e2 (by omega)
   rw [f1, bind_some', ine_t (show n ≠ 0 by omega), chk_t]
   simp only []
   rw [wrap_ok (n := x * 256) (by omega) (by omega), wrap_ok (by omega) (by omega)]
   have := tmod_in (x := x * 256 + y) (n := n) (by omega) (by omega)
   exact ⟨_, _, rfl, f2, by omega, by omega, fun _ => by omega⟩
  ·rw [ilt_f h2, br_f, ine_t (show n ≠ 0 by omega), chk_t]
   have := tmod_in (x := x) (n := n) (by omega) (by omega)
   exact ⟨_, _, rfl, cur_mono e2 (by omega), by omega, by omega, fun _ => by omega⟩
theorem among_ok {N : Nat} {code : List Int} {k : Nat} {c : List Int × (Int × Int)} (hco : codeOk code) (h : CurOk code k c) (hk : k ≤ 1000000) {l : List Int} (hl : l ≠ []) : ∃ x c', Zq85 N c l = some ((x, ()), (c', ())) ∧ CurOk code (k + 2) c' ∧ x ∈ l := by
 unfold Zq85
 have hp : 0 < l.length := List.length_pos_iff.2 hl
 obtain ⟨x, c', e1, e2, e3, e4, e5⟩ := pick_ok (N := N) hco h hk (tLen l)
 rw [e1, bind_some']
 simp only []
 rw [tLen_n] at e5
 obtain ⟨n, rfl⟩ := Int.eq_ofNat_of_zero_le e3
 have hn : n < l.length := by have := e5 (by omega); omega
 rw [inb_n hn, chk_t, rdI_n hn]
 exact ⟨_, _, rfl, e2, List.getElem_mem hn⟩
theorem one_ok {N : Nat} {code : List Int} {k : Nat} {c : List Int × (Int × Int)} (hco : codeOk code) (h : CurOk code k c) (hk : k ≤ 1000000) (n : Int) : ∃ b c', Zq92 N c n = some ((b, ()), (c', ())) ∧ CurOk code (k + 2) c' := by
 unfold Zq92
 obtain ⟨x, c', e1, e2, _⟩ := pick_ok (N := N) hco h hk n
 rw [e1, bind_some']
 exact ⟨_, _, rfl, e2⟩
theorem sg_in {R : Type} {N : Nat} {code : List Int} (hco : codeOk code) (hN : 1048577 ≤ N) {k0 : Int → Int → Bool → Int → List Int × (Int × Int) → Int → Int → List (Int × Int) → Option R} {x4 x5 x7 o5 o6 : Int} {x6 : Bool} :
  ∀ (d : Nat) (x8 : Int) (K k : Nat) (c : List Int × (Int × Int)) (o : List (Int × Int)), x8 + (d : Int) = max x4 x8 → d < K → 0 ≤ x8 → x8 ≤ 100 → x4 ≤ 100 → CurOk code k c → k + 2 * d ≤ 1000000 → pairsUp o → o.length + d ≤ 1048576 →
   ∃ c' o', Zq94_l0_0 N k0 K x4 x5 x6 x7 x8 c o5 o6 o = k0 x4 x5 x6 x7 c' o5 o6 o' ∧ CurOk code (k + 2 * d) c' ∧ pairsUp o' ∧ o'.length ≤ o.length + d := by
 intro d
 induction d with
 | zero =>
  intro x8 K k c o hd hK h0 h1 h4 hc hk ho hl
  obtain ⟨K, rfl⟩ := succ_of hK
  refine ⟨c, o, ?_, hc, ho, by omega⟩
  simp only [Zq94_l0_0, ilt_f (show ¬ x8 < x4 by omega), br_f]
 | succ d ih =>
  intro x8 K k c o hd hK h0 h1 h4 hc hk ho hl
  obtain ⟨K, rfl⟩ := succ_of hK
  have hlt : x8 < x4 := by omega
  have hw : IntKind.i64.wrap (x8 + 1) = x8 + 1 := wrap_ok (by omega) (by omega)
  simp only [Zq94_l0_0, ilt_t hlt, br_t, hw]
  obtain ⟨x, c1, e1, e2, _⟩ := pick_ok (N := N) hco hc (by omega) x5
  rw [e1, bind_some']
  simp only []
  by_cases hx : x = 0
  ·rw [ieq_t hx, br_t]
   obtain ⟨o1, p1, p2, p3, p4⟩ := putPair_eq (N := N) (e := (x7, x8)) ho (by omega) hN
   rw [p1, bind_some']
   simp only []
   obtain ⟨c', o', q1, q2, q3, q4⟩ := ih (x8 + 1) K (k + 2) c1 o1 (by omega) (by omega) (by omega) (by omega) h4 e2 (by omega) p2 (by omega)
   exact ⟨c', o', q1, cur_mono q2 (by omega), q3, by omega⟩
  ·rw [ieq_f hx, br_f]
   obtain ⟨c', o', q1, q2, q3, q4⟩ := ih (x8 + 1) K (k + 2) c1 o (by omega) (by omega) (by omega) (by omega) h4 e2 (by omega) ho (by omega)
   exact ⟨c', o', q1, cur_mono q2 (by omega), q3, by omega⟩
theorem sg_out {R : Type} {N : Nat} {code : List Int} (hco : codeOk code) (hN : 1048577 ≤ N) {k0 : List Int × (Int × Int) → Int → Int → List (Int × Int) → Option R} {x x1 o1 o2 : Int} {x2 : Bool} (hx : x ≤ 8) :
  ∀ (d : Nat) (x3 : Int) (K k : Nat) (c : List Int × (Int × Int)) (o : List (Int × Int)), x3 + (d : Int) = max x x3 → d < K → 0 ≤ x3 → x3 ≤ 8 → CurOk code k c → k + 20 * d ≤ 1000000 → pairsUp o → o.length + 10 * d ≤ 1048576 →
   ∃ c' o', Zq94_l0 N k0 K x x1 x2 x3 c o1 o2 o = k0 c' o1 o2 o' ∧ CurOk code (k + 20 * d) c' ∧ pairsUp o' ∧ o'.length ≤ o.length + 10 * d := by
 intro d
 induction d with
 | zero =>
  intro x3 K k c o hd hK h0 h1 hc hk ho hl
  obtain ⟨K, rfl⟩ := succ_of hK
  refine ⟨c, o, ?_, hc, ho, by omega⟩
  simp only [Zq94_l0, ilt_f (show ¬ x3 < x by omega), br_f]
 | succ d ih =>
  intro x3 K k c o hd hK h0 h1 hc hk ho hl
  obtain ⟨K, rfl⟩ := succ_of hK
  have hlt : x3 < x := by omega
  have hw : IntKind.i64.wrap (x3 + 1) = x3 + 1 := wrap_ok (by omega) (by omega)
  simp only [Zq94_l0, ilt_t hlt, br_t, hw]
  obtain ⟨e, he⟩ : ∃ e : Nat, x3 + 1 + (e : Int) = max x (x3 + 1) := ⟨(max x (x3 + 1) - (x3 + 1)).toNat, by omega⟩
  have he8 : e ≤ 8 := by omega
  obtain ⟨c1, p1, q1, q2, q3, q4⟩ := sg_in (R := R) (N := N) hco hN (k0 := fun x4 x5 x6 x7 o4 o5 o6 o7 => (br (ilt 0 x7)
    ((br (!x6)
     (((Zq93 N (o4.1, (o4.2.1, o4.2.2)) x7).bind fun r6 =>
      ((Zq112 N o7 (r6.1.1, x7)).bind fun r7 =>
       Zq94_l0 N k0 K x4 x5 x6 (IntKind.i64.wrap (x7 + 1)) r6.2.1 o5 o6 r7.1.1)))
     (Zq94_l0 N k0 K x4 x5 x6 (IntKind.i64.wrap (x7 + 1)) o4 o5 o6 o7)))
    (Zq94_l0 N k0 K x4 x5 x6 (IntKind.i64.wrap (x7 + 1)) o4 o5 o6 o7))) (x4 := x) (x5 := x1) (x6 := x2) (x7 := x3) (o5 := o1) (o6 := o2) e (x3 + 1) N k c o he (by omega) (by omega) (by omega) (by omega) hc (by omega) ho (by omega)
  rw [q1]
  simp only [hw]
  have keep : ∃ c' o', Zq94_l0 N k0 K x x1 x2 (x3 + 1) c1 o1 o2 p1 = k0 c' o1 o2 o' ∧ CurOk code (k + 20 * (d + 1)) c' ∧ pairsUp o' ∧ o'.length ≤ o.length + 10 * (d + 1) := by
   obtain ⟨c', o', r1, r2, r3, r4⟩ := ih (x3 + 1) K (k + 2 * e) c1 p1 (by omega) (by omega) (by omega) (by omega) q2 (by omega) q3 (by omega)
   exact ⟨c', o', r1, cur_mono r2 (by omega), r3, by omega⟩
  by_cases hz : 0 < x3
  ·rw [ilt_t hz, br_t]
   cases x2 with
   | true => exact keep
   | false =>
    simp only [Bool.not_false, br_t]
    obtain ⟨y, c2, e1, e2, _⟩ := pick_ok (N := N) hco q2 (by omega) x3
    rw [show ((c1.1, (c1.2.1, c1.2.2)) : List Int × (Int × Int)) = c1 from rfl, e1, bind_some']
    simp only []
    obtain ⟨o3, p2, p3, p4, p5⟩ := putPair_eq (N := N) (e := (y, x3)) q3 (by omega) hN
    rw [p2, bind_some']
    simp only []
    obtain ⟨c', o', r1, r2, r3, r4⟩ := ih (x3 + 1) K (k + 2 * e + 2) c2 o3 (by omega) (by omega) (by omega) (by omega) e2 (by omega) p3 (by omega)
    exact ⟨c', o', r1, cur_mono r2 (by omega), r3, by omega⟩
  ·rw [ilt_f hz, br_f]
   exact keep
noncomputable def sgTail (N : Nat) (o : List Int × (Int × Int)) (o2 : Int) (o3 : List (Int × Int)) : Option (((Int × List (Int × Int)) × Unit) × ((List Int × (Int × Int)) × Unit)) :=
 ((Zq93 N o 50).bind fun r6 =>
  (br (ieq r6.1.1 0)
   (((Zq85 N r6.2.1 [(-1), 8, 9, 0, 4611686018427387904]).bind fun r7 =>
    some (((r7.1.1, o3), ()), (r7.2.1, ()))))
   ((br (ieq r6.1.1 1)
    (((Zq93 N (r6.2.1.1, (r6.2.1.2.1, r6.2.1.2.2)) 4).bind fun r8 =>
     ((Zq93 N r8.2.1 9).bind fun r9 =>
      (chk (room o3 [(r8.1.1, (IntKind.i64.wrap (r9.1.1 - 1)))])
       (some (((o2, (tApp o3 [(r8.1.1, (IntKind.i64.wrap (r9.1.1 - 1)))])), ()), (r9.2.1, ())))))))
    ((br (ieq r6.1.1 2)
     ((br (ilt 0 (tLen o3))
      (((Zq93 N (r6.2.1.1, (r6.2.1.2.1, r6.2.1.2.2)) (tLen o3)).bind fun r10 =>
       (chk (inb o3 r10.1.1)
        (chk (room o3 [(rdP o3 r10.1.1)])
        (some (((o2, (tApp o3 [(rdP o3 r10.1.1)])), ()), (r10.2.1, ())))))))
      (some (((o2, o3), ()), (r6.2.1, ())))))
     (some (((o2, o3), ()), (r6.2.1, ())))))))))
theorem sgTail_ok {N : Nat} {code : List Int} {k : Nat} {c : List Int × (Int × Int)} {o2 : Int} {o3 : List (Int × Int)} (hco : codeOk code) (h : CurOk code k c) (hk : k ≤ 900000) (ho : o3.length ≤ 1000) :
  ∃ g c', sgTail N c o2 o3 = some ((g, ()), (c', ())) ∧ CurOk code (k + 10) c' ∧ g.2.length ≤ o3.length + 1 := by
 unfold sgTail
 obtain ⟨x, c1, e1, e2, _⟩ := pick_ok (N := N) hco h (by omega) 50
 rw [e1, bind_some']
 simp only [show ((c1.1, (c1.2.1, c1.2.2)) : List Int × (Int × Int)) = c1 from rfl]
 by_cases h0 : x = 0
 ·rw [ieq_t h0, br_t]
  obtain ⟨y, c2, f1, f2, _⟩ := among_ok (N := N) hco e2 (by omega) (l := [(-1), 8, 9, 0, 4611686018427387904]) (by simp)
  rw [f1, bind_some']
  exact ⟨_, _, rfl, cur_mono f2 (by omega), by simp only []; omega⟩
 ·rw [ieq_f h0, br_f]
  by_cases h1 : x = 1
  ·rw [ieq_t h1, br_t]
   obtain ⟨y, c2, f1, f2, _⟩ := pick_ok (N := N) hco e2 (by omega) 4
   rw [f1, bind_some']
   simp only []
   obtain ⟨z, c3, g1, g2, _⟩ := pick_ok (N := N) hco f2 (by omega) 9
   rw [g1, bind_some']
   simp only []
   rw [room_ok (by simp; omega), chk_t]
   exact ⟨_, _, rfl, cur_mono g2 (by omega), by simp [tApp]⟩
  ·rw [ieq_f h1, br_f]
   by_cases h2 : x = 2
   ·rw [ieq_t h2, br_t, tLen_n]
    by_cases h3 : 0 < o3.length
    ·rw [ilt_t (by omega), br_t]
     obtain ⟨y, c2, f1, f2, f3, _, f5⟩ := pick_ok (N := N) hco e2 (by omega) (o3.length : Int)
     rw [f1, bind_some']
     simp only []
     obtain ⟨n, rfl⟩ := Int.eq_ofNat_of_zero_le f3
     have hn : n < o3.length := by have := f5 (by omega); omega
     rw [inb_n hn, chk_t, room_ok (by simp; omega), chk_t]
     exact ⟨_, _, rfl, cur_mono f2 (by omega), by simp [tApp]⟩
    ·rw [ilt_f (by omega), br_f]
     exact ⟨_, _, rfl, cur_mono e2 (by omega), by simp only []; omega⟩
   ·rw [ieq_f h2, br_f]
    exact ⟨_, _, rfl, cur_mono e2 (by omega), by simp only []; omega⟩
theorem sg_fin {N : Nat} {code : List Int} {k : Nat} {c : List Int × (Int × Int)} {n x1 : Int} {x2 : Bool} (hco : codeOk code) (hN : 1048577 ≤ N) (h : CurOk code k c) (hk : k ≤ 100000) (hn : 0 ≤ n ∧ n ≤ 8) :
  ∃ g c', Zq94_l0 N (fun o o1 o2 o3 => sgTail N o o2 o3) N n x1 x2 0 c 0 n [] = some ((g, ()), (c', ())) ∧ CurOk code (k + 180) c' ∧ g.2.length ≤ 100 := by
 obtain ⟨d, hd⟩ : ∃ d : Nat, n = (d : Int) := ⟨n.toNat, by omega⟩
 obtain ⟨c1, o1, e1, e2, e3, e4⟩ := sg_out (N := N) hco hN (k0 := fun o o1 o2 o3 => sgTail N o o2 o3) (x := n) (x1 := x1) (x2 := x2) (o1 := 0) (o2 := n) hn.2 d 0 N k c [] (by omega) (by omega) (by omega) (by omega) h (by omega) List.Pairwise.nil (by simp; omega)
 simp at e4
 obtain ⟨g, c2, f1, f2, f3⟩ := sgTail_ok (N := N) (o2 := n) hco e2 (by omega) (show o1.length ≤ 1000 by omega)
 exact ⟨g, c2, e1.trans f1, cur_mono f2 (by omega), by omega⟩
theorem someGraph_ok {N : Nat} {code : List Int} {k : Nat} {c : List Int × (Int × Int)} {most : Int} (hco : codeOk code) (hN : 1048577 ≤ N) (h : CurOk code k c) (hk : k ≤ 90000) (hm : 5 ≤ most ∧ most ≤ 8) :
  ∃ g c', Zq94 N c most = some ((g, ()), (c', ())) ∧ CurOk code (k + 200) c' ∧ g.2.length ≤ 100 := by
 unfold Zq94
 obtain ⟨n, c1, a1, a2, a3⟩ := among_ok (N := N) hco h (by omega) (l := [4, 5, 3, 6, 2, 1, 0]) (by simp)
 rw [a1, bind_some']
 simp only []
 have hn : 0 ≤ n ∧ n ≤ 6 := by simp at a3; omega
 have rest : ∀ (n : Int) (kk : Nat) (c : List Int × (Int × Int)), 0 ≤ n → CurOk code kk c → kk ≤ k + 6 → ∃ g c', ((Zq97 N n most).bind fun r3 =>
   ((Zq85 N c [1, 3, 4, 6]).bind fun r4 =>
    ((Zq92 N r4.2.1 5).bind fun r5 =>
     Zq94_l0 N (fun o o1 o2 o3 => sgTail N o o2 o3) N r3.1.1 r4.1.1 r5.1.1 0 r5.2.1 0 r3.1.1 []))) = some ((g, ()), (c', ())) ∧ CurOk code (k + 200) c' ∧ g.2.length ≤ 100 := by
  intro n kk c hn hc hkk
  rw [l1Least_eq, bind_some']
  simp only []
  obtain ⟨y, c2, b1, b2, _⟩ := among_ok (N := N) hco hc (by omega) (l := [1, 3, 4, 6]) (by simp)
  rw [b1, bind_some']
  simp only []
  obtain ⟨b, c3, d1, d2⟩ := one_ok (N := N) hco b2 (by omega) 5
  rw [d1, bind_some']
  simp only []
  have hr : 0 ≤ (if n < most then n else most) ∧ (if n < most then n else most) ≤ 8 := by split <;> omega
  obtain ⟨g, c', f1, f2, f3⟩ := sg_fin (N := N) (x1 := y) (x2 := b) hco hN d2 (by omega) hr
  exact ⟨g, c', f1, cur_mono f2 (by omega), f3⟩
 by_cases h6 : 6 < most
 ·rw [ilt_t h6, br_t]
  obtain ⟨b, c2, d1, d2⟩ := one_ok (N := N) hco a2 (by omega) 4
  rw [d1, bind_some']
  simp only []
  cases b with
  | true =>
   rw [br_t]
   obtain ⟨y, c3, e1, e2, e3, e4, e5⟩ := pick_ok (N := N) hco d2 (by omega) 2
   rw [e1, bind_some']
   simp only []
   have := e5 (by omega)
   rw [wrap_ok (by omega) (by omega)]
   exact rest (7 + y) _ c3 (by omega) e2 (by omega)
  | false =>
   rw [br_f]
   exact rest n _ c2 hn.1 d2 (by omega)
 ·rw [ilt_f h6, br_f]
  exact rest n _ c1 hn.1 a2 (by omega)
theorem cur0 {code : List Int} : CurOk code 0 (code, (0, 0)) := ⟨rfl, Int.le_refl _, by simp⟩
theorem code_ok {x : List Int} (h : ∀ y ∈ x, (Lit.int .u8 y).wf = true) (hl : x.length ≤ 65536) : codeOk x := by
 refine ⟨by omega, fun y hy => ?_⟩
 have := h y hy
 simp [Lit.wf, IntKind.min, IntKind.max, IntKind.signed, IntKind.bits] at this
 omega
theorem step_near {xs : List (List Int)} {p : List Int → List Int → Bool} {x y : List Int} (hp : ∀ x ∈ xs, ∀ y ∈ xs, p x y = true → p y x = true) (hx : x ∈ xs) (hy : y ∈ xs) (hne : x ≠ y) (h : p x y = true) : ((xs.idxOf y : Nat) : Int) ∈ rdL (nbL xs.length (stepsL p xs)) ((xs.idxOf x : Nat) : Int) := by
 have i1 := idx_lt hx
 have i2 := idx_lt hy
 have r1 := idx_rd hx
 have r2 := idx_rd hy
 rw [nbL_rd (in_nat i1), mem_nbS stepsL_ok]
 have hni : xs.idxOf x ≠ xs.idxOf y := fun e => hne (by rw [← r1, ← r2, e])
 by_cases hlt : xs.idxOf x < xs.idxOf y
 ·exact .inr (mem_stepsL.2 ⟨_, _, rfl, hlt, i2, by rw [r1, r2]; exact h⟩)
 ·exact .inl (mem_stepsL.2 ⟨_, _, rfl, by omega, i1, by rw [r1, r2]; exact hp x hx y hy h⟩)
theorem near_step {xs : List (List Int)} {p : List Int → List Int → Bool} {u v : Int} (hp : ∀ x ∈ xs, ∀ y ∈ xs, p x y = true → p y x = true) (hu : InN xs.length u) (hv : v ∈ rdL (nbL xs.length (stepsL p xs)) u) : rdL xs u ∈ xs ∧ rdL xs v ∈ xs ∧ p (rdL xs u) (rdL xs v) = true ∧ InN xs.length v := by
 have hok := stepsL_ok (p := p) (xs := xs)
 rw [nbL_rd hu] at hv
 have hvn := nbS_in hok v hv
 obtain ⟨i, hi, rfl⟩ := nat_of hu
 obtain ⟨j, hj, rfl⟩ := nat_of hvn
 have m1 : rdL xs (i : Int) ∈ xs := by rw [rdL_n hi]; exact List.getElem_mem hi
 have m2 : rdL xs (j : Int) ∈ xs := by rw [rdL_n hj]; exact List.getElem_mem hj
 refine ⟨m1, m2, ?_, hvn⟩
 rcases (mem_nbS hok).1 hv with h | h
 ·obtain ⟨i', j', e, _, _, hq⟩ := mem_stepsL.1 h
  have q1 : (j : Int) = (i' : Int) := congrArg Prod.fst e
  have q2 : (i : Int) = (j' : Int) := congrArg Prod.snd e
  rw [← q1, ← q2] at hq
  exact hp _ m2 _ m1 hq
 ·obtain ⟨i', j', e, _, _, hq⟩ := mem_stepsL.1 h
  have q1 : (i : Int) = (i' : Int) := congrArg Prod.fst e
  have q2 : (j : Int) = (j' : Int) := congrArg Prod.snd e
  rw [← q1, ← q2] at hq
  exact hq
theorem rInts_l0_eq {R : Type} (N : Nat) (k0 : Bool → Option R) (k1 : Unit → Option R) (a b : List Int) (hx : a.length ≤ 1099511627776) (hl : a.length = b.length) : ∀ (d n : Nat) (K : Nat), n + d = a.length → d < K →
  Zq53_l0 N k0 k1 K a b n = if a.drop n = b.drop n then k1 () else k0 false := by
 intro d
 induction d with
 | zero =>
  intro n K hd hK
  obtain ⟨k, rfl⟩ := succ_of hK
  have hn : ¬ n < a.length := by omega
  simp only [Zq53_l0, ilt_lenf hn, br_f]
  rw [if_pos]
  rw [List.drop_of_length_le (by omega), List.drop_of_length_le (by omega)]
 | succ d ih =>
  intro n K hd hK
  obtain ⟨k, rfl⟩ := succ_of hK
  have hn : n < a.length := by omega
  have hnb : n < b.length := by omega
  simp only [Zq53_l0, ilt_len hn, inb_n hn, inb_n hnb, br_t, chk_t]
  rw [wrap_succ (by omega), rdI_n hn, rdI_n hnb, ih (n + 1) k (by omega) (by omega), drop_cons hn, drop_cons hnb]
  by_cases he : a[n] = b[n]
  ·rw [ine_f he, br_f, he]
   simp only [List.cons.injEq, true_and]
  ·rw [ine_t he, br_t, if_neg]
   intro h
   injection h with h _
   exact he h
theorem rInts_eq {N : Nat} {a b : List Int} (hx : a.length ≤ 1099511627776) (hN : a.length < N) : Zq53 N a b = some ((decide (a = b), ()), ()) := by
 unfold Zq53
 simp only [tLen_n]
 by_cases hl : a.length = b.length
 ·rw [ine_f (by omega), br_f]
  have := rInts_l0_eq N (fun x => some ((x, ()), ())) (fun _ => some ((true, ()), ())) a b hx hl a.length 0 N (by omega) (by omega)
  simp only [Int.natCast_zero, List.drop_zero] at this
  rw [this]
  by_cases h : a = b <;> simp [h]
 ·rw [ine_t (by omega), br_t]
  have : a ≠ b := fun h => hl (by rw [h])
  simp [this]
theorem rTable_l0_eq {R : Type} (N : Nat) (k0 : Bool → Option R) (k1 : Unit → Option R) (a b : List (List Int)) (hx : a.length ≤ 1099511627776) (hxs : ∀ x ∈ a, x.length ≤ 1048576) (hN : 1048577 ≤ N) (hl : a.length = b.length) : ∀ (d n : Nat) (K : Nat), n + d = a.length → d < K →
  Zq56_l0 N k0 k1 K a b n = if a.drop n = b.drop n then k1 () else k0 false := by
 intro d
 induction d with
 | zero =>
  intro n K hd hK
  obtain ⟨k, rfl⟩ := succ_of hK
  have hn : ¬ n < a.length := by omega
  simp only [Zq56_l0, ilt_lenf hn, br_f]
  rw [if_pos]
  rw [List.drop_of_length_le (by omega), List.drop_of_length_le (by omega)]
 | succ d ih =>
  intro n K hd hK
  obtain ⟨k, rfl⟩ := succ_of hK
  have hn : n < a.length := by omega
  have hnb : n < b.length := by omega
  simp only [Zq56_l0, ilt_len hn, inb_n hn, inb_n hnb, br_t, chk_t]
  have ha := hxs _ (List.getElem_mem hn)
  rw [wrap_succ (by omega), rdL_n hn, rdL_n hnb, rInts_eq (by omega) (by omega), bind_some', ih (n + 1) k (by omega) (by omega), drop_cons hn, drop_cons hnb, br_ite]
  by_cases he : a[n] = b[n]
  ·rw [he, if_neg (by simp)]
   simp only [List.cons.injEq, true_and]
  ·rw [if_pos (by simp [he]), if_neg]
   intro h
   injection h with h _
   exact he h
theorem rTable_eq {N : Nat} {a b : List (List Int)} (hx : a.length ≤ 1048576) (hxs : ∀ x ∈ a, x.length ≤ 1048576) (hN : 1048577 ≤ N) : Zq56 N a b = some ((decide (a = b), ()), ()) := by
 unfold Zq56
 simp only [tLen_n]
 by_cases hl : a.length = b.length
 ·rw [ine_f (by omega), br_f]
  have := rTable_l0_eq N (fun x => some ((x, ()), ())) (fun _ => some ((true, ()), ())) a b (by omega) hxs hN hl a.length 0 N (by omega) (by omega)
  simp only [Int.natCast_zero, List.drop_zero] at this
  rw [this]
  by_cases h : a = b <;> simp [h]
 ·rw [ine_t (by omega), br_t]
  have : a ≠ b := fun h => hl (by rw [h])
  simp [this]
theorem rPairs_self {N : Nat} {a : List (Int × Int)} (hx : a.length ≤ 1048576) (hN : 1048577 ≤ N) : Zq54 N a a = some ((true, ()), ()) := by
 unfold Zq54
 rw [ine_f rfl, br_f]
 have go : ∀ (d n K : Nat), n + d = a.length → d < K → Zq54_l0 N (fun x => some ((x, ()), ())) (fun (_ : Unit) => some ((true, ()), ())) K a a (n : Int) = some ((true, ()), ()) := by
  intro d
  induction d with
  | zero =>
   intro n K hd hK
   obtain ⟨K, rfl⟩ := succ_of hK
   simp only [Zq54_l0, ilt_lenf (show ¬ n < a.length by omega), br_f]
  | succ d ih =>
   intro n K hd hK
   obtain ⟨K, rfl⟩ := succ_of hK
   have hn : n < a.length := by omega
   simp only [Zq54_l0, ilt_len hn, br_t, inb_n hn, chk_t]
   rw [ieq_t rfl, ieq_t rfl, wrap_succ (by omega)]
   simp only [Bool.and_self, Bool.not_true, br_f]
   exact ih (n + 1) K (by omega) (by omega)
 exact go a.length 0 N (by omega) (by omega)
theorem rSpace_self {N : Nat} {x : List (List Int) × List (Int × Int)} (h : okSp x) (hN : 1048577 ≤ N) : Zq55 N x x = some ((true, ()), ()) := by
 obtain ⟨h1, h2, h3, h4⟩ := h
 unfold Zq55
 rw [rTable_eq h1 h2 hN, bind_some', decide_eq_true rfl, br_t, rPairs_self h3 hN, bind_some']
theorem isState_eq {N : Nat} {s : List Int} (hl : s.length ≤ 24) (hb : ∀ z ∈ s, -99 ≤ z ∧ z ≤ 99) (hN : 1048577 ≤ N) : Zq44 N s = some ((true, ()), ()) := by
 unfold Zq44
 rw [tLen_n, ile_t (by omega), br_t, ContainsFunc_LI_int_eq (g := fun z => !decide (-99 ≤ z ∧ z ≤ 99)) (fun z _ => ?_) (by omega) (by omega), bind_some']
 ·have : (s.any fun z => !decide (-99 ≤ z ∧ z ≤ 99)) = false := by
   rw [List.any_eq_false]
   intro z hz
   rw [decide_eq_true (hb z hz)]
   simp
  rw [this]
  rfl
 ·unfold Zq45
  rw [between_eq, bind_some', bind_some']
theorem okSt_pair {n : Nat} {st : List (Int × Int)} (h : okSt n st) : ∀ i : Nat, i < st.length → pairAt (n : Int) st i := by
 intro i hi
 have h2 := h.2 _ (List.getElem_mem hi)
 rw [← rdP_n hi] at h2
 refine ⟨⟨h2.1, h2.2.1, h2.2.2⟩, fun h0 => ?_⟩
 have := (List.pairwise_iff_getElem.1 h.1) (i - 1) i (by omega) hi (by omega)
 rw [rdP_n hi, rdP_n (show i - 1 < st.length by omega)]
 exact this
theorem isPairs_ok {N n : Nat} {es : List (Int × Int)} (hx : es.length ≤ 1048576) (h : okSt n es) (hN : 1048577 ≤ N) : Zq41 N es (n : Int) = some ((true, ()), ()) := by
 have hp := okSt_pair h
 unfold Zq41
 have go : ∀ (d n' K : Nat), n' + d = es.length → d < K → Zq41_l0 N (fun x => some ((x, ()), ())) (fun (_ : Unit) => some ((true, ()), ())) K es (n : Int) es (es.length : Int) (n' : Int) = some ((true, ()), ()) := by
  intro d
  induction d with
  | zero =>
   intro n' K hd hK
   obtain ⟨K, rfl⟩ := succ_of hK
   simp only [Zq41_l0, ilt_nf (show ¬ n' < es.length by omega), br_f]
  | succ d ih =>
   intro n' K hd hK
   obtain ⟨K, rfl⟩ := succ_of hK
   have hn : n' < es.length := by omega
   simp only [Zq41_l0, ilt_n hn, inb_n hn, br_t, chk_t]
   obtain ⟨⟨p1, p2, p3⟩, p4⟩ := hp n' hn
   rw [ilt_f (by omega), br_f, ile_f (by omega), br_f, ile_f (by omega), br_f, wrap_succ (by omega)]
   by_cases h0 : 0 < n'
   ·rw [ilt_0 h0, br_t, wrap_pred (by omega) h0, inb_n (by omega), chk_t]
    obtain ⟨r, r1, r2, _⟩ := comparePairs_eq hN (rdP es ((n' - 1 : Nat) : Int)) ((rdP es n').1, (rdP es n').2)
    have := r2.2 (p4 h0)
    rw [r1]
    simp only [bind_some']
    rw [ile_f (by omega), br_f]
    exact ih (n' + 1) K (by omega) (by omega)
   ·rw [ilt_0n h0, br_f]
    exact ih (n' + 1) K (by omega) (by omega)
 rw [tLen_n]
 exact go es.length 0 N (by omega) (by omega)
theorem isSpace_ok {N : Nat} {xs : List (List Int)} {st : List (Int × Int)} (h1 : xs.length ≤ 300) (h2 : st.length ≤ 6000) (hs : ∀ x ∈ xs, x.length ≤ 24 ∧ ∀ z ∈ x, -99 ≤ z ∧ z ≤ 99) (hl : lexSorted xs) (h : okSt xs.length st) (hN : 1048577 ≤ N) : Zq20 N (xs, st) = some ((true, ()), ()) := by
 unfold Zq20
 simp only []
 rw [tLen_n, tLen_n, ilt_f (by omega), br_f, ilt_f (by omega), br_f]
 have go : ∀ (d n K : Nat), n + d = xs.length → d < K → Zq20_l0 N (fun x1 => some ((x1, ()), ())) (fun o o1 => ((Zq41 N o1 (tLen o)).bind fun r => some ((r.1.1, ()), ()))) K xs (xs.length : Int) (n : Int) xs st = some ((true, ()), ()) := by
  intro d
  induction d with
  | zero =>
   intro n K hd hK
   obtain ⟨K, rfl⟩ := succ_of hK
   simp only [Zq20_l0, ilt_nf (show ¬ n < xs.length by omega), br_f]
   rw [tLen_n, isPairs_ok (by omega) h hN, bind_some']
  | succ d ih =>
   intro n K hd hK
   obtain ⟨K, rfl⟩ := succ_of hK
   have hn : n < xs.length := by omega
   obtain ⟨a1, a2⟩ := hs _ (List.getElem_mem hn)
   simp only [Zq20_l0, ilt_n hn, inb_n hn, br_t, chk_t]
   rw [rdL_n hn, isState_eq a1 a2 hN, bind_some']
   simp only [Bool.not_true, br_f]
   rw [wrap_succ (by omega)]
   by_cases h0 : 0 < n
   ·have hn1 : n - 1 < xs.length := by omega
    obtain ⟨b1, b2⟩ := hs _ (List.getElem_mem hn1)
    have hlt := (List.pairwise_iff_getElem.1 hl) (n - 1) n hn1 hn (by omega)
    rw [ilt_0 h0, br_t, wrap_pred (by omega) h0, inb_n hn1, chk_t, rdL_n hn1, Compare_lex (by omega) (by omega) hN, bind_some']
    simp only []
    rw [ile_f (by omega), br_f]
    exact ih (n + 1) K (by omega) (by omega)
   ·rw [ilt_0n h0, br_f]
    exact ih (n + 1) K (by omega) (by omega)
 exact go xs.length 0 N (by omega) (by omega)
theorem placeOf_in {N : Nat} {xs : List (List Int)} {st : List (Int × Int)} {a : List Int} (h1 : xs.length ≤ 300) (h2 : st.length ≤ 6000) (hs : ∀ x ∈ xs, x.length ≤ 24 ∧ ∀ z ∈ x, -99 ≤ z ∧ z ≤ 99) (hl : lexSorted xs) (h : okSt xs.length st) (ha : a ∈ xs) (hN : 1048577 ≤ N) :
  Zq23 N (xs, st) a = some ((((xs.idxOf a : Nat) : Int), true, ()), ()) := by
 unfold Zq23
 simp only []
 rw [isSpace_ok h1 h2 hs hl h hN, bind_some']
 simp only [Bool.not_true, br_f]
 rw [place_in hl (by omega) (fun x hx => by have := (hs x hx).1; omega) ha hN, bind_some']
 simp only [Bool.not_true, br_f]
theorem perm_of : ∀ {a b : List Int}, a.Nodup → (∀ x ∈ a, x ∈ b) → b.length ≤ a.length → a.Perm b := by
 intro a
 induction a with
 | nil =>
  intro b _ _ h
  have : b = [] := List.eq_nil_of_length_eq_zero (by simpa using h)
  rw [this]
 | cons x a ih =>
  intro b hn hs hl
  obtain ⟨n1, n2⟩ := List.nodup_cons.1 hn
  have hx : x ∈ b := hs x (List.mem_cons_self ..)
  have h1 := List.perm_cons_erase hx
  have hl2 := List.length_erase_of_mem hx
  have hb0 : 0 < b.length := List.length_pos_of_mem hx
  refine (List.Perm.cons x (ih n2 (fun y hy => ?_) (by rw [hl2]; simp at hl; omega))).trans h1.symm
  have hy2 : y ∈ b := hs y (List.mem_cons_of_mem _ hy)
  exact (List.mem_erase_of_ne (fun e : y = x => n1 (by rw [← e]; exact hy))).2 hy2
noncomputable def upL (n : Nat) : List Int := (List.range n).map fun i : Nat => (i : Int)
theorem mem_upL {n : Nat} {c : Int} : c ∈ upL n ↔ 0 ≤ c ∧ c < (n : Int) := by
 unfold upL
 rw [List.mem_map]
 constructor
 ·rintro ⟨i, hi, rfl⟩
  rw [List.mem_range] at hi
  omega
 ·rintro ⟨h1, h2⟩
  exact ⟨c.toNat, List.mem_range.2 (by omega), by omega⟩
theorem upL_len (n : Nat) : (upL n).length = n := by simp [upL]
theorem upL_nodup (n : Nat) : (upL n).Nodup := by
 unfold upL
 refine List.Pairwise.map _ (fun a b h e => h ?_) List.nodup_range
 omega
noncomputable def card (m A : Nat) : Nat := (setOf m A).length
theorem card_le (m A : Nat) : card m A ≤ m := setOf_len m A
def subN (m A B : Nat) : Prop := ∀ i, i < m → A.testBit i = true → B.testBit i = true
theorem subN_refl (m A : Nat) : subN m A A := fun _ _ h => h
theorem subN_trans {m A B C : Nat} (h1 : subN m A B) (h2 : subN m B C) : subN m A C := fun i hi h => h2 i hi (h1 i hi h)
theorem sub_mem {m A B : Nat} (h : subN m A B) : ∀ z ∈ setOf m A, z ∈ setOf m B := fun z hz => by
 obtain ⟨i, hi, hb, rfl⟩ := mem_setOf.1 hz
 exact mem_setN.2 ⟨hi, h i hi hb⟩
theorem sub_eq {m A B : Nat} (hA : A < 2 ^ m) (hB : B < 2 ^ m) (h : subN m A B) (hc : card m B ≤ card m A) : A = B := by
 have hp := perm_of (setOf_nodup m A) (sub_mem h) hc
 exact setOf_inj hA hB (asc_ext (setOf_strict m A) (setOf_strict m B) fun z => hp.mem_iff)
theorem card_out {m A x : Nat} (hx : x < m) (h : A.testBit x = false) : card m (A ^^^ 2 ^ x) = card m A + 1 := by
 have h1 := nodup_le (a := (x : Int) :: setOf m A) (b := setOf m (A ^^^ 2 ^ x)) (List.nodup_cons.2 ⟨(fun q => by rw [(mem_setN.1 q).2] at h; cases h), setOf_nodup m A⟩) fun z hz => by
  rcases List.mem_cons.1 hz with rfl | hz
  ·exact mem_setN.2 ⟨hx, by rw [xor_bit, h]; simp⟩
  ·obtain ⟨i, hi, hb, rfl⟩ := mem_setOf.1 hz
   refine mem_setN.2 ⟨hi, ?_⟩
   rw [xor_bit, hb]
   by_cases e : x = i
   ·subst e; rw [h] at hb; cases hb
   ·simp [e]
 have h2 := nodup_le (a := setOf m (A ^^^ 2 ^ x)) (b := (x : Int) :: setOf m A) (setOf_nodup m _) fun z hz => by
  obtain ⟨i, hi, hb, rfl⟩ := mem_setOf.1 hz
  by_cases e : x = i
  ·subst e; exact List.mem_cons_self ..
  ·refine List.mem_cons_of_mem _ (mem_setN.2 ⟨hi, ?_⟩)
   rw [xor_bit] at hb
   simpa [e] using hb
 unfold card
 simp only [List.length_cons] at h1 h2
 omega
theorem xor_twice (A x : Nat) : (A ^^^ 2 ^ x) ^^^ 2 ^ x = A := by rw [Nat.xor_assoc, Nat.xor_self, Nat.xor_zero]
theorem card_in {m A x : Nat} (hx : x < m) (h : A.testBit x = true) : card m (A ^^^ 2 ^ x) + 1 = card m A := by
 have := card_out (A := A ^^^ 2 ^ x) hx (by rw [xor_bit, h]; simp)
 rw [xor_twice] at this
 omega
theorem sub_add {m A x : Nat} (h : A.testBit x = false) : subN m A (A ^^^ 2 ^ x) := fun i hi hb => by
 rw [xor_bit, hb]
 by_cases e : x = i
 ·subst e; rw [h] at hb; cases hb
 ·simp [e]
theorem sub_rem {m A x : Nat} (h : A.testBit x = true) : subN m (A ^^^ 2 ^ x) A := fun i hi hb => by
 rw [xor_bit] at hb
 by_cases e : x = i
 ·subst e; exact h
 ·simpa [e] using hb
inductive Tj (m : Nat) (V : Nat → Prop) (A : Nat) : Nat → Prop
 | base : Tj m V A A
 | step {B x y : Nat} : Tj m V A B → x < m → y < m → B.testBit x = true → B.testBit y = false → V ((B ^^^ 2 ^ y) ^^^ 2 ^ x) → Tj m V A ((B ^^^ 2 ^ y) ^^^ 2 ^ x)
theorem tj_trans {m : Nat} {V : Nat → Prop} {A B C : Nat} (h1 : Tj m V A B) (h2 : Tj m V B C) : Tj m V A C := by
 induction h2 with
 | base => exact h1
 | step _ hx hy hb hc hv ih => exact .step ih hx hy hb hc hv
def upV (m : Nat) (V : Nat → Prop) : Prop := ∀ A B, A < 2 ^ m → B < 2 ^ m → subN m A B → V A → V B
theorem tj_over {m X : Nat} {V : Nat → Prop} (hV : upV m V) (hX : X < 2 ^ m) (vX : V X) : ∀ (d A B : Nat), A < 2 ^ m → B < 2 ^ m → card m A = card m B → subN m X A → subN m X B → (loneL (setOf m A) (setOf m B)).length ≤ d → Tj m V A B := by
 intro d
 induction d with
 | zero =>
  intro A B hA hB hc _ _ hd
  have hn : loneL (setOf m A) (setOf m B) = [] := List.eq_nil_of_length_eq_zero (by omega)
  have hs : subN m A B := fun i hi hb => by
   refine Classical.byContradiction fun q => ?_
   have : (i : Int) ∈ loneL (setOf m A) (setOf m B) := mem_lone.2 ⟨mem_setN.2 ⟨hi, hb⟩, fun h => q (mem_setN.1 h).2⟩
   rw [hn] at this
   cases this
  rw [sub_eq hA hB hs (by omega)]
  exact .base
 | succ d ih =>
  intro A B hA hB hc hXA hXB hd
  by_cases h0 : loneL (setOf m A) (setOf m B) = []
  ·exact ih A B hA hB hc hXA hXB (by rw [h0]; simp)
  ·have hl := lone_len (setOf_nodup m A) (setOf_nodup m B) hc
   have hp := List.length_pos_iff.2 h0
   obtain ⟨z, hz⟩ := List.exists_mem_of_length_pos hp
   obtain ⟨w, hw⟩ := List.exists_mem_of_length_pos (show 0 < (loneL (setOf m B) (setOf m A)).length by omega)
   obtain ⟨z1, z2⟩ := mem_lone.1 hz
   obtain ⟨w1, w2⟩ := mem_lone.1 hw
   obtain ⟨x, hx, hxb, rfl⟩ := mem_setOf.1 z1
   obtain ⟨y, hy, hyb, rfl⟩ := mem_setOf.1 w1
   have hAy : A.testBit y = false := Bool.eq_false_iff.2 fun h => w2 (mem_setN.2 ⟨hy, h⟩)
   have hBx : B.testBit x = false := Bool.eq_false_iff.2 fun h => z2 (mem_setN.2 ⟨hx, h⟩)
   have hXx : X.testBit x = false := Bool.eq_false_iff.2 fun h => by have := hXB x hx h; rw [hBx] at this; cases this
   have hxy : x ≠ y := fun e => by rw [e, hAy] at hxb; cases hxb
   have hbit : ∀ i, ((A ^^^ 2 ^ y) ^^^ 2 ^ x).testBit i = if i = x then false else if i = y then true else A.testBit i := fun i => by
    rw [xor_bit, xor_bit]
    by_cases e1 : i = x
    ·subst e1
     rw [if_pos rfl, hxb]
     simp [Ne.symm hxy]
    ·rw [if_neg e1]
     by_cases e2 : i = y
     ·subst e2
      rw [if_pos rfl, hAy]
      simp [hxy]
     ·rw [if_neg e2]
      simp [Ne.symm e1, Ne.symm e2]
   have hA' : (A ^^^ 2 ^ y) ^^^ 2 ^ x < 2 ^ m := xor_lt (xor_lt hA hy) hx
   have hXA' : subN m X ((A ^^^ 2 ^ y) ^^^ 2 ^ x) := fun i hi hb => by
    rw [hbit]
    by_cases e1 : i = x
    ·subst e1; rw [hXx] at hb; cases hb
    ·rw [if_neg e1]
     split
     ·rfl
     ·exact hXA i hi hb
   have hc' : card m ((A ^^^ 2 ^ y) ^^^ 2 ^ x) = card m B := by
    have c1 := card_out hy hAy
    have c2 := card_in (A := A ^^^ 2 ^ y) hx (by rw [xor_bit, hxb]; simp [Ne.symm hxy])
    omega
   have hless : (loneL (setOf m ((A ^^^ 2 ^ y) ^^^ 2 ^ x)) (setOf m B)).length ≤ d := by
    have := nodup_le (a := (x : Int) :: loneL (setOf m ((A ^^^ 2 ^ y) ^^^ 2 ^ x)) (setOf m B)) (b := loneL (setOf m A) (setOf m B)) (List.nodup_cons.2 ⟨(fun q => by
     have := (mem_setN.1 (mem_lone.1 q).1).2
     rw [hbit, if_pos rfl] at this
     cases this), (setOf_nodup m _).filter _⟩) fun z hz => by
     rcases List.mem_cons.1 hz with rfl | hz
     ·exact mem_lone.2 ⟨z1, z2⟩
     ·obtain ⟨q1, q2⟩ := mem_lone.1 hz
      obtain ⟨i, hi, hib, rfl⟩ := mem_setOf.1 q1
      rw [hbit] at hib
      refine mem_lone.2 ⟨mem_setN.2 ⟨hi, ?_⟩, q2⟩
      by_cases e1 : i = x
      ·rw [if_pos e1] at hib; cases hib
      ·rw [if_neg e1] at hib
       by_cases e2 : i = y
       ·subst e2
        exact absurd w1 q2
       ·rwa [if_neg e2] at hib
    simp only [List.length_cons] at this
    omega
   exact tj_trans (.step .base hx hy hxb hAy (hV X _ hX hA' hXA' vX)) (ih _ B hA' hB hc' hXA' hXB hless)
theorem grow_to {m k : Nat} (hk : k ≤ m) : ∀ (d X : Nat), X < 2 ^ m → card m X + d = k → ∃ Z, Z < 2 ^ m ∧ subN m X Z ∧ card m Z = k := by
 intro d
 induction d with
 | zero => intro X hX h; exact ⟨X, hX, subN_refl m X, by omega⟩
 | succ d ih =>
  intro X hX h
  obtain ⟨y, hy, hyb⟩ : ∃ y, y < m ∧ X.testBit y = false := by
   refine Classical.byContradiction fun q => ?_
   have := nodup_le (a := upL m) (b := setOf m X) (upL_nodup m) fun z hz => by
    obtain ⟨z1, z2⟩ := mem_upL.1 hz
    obtain ⟨i, rfl⟩ : ∃ i : Nat, z = (i : Int) := ⟨z.toNat, by omega⟩
    refine mem_setN.2 ⟨by omega, ?_⟩
    cases hb : X.testBit i with
    | true => rfl
    | false => exact absurd ⟨i, by omega, hb⟩ q
   rw [upL_len] at this
   have h2 : (setOf m X).length = card m X := rfl
   omega
  have hc := card_out hy hyb
  obtain ⟨Z, z1, z2, z3⟩ := ih (X ^^^ 2 ^ y) (xor_lt hX hy) (by omega)
  exact ⟨Z, z1, subN_trans (sub_add hyb) z2, z3⟩
inductive Tar (m : Nat) (W : Nat → Prop) (A : Nat) : Nat → Prop
 | base : Tar m W A A
 | step {B x : Nat} : Tar m W A B → x < m → W (B ^^^ 2 ^ x) → Tar m W A (B ^^^ 2 ^ x)
theorem tar_tj {m k : Nat} {V : Nat → Prop} (hV : upV m V) (hk : k ≤ m) {A B : Nat} (hA : A < 2 ^ m) (vA : V A) (cA : card m A = k) (h : Tar m (fun C => V C ∧ card m C ≤ k + 1) A B) :
  B < 2 ^ m ∧ V B ∧ card m B ≤ k + 1 ∧ (card m B ≤ k → ∀ Y, Y < 2 ^ m → card m Y = k → subN m B Y → Tj m V A Y) ∧ (card m B = k + 1 → ∀ u, u < m → B.testBit u = true → V (B ^^^ 2 ^ u) → Tj m V A (B ^^^ 2 ^ u)) := by
 induction h with
 | base =>
  refine ⟨hA, vA, by omega, fun _ Y hY cY hs => ?_, fun q => by omega⟩
  rw [← sub_eq hA hY hs (by omega)]
  exact .base
 | @step B x _ hx hw ih =>
  obtain ⟨hB, vB, cB, i1, i2⟩ := ih
  have hB' := xor_lt (m := m) hB hx
  refine ⟨hB', hw.1, hw.2, fun hc Y hY cY hs => ?_, fun hc u hu hub hv => ?_⟩
  ·cases hb : B.testBit x with
   | false =>
    -- x is added
    have := card_out hx hb
    exact i1 (by omega) Y hY cY (subN_trans (sub_add hb) hs)
   | true =>
    have hci := card_in hx hb
    by_cases h2 : card m B = k + 1
    ·have e : B ^^^ 2 ^ x = Y := sub_eq hB' hY hs (by omega)
     rw [← e]
     exact i2 h2 x hx hb hw.1
    ·obtain ⟨Z, z1, z2, z3⟩ := grow_to hk (k - card m B) B hB (by omega)
     have t1 := i1 (by omega) Z z1 z3 z2
     exact tj_trans t1 (tj_over hV hB' hw.1 _ Z Y z1 hY (by omega) (subN_trans (sub_rem hb) z2) hs (Nat.le_refl _))
  ·cases hb : B.testBit x with
   | false =>
    have hco := card_out hx hb
    have t1 := i1 (by omega) B hB (by omega) (subN_refl m B)
    by_cases e : u = x
    ·subst e
     rw [xor_twice]
     exact t1
    ·have hBu : B.testBit u = true := by
      rw [xor_bit] at hub
      simpa [Ne.symm e] using hub
     exact .step t1 hu hx hBu hb hv
   | true =>
    have := card_in hx hb
    omega
theorem tj_tar {m k : Nat} {V : Nat → Prop} (hV : upV m V) {A B : Nat} (hA : A < 2 ^ m) (vA : V A) (cA : card m A = k) (h : Tj m V A B) : B < 2 ^ m ∧ V B ∧ card m B = k ∧ Tar m (fun C => V C ∧ card m C ≤ k + 1) A B := by
 induction h with
 | base => exact ⟨hA, vA, cA, .base⟩
 | @step B x y _ hx hy hbx hby hv ih =>
  obtain ⟨hB, vB, cB, t⟩ := ih
  have hxy : x ≠ y := fun e => by rw [e, hby] at hbx; cases hbx
  have c1 := card_out hy hby
  have c2 := card_in (A := B ^^^ 2 ^ y) hx (by rw [xor_bit, hbx]; simp [Ne.symm hxy])
  have hB1 := xor_lt (m := m) hB hy
  refine ⟨xor_lt hB1 hx, hv, by omega, .step (.step t hy ⟨hV B _ hB hB1 (sub_add hby) vB, by omega⟩) hx ⟨hv, by omega⟩⟩
def oth (m A : Nat) : Nat := (2 ^ m - 1) ^^^ A
theorem oth_bit {m A i : Nat} (hi : i < m) : (oth m A).testBit i = !A.testBit i := by
 unfold oth
 rw [Nat.testBit_xor, Nat.testBit_two_pow_sub_one]
 simp [hi]
theorem oth_lt {m A : Nat} (hA : A < 2 ^ m) : oth m A < 2 ^ m := Nat.xor_lt_two_pow (by have := Nat.two_pow_pos m; omega) hA
theorem oth_oth (m A : Nat) : oth m (oth m A) = A := by
 unfold oth
 rw [← Nat.xor_assoc, Nat.xor_self, Nat.zero_xor]
theorem oth_xor (m A x : Nat) : oth m (A ^^^ 2 ^ x) = oth m A ^^^ 2 ^ x := by
 unfold oth
 rw [Nat.xor_assoc]
theorem card_oth {m A : Nat} : card m (oth m A) + card m A = m := by
 have h1 := nodup_le (a := setOf m (oth m A) ++ setOf m A) (b := upL m) (by
  refine List.nodup_append.2 ⟨setOf_nodup m _, setOf_nodup m _, fun a ha b hb e => ?_⟩
  subst e
  obtain ⟨i, hi, h1, rfl⟩ := mem_setOf.1 ha
  have h2 := (mem_setN.1 hb).2
  rw [oth_bit hi, h2] at h1
  cases h1) fun z hz => by
  rcases List.mem_append.1 hz with h | h
  ·obtain ⟨i, hi, _, rfl⟩ := mem_setOf.1 h
   exact mem_upL.2 ⟨by omega, by omega⟩
  ·obtain ⟨i, hi, _, rfl⟩ := mem_setOf.1 h
   exact mem_upL.2 ⟨by omega, by omega⟩
 have h2 := nodup_le (a := upL m) (b := setOf m (oth m A) ++ setOf m A) (upL_nodup m) fun z hz => by
  obtain ⟨z1, z2⟩ := mem_upL.1 hz
  obtain ⟨i, rfl⟩ : ∃ i : Nat, z = (i : Int) := ⟨z.toNat, by omega⟩
  rw [List.mem_append]
  cases hb : A.testBit i with
  | true => exact .inr (mem_setN.2 ⟨by omega, hb⟩)
  | false => exact .inl (mem_setN.2 ⟨by omega, by rw [oth_bit (by omega), hb]; rfl⟩)
 rw [upL_len, List.length_append] at h1 h2
 unfold card
 omega
theorem oth_sub {m A B : Nat} (h : subN m A B) : subN m (oth m B) (oth m A) := fun i hi hb => by
 rw [oth_bit hi] at hb ⊢
 cases ha : A.testBit i with
 | true => rw [h i hi ha] at hb; cases hb
 | false => rfl
theorem two_xor {m C x y : Nat} (hx : x < m) (hy : y < m) (hxy : x ≠ y) (h : card m ((C ^^^ 2 ^ y) ^^^ 2 ^ x) = card m C) : (C.testBit x = true ∧ C.testBit y = false) ∨ (C.testBit x = false ∧ C.testBit y = true) := by
 have hb : (C ^^^ 2 ^ y).testBit x = C.testBit x := by rw [xor_bit]; simp [Ne.symm hxy]
 cases h1 : C.testBit x with
 | true =>
  cases h2 : C.testBit y with
  | false => exact .inl ⟨rfl, rfl⟩
  | true =>
   have := card_in (A := C) hy h2
   have := card_in (A := C ^^^ 2 ^ y) hx (hb.trans h1)
   omega
 | false =>
  cases h2 : C.testBit y with
  | true => exact .inr ⟨rfl, rfl⟩
  | false =>
   have := card_out (A := C) hy h2
   have := card_out (A := C ^^^ 2 ^ y) hx (hb.trans h1)
   omega
theorem xor_swap (C x y : Nat) : (C ^^^ 2 ^ y) ^^^ 2 ^ x = (C ^^^ 2 ^ x) ^^^ 2 ^ y := by rw [Nat.xor_assoc, Nat.xor_comm (2 ^ y), ← Nat.xor_assoc]
theorem xy_ex {m C x y : Nat} (hx : x < m) (hy : y < m) (hxb : C.testBit x = true) (hyb : C.testBit y = false) : (loneL (setOf m C) (setOf m ((C ^^^ 2 ^ y) ^^^ 2 ^ x))).length = 1 := by
 have hxy : x ≠ y := fun e => by rw [e, hyb] at hxb; cases hxb
 have h1 : (x : Int) ∈ loneL (setOf m C) (setOf m ((C ^^^ 2 ^ y) ^^^ 2 ^ x)) := mem_lone.2 ⟨mem_setN.2 ⟨hx, hxb⟩, fun q => by
  have := (mem_setN.1 q).2
  rw [xor_bit, xor_bit, hxb] at this
  simp [Ne.symm hxy] at this⟩
 have h2 := nodup_le (a := loneL (setOf m C) (setOf m ((C ^^^ 2 ^ y) ^^^ 2 ^ x))) (b := [(x : Int)]) ((setOf_nodup m _).filter _) fun z hz => by
  obtain ⟨q1, q2⟩ := mem_lone.1 hz
  obtain ⟨i, hi, hb, rfl⟩ := mem_setOf.1 q1
  by_cases e : i = x
  ·rw [e]; exact List.mem_singleton.2 rfl
  ·exfalso
   apply q2
   refine mem_setN.2 ⟨hi, ?_⟩
   rw [xor_bit, xor_bit, hb]
   by_cases e2 : y = i
   ·subst e2; rw [hyb] at hb; cases hb
   ·simp [e2, Ne.symm e]
 have := List.length_pos_of_mem h1
 simp at h2
 omega
theorem ex_xy {m A B : Nat} (hA : A < 2 ^ m) (hB : B < 2 ^ m) (hc : card m A = card m B) (h : (loneL (setOf m A) (setOf m B)).length = 1) : ∃ x y, x < m ∧ y < m ∧ x ≠ y ∧ B = (A ^^^ 2 ^ y) ^^^ 2 ^ x := by
 obtain ⟨z, hz⟩ := List.length_eq_one_iff.1 h
 obtain ⟨w, hw⟩ := List.length_eq_one_iff.1 ((lone_len (setOf_nodup m A) (setOf_nodup m B) hc).symm.trans h)
 obtain ⟨z1, z2⟩ := mem_lone.1 (show z ∈ loneL (setOf m A) (setOf m B) by rw [hz]; simp)
 obtain ⟨w1, w2⟩ := mem_lone.1 (show w ∈ loneL (setOf m B) (setOf m A) by rw [hw]; simp)
 obtain ⟨x, hx, hxb, rfl⟩ := mem_setOf.1 z1
 obtain ⟨y, hy, hyb, rfl⟩ := mem_setOf.1 w1
 have hxB : B.testBit x = false := Bool.eq_false_iff.2 fun q => z2 (mem_setN.2 ⟨hx, q⟩)
 have hyA : A.testBit y = false := Bool.eq_false_iff.2 fun q => w2 (mem_setN.2 ⟨hy, q⟩)
 have hxy : x ≠ y := fun e => by rw [e, hyA] at hxb; cases hxb
 refine ⟨x, y, hx, hy, hxy, Nat.eq_of_testBit_eq fun i => ?_⟩
 rw [xor_bit, xor_bit]
 by_cases hi : i < m
 ·by_cases e1 : x = i
  ·subst e1
   rw [hxB, hxb]
   simp [Ne.symm hxy]
  ·by_cases e2 : y = i
   ·subst e2
    rw [hyb, hyA]
    simp [e1]
   ·simp only [e1, e2, decide_false, Bool.xor_false]
    cases ha : A.testBit i with
    | true =>
     cases hb : B.testBit i with
     | true => rfl
     | false =>
      have : (i : Int) ∈ loneL (setOf m A) (setOf m B) := mem_lone.2 ⟨mem_setN.2 ⟨hi, ha⟩, fun q => by rw [(mem_setN.1 q).2] at hb; cases hb⟩
      rw [hz, List.mem_singleton] at this
      omega
    | false =>
     cases hb : B.testBit i with
     | false => rfl
     | true =>
      have : (i : Int) ∈ loneL (setOf m B) (setOf m A) := mem_lone.2 ⟨mem_setN.2 ⟨hi, hb⟩, fun q => by rw [(mem_setN.1 q).2] at ha; cases ha⟩
      rw [hw, List.mem_singleton] at this
      omega
 ·rw [bit_out hB (by omega), bit_out hA (by omega)]
  have e1 : x ≠ i := by omega
  have e2 : y ≠ i := by omega
  simp [e1, e2]
structure Vw (m : Nat) (es : List (Int × Int)) (kind : Int) (k : Nat) (level : Int) (σ : Nat → Nat) (V : Nat → Prop) (k' bd : Nat) : Prop where
 lt : ∀ A, A < 2 ^ m → σ A < 2 ^ m
 xor : ∀ A x, σ (A ^^^ 2 ^ x) = σ A ^^^ 2 ^ x
 inv : ∀ A, σ (σ A) = A
 vdef : ∀ A, V A ↔ hasK m es kind (setOf m (σ A))
 up : upV m V
 cardk : ∀ A, A < 2 ^ m → (card m A = k' ↔ card m (σ A) = k)
 fits : ∀ A, A < 2 ^ m → (card m A ≤ bd ↔ fitsP kind (card m (σ A)) level)
 km : k' ≤ m
theorem vw_up {m k : Nat} {es : List (Int × Int)} {kind : Int} (hk : kind ≠ 2) (hkm : k ≤ m) : Vw m es kind k ((k : Int) + 1) (fun A => A) (fun A => hasK m es kind (setOf m A)) k (k + 1) where
 lt := fun A h => h
 xor := fun A x => rfl
 inv := fun A => rfl
 vdef := fun A => Iff.rfl
 up := fun A B _ _ h v => hasK_up hk (sub_mem h) v
 cardk := fun A _ => Iff.rfl
 fits := fun A _ => by
  unfold fitsP
  rw [if_neg hk]
  omega
 km := hkm
theorem vw_down {m k : Nat} {es : List (Int × Int)} (hkm : k ≤ m) (hk0 : 1 ≤ k) : Vw m es 2 k ((k : Int) - 1) (oth m) (fun A => hasK m es 2 (setOf m (oth m A))) (m - k) (m - k + 1) where
 lt := fun A h => oth_lt h
 xor := fun A x => oth_xor m A x
 inv := fun A => oth_oth m A
 vdef := fun A => Iff.rfl
 up := fun A B _ _ h v => hasK_down (A := oth m A) (sub_mem (oth_sub h)) v
 cardk := fun A _ => by
  have := card_oth (m := m) (A := A)
  omega
 fits := fun A _ => by
  have := card_oth (m := m) (A := A)
  unfold fitsP
  rw [if_pos rfl]
  omega
 km := by omega
theorem exP_false {es : List (Int × Int)} {a b : List Int} : exP es false a b = true ↔ (loneL a b).length = 1 := by
 unfold exP
 simp
theorem exP_sym {m k : Nat} {es : List (Int × Int)} {kind : Int} {ys : List (List Int)} (hys : ExSt m es kind k ys) : ∀ x ∈ ys, ∀ y ∈ ys, exP es false x y = true → exP es false y x = true := fun x hx y hy h => by
 obtain ⟨⟨a, ha, rfl⟩, _, la⟩ := (hys.2 x).1 hx
 obtain ⟨⟨b, hb, rfl⟩, _, lb⟩ := (hys.2 y).1 hy
 rw [exP_false] at h ⊢
 rw [← lone_len (setOf_nodup m a) (setOf_nodup m b) (by rw [la, lb])]
 exact h
theorem wk_tj {m k k' bd : Nat} {es : List (Int × Int)} {kind level : Int} {σ : Nat → Nat} {V : Nat → Prop} (H : Vw m es kind k level σ V k' bd) {ys : List (List Int)} (hys : ExSt m es kind k ys) {A : Nat} (hA : A < 2 ^ m) (hAy : setOf m (σ A) ∈ ys) {v : Int} (h : Wk (nbL ys.length (stepsL (exP es false) ys)) ((ys.idxOf (setOf m (σ A)) : Nat) : Int) v) :
  InN ys.length v ∧ ∃ B, B < 2 ^ m ∧ rdL ys v = setOf m (σ B) ∧ Tj m V A B ∧ card m B = k' := by
 induction h with
 | base => exact ⟨in_nat (idx_lt hAy), A, hA, idx_rd hAy, .base, (H.cardk A hA).2 ((hys.2 _).1 hAy).2.2⟩
 | step _ hz ih =>
  obtain ⟨i1, B, hB, eB, t, cB⟩ := ih
  obtain ⟨n1, n2, n3, n4⟩ := near_step (exP_sym hys) i1 hz
  obtain ⟨⟨C, hC, eC⟩, kC, lC⟩ := (hys.2 _).1 n2
  have hD := H.lt C hC
  have eD : σ (σ C) = C := H.inv C
  have cD : card m (σ C) = k' := (H.cardk _ hD).2 (by rw [eD]; unfold card; rw [← eC]; exact lC)
  have hlB : (setOf m (σ B)).length = k := by have := ((hys.2 _).1 n1).2.2; rwa [eB] at this
  rw [exP_false, eB, eC] at n3
  obtain ⟨x, y, hx, hy, hxy, e⟩ := ex_xy (H.lt B hB) hC (by show (setOf m (σ B)).length = (setOf m C).length; rw [hlB, ← eC]; exact lC.symm) n3
  have e2 : σ C = (B ^^^ 2 ^ y) ^^^ 2 ^ x := by rw [e, H.xor, H.xor, H.inv]
  have hv : V (σ C) := (H.vdef _).2 (by rw [eD, ← eC]; exact kC)
  refine ⟨n4, σ C, hD, by rw [eD]; exact eC, ?_, cD⟩
  rcases two_xor hx hy hxy (C := B) (by rw [← e2, cD, cB]) with ⟨b1, b2⟩ | ⟨b1, b2⟩
  ·rw [e2] at hv ⊢
   exact .step t hx hy b1 b2 hv
  ·rw [e2, xor_swap] at hv ⊢
   exact .step t hy hx b2 b1 hv
theorem tj_wk {m k k' bd : Nat} {es : List (Int × Int)} {kind level : Int} {σ : Nat → Nat} {V : Nat → Prop} (H : Vw m es kind k level σ V k' bd) {ys : List (List Int)} (hys : ExSt m es kind k ys) {A B : Nat} (hA : A < 2 ^ m) (hAy : setOf m (σ A) ∈ ys) (h : Tj m V A B) :
  B < 2 ^ m ∧ setOf m (σ B) ∈ ys ∧ card m B = k' ∧ Wk (nbL ys.length (stepsL (exP es false) ys)) ((ys.idxOf (setOf m (σ A)) : Nat) : Int) ((ys.idxOf (setOf m (σ B)) : Nat) : Int) := by
 induction h with
 | base => exact ⟨hA, hAy, (H.cardk A hA).2 ((hys.2 _).1 hAy).2.2, .base⟩
 | @step B x y _ hx hy hbx hby hv ih =>
  obtain ⟨hB, mB, cB, w⟩ := ih
  have hxy : x ≠ y := fun e => by rw [e, hby] at hbx; cases hbx
  have c1 := card_out hy hby
  have c2 := card_in (A := B ^^^ 2 ^ y) hx (by rw [xor_bit, hbx]; simp [Ne.symm hxy])
  have hB' := xor_lt (m := m) (xor_lt (m := m) hB hy) hx
  have cB' : card m ((B ^^^ 2 ^ y) ^^^ 2 ^ x) = k' := by omega
  have mB' : setOf m (σ ((B ^^^ 2 ^ y) ^^^ 2 ^ x)) ∈ ys := (hys.2 _).2 ⟨⟨_, H.lt _ hB', rfl⟩, (H.vdef _).1 hv, (H.cardk _ hB').1 cB'⟩
  have e : σ ((B ^^^ 2 ^ y) ^^^ 2 ^ x) = (σ B ^^^ 2 ^ y) ^^^ 2 ^ x := by rw [H.xor, H.xor]
  have hlen : card m ((σ B ^^^ 2 ^ y) ^^^ 2 ^ x) = card m (σ B) := by
   have q1 := ((hys.2 _).1 mB).2.2
   have q2 := ((hys.2 _).1 mB').2.2
   rw [e] at q2
   exact q2.trans q1.symm
  have hex : exP es false (setOf m (σ B)) (setOf m (σ ((B ^^^ 2 ^ y) ^^^ 2 ^ x))) = true := by
   rw [exP_false, e]
   rcases two_xor hx hy hxy hlen with ⟨b1, b2⟩ | ⟨b1, b2⟩
   ·exact xy_ex hx hy b1 b2
   ·rw [xor_swap]
    exact xy_ex hy hx b2 b1
  have hne : setOf m (σ B) ≠ setOf m (σ ((B ^^^ 2 ^ y) ^^^ 2 ^ x)) := fun q => by
   rw [exP_false, ← q] at hex
   have : loneL (setOf m (σ B)) (setOf m (σ B)) = [] := List.eq_nil_iff_forall_not_mem.2 fun z hz => (mem_lone.1 hz).2 (mem_lone.1 hz).1
   rw [this] at hex
   cases hex
  exact ⟨hB', mB', cB', .step w (step_near (exP_sym hys) mB mB' hne hex)⟩
theorem wk_tar {m k k' bd : Nat} {es : List (Int × Int)} {kind level : Int} {σ : Nat → Nat} {V : Nat → Prop} (H : Vw m es kind k level σ V k' bd) {zs : List (List Int)} (hzs : ThSt m es kind level zs) {A : Nat} (hA : A < 2 ^ m) (hAz : setOf m (σ A) ∈ zs) {v : Int} (h : Wk (nbL zs.length (stepsL addP zs)) ((zs.idxOf (setOf m (σ A)) : Nat) : Int) v) :
  InN zs.length v ∧ ∃ B, B < 2 ^ m ∧ rdL zs v = setOf m (σ B) ∧ Tar m (fun C => V C ∧ card m C ≤ bd) A B := by
 induction h with
 | base => exact ⟨in_nat (idx_lt hAz), A, hA, idx_rd hAz, .base⟩
 | step _ hz ih =>
  obtain ⟨i1, B, hB, eB, t⟩ := ih
  obtain ⟨n1, n2, n3, n4⟩ := near_step (fun x _ y _ h => by rw [addP_symm]; exact h) i1 hz
  obtain ⟨⟨C, hC, eC⟩, kC, lC⟩ := (hzs.2 _).1 n2
  rw [eB, eC] at n3
  obtain ⟨x, hx, e⟩ := (addP_iff (H.lt B hB) hC).1 n3
  have e2 : B ^^^ 2 ^ x = σ C := by rw [e, H.xor, H.inv]
  have hD := H.lt C hC
  have w : V (B ^^^ 2 ^ x) ∧ card m (B ^^^ 2 ^ x) ≤ bd := by
   rw [e2]
   refine ⟨(H.vdef _).2 (by rw [H.inv, ← eC]; exact kC), (H.fits _ hD).2 ?_⟩
   rw [H.inv]
   unfold card
   rw [← eC]
   exact lC
  refine ⟨n4, B ^^^ 2 ^ x, xor_lt hB hx, by rw [e2, H.inv]; exact eC, .step t hx w⟩
theorem tar_wk {m k k' bd : Nat} {es : List (Int × Int)} {kind level : Int} {σ : Nat → Nat} {V : Nat → Prop} (H : Vw m es kind k level σ V k' bd) {zs : List (List Int)} (hzs : ThSt m es kind level zs) {A B : Nat} (hA : A < 2 ^ m) (hAz : setOf m (σ A) ∈ zs) (h : Tar m (fun C => V C ∧ card m C ≤ bd) A B) :
  B < 2 ^ m ∧ setOf m (σ B) ∈ zs ∧ Wk (nbL zs.length (stepsL addP zs)) ((zs.idxOf (setOf m (σ A)) : Nat) : Int) ((zs.idxOf (setOf m (σ B)) : Nat) : Int) := by
 induction h with
 | base => exact ⟨hA, hAz, .base⟩
 | @step B x _ hx hw ih =>
  obtain ⟨hB, mB, w⟩ := ih
  have hB' := xor_lt (m := m) hB hx
  have mB' : setOf m (σ (B ^^^ 2 ^ x)) ∈ zs := (hzs.2 _).2 ⟨⟨_, H.lt _ hB', rfl⟩, (H.vdef _).1 hw.1, (H.fits _ hB').1 hw.2⟩
  have e : σ (B ^^^ 2 ^ x) = σ B ^^^ 2 ^ x := H.xor B x
  refine ⟨hB', mB', .step w ?_⟩
  rw [e] at mB' ⊢
  exact add_near (H.lt B hB) hx mB mB'
theorem ex_thr {m k k' : Nat} {es : List (Int × Int)} {kind level : Int} {σ : Nat → Nat} {V : Nat → Prop} (H : Vw m es kind k level σ V k' (k' + 1)) {ys zs : List (List Int)} (hys : ExSt m es kind k ys) (hzs : ThSt m es kind level zs) {a b : List Int} (ha : a ∈ ys) (hb : b ∈ ys) :
  a ∈ zs ∧ b ∈ zs ∧ (Wk (nbL ys.length (stepsL (exP es false) ys)) ((ys.idxOf b : Nat) : Int) ((ys.idxOf a : Nat) : Int) ↔ Wk (nbL zs.length (stepsL addP zs)) ((zs.idxOf b : Nat) : Int) ((zs.idxOf a : Nat) : Int)) := by
 obtain ⟨⟨A0, hA0, rfl⟩, kA, lA⟩ := (hys.2 _).1 ha
 obtain ⟨⟨B0, hB0, rfl⟩, kB, lB⟩ := (hys.2 _).1 hb
 obtain ⟨A, rfl⟩ : ∃ A, A0 = σ A := ⟨σ A0, (H.inv A0).symm⟩
 obtain ⟨B, rfl⟩ : ∃ B, B0 = σ B := ⟨σ B0, (H.inv B0).symm⟩
 have hA : A < 2 ^ m := by have := H.lt _ hA0; rwa [H.inv] at this
 have hB : B < 2 ^ m := by have := H.lt _ hB0; rwa [H.inv] at this
 have vA : V A := (H.vdef A).2 kA
 have vB : V B := (H.vdef B).2 kB
 have cA : card m A = k' := (H.cardk A hA).2 lA
 have cB : card m B = k' := (H.cardk B hB).2 lB
 have zA : setOf m (σ A) ∈ zs := (hzs.2 _).2 ⟨⟨_, hA0, rfl⟩, kA, (H.fits A hA).1 (by omega)⟩
 have zB : setOf m (σ B) ∈ zs := (hzs.2 _).2 ⟨⟨_, hB0, rfl⟩, kB, (H.fits B hB).1 (by omega)⟩
 have inj : ∀ {C D : Nat}, C < 2 ^ m → D < 2 ^ m → setOf m (σ C) = setOf m (σ D) → C = D := fun {C D} hC hD e => by
  have := setOf_inj (H.lt C hC) (H.lt D hD) e
  rw [← H.inv C, this, H.inv]
 refine ⟨zA, zB, fun h => ?_, fun h => ?_⟩
 ·obtain ⟨_, C, hC, eC, t, _⟩ := wk_tj H hys hB hb h
  rw [idx_rd ha] at eC
  have : A = C := inj hA hC eC
  subst this
  have t2 := (tj_tar H.up hB vB cB t).2.2.2
  exact (tar_wk H hzs hB zB t2).2.2
 ·obtain ⟨_, C, hC, eC, t⟩ := wk_tar H hzs hB zB h
  rw [idx_rd zA] at eC
  have : A = C := inj hA hC eC
  subst this
  have t2 := (tar_tj H.up H.km hB vB cB t).2.2.2.1 (by omega) A hA cA (subN_refl m A)
  exact (tj_wk H hys hB hb t2).2.2.2
def KindL (m : Nat) (es : List (Int × Int)) (kind : Int) (L : List (List Int)) : Prop := L.Pairwise sizeLt ∧ L.length ≤ 2304 ∧ ∀ s, s ∈ L ↔ (∃ a : Nat, a < 2 ^ m ∧ s = setOf m a) ∧ hasK m es kind s
theorem l4Sets_KL {N m : Nat} {es : List (Int × Int)} {kind : Int} (hm : m ≤ 8) (hx : es.length ≤ 1048576) (hN : 1048577 ≤ N) : ∃ L, Zq126 N ((m : Int), es) kind = some ((L, ()), ()) ∧ KindL m es kind L := by
 obtain ⟨L, h1, h2, h3, h4⟩ := l4Sets_eq (N := N) (kind := kind) hm hx hN
 exact ⟨L, h1, h2, h3, h4⟩
def kCase (g : Int × List (Int × Int)) (kind : Int) : Prop := goodG g ∧ 1 ≤ kind ∧ kind ≤ 3
theorem setCase_facts {g : Int × List (Int × Int)} (hg : goodG g) {s : List Int} (h : rising 0 (g.1 - 1) s) : ∃ A, A < 2 ^ g.1.toNat ∧ s = setOf g.1.toNat A := by
 obtain ⟨m, hm⟩ : ∃ m : Nat, g.1 = (m : Int) := ⟨g.1.toNat, by have := hg.1; omega⟩
 rw [hm] at h
 rw [hm, show ((m : Int)).toNat = m from Int.toNat_natCast m]
 exact rising_set (by have := hg.1; omega) h
noncomputable def hasV (g : Int × List (Int × Int)) (kind : Int) (s : List Int) : Bool × Bool := if kCase g kind ∧ rising 0 (g.1 - 1) s then (decide (hasK g.1.toNat g.2 kind s), true) else (false, false)
theorem Has_both {N : Nat} {g : Int × List (Int × Int)} {kind : Int} {s : List Int} (hx : g.2.length ≤ 1048576) (hs : s.length ≤ 1048576) (hN : 1048577 ≤ N) : Zq82 N g kind s = some (((hasV g kind s).1, (hasV g kind s).2, ()), ()) ∧ Zq18 N g kind s = some (((hasV g kind s).1, (hasV g kind s).2, ()), ()) := by
 unfold Zq82 Zq113 Zq18 Zq43 Zq39 hasV
 simp only [show ((g.1, g.2) : Int × List (Int × Int)) = g from rfl]
 rw [l4Good_eq hx hN, bind_some', IsGraph_eq hx hN, bind_some']
 by_cases hg : goodG g
 ·have hg1 := hg.1
  simp only [between_eq, bind_some']
  by_cases hk : 1 ≤ kind ∧ kind ≤ 3
  ·rw [decide_eq_true (show goodG g ∧ 1 ≤ kind ∧ kind ≤ 3 from ⟨hg, hk⟩), decide_eq_true hg, decide_eq_true hk]
   simp only [Bool.not_true, br_f, br_t]
   rw [wrap_ok (by omega) (by omega), l1Rising_eq hs hN, bind_some', bind_some', isRising_eq hs (by omega) hN, bind_some', bind_some']
   simp only []
   by_cases h2 : rising 0 (g.1 - 1) s
   ·rw [decide_eq_true h2, if_pos ⟨⟨hg, hk⟩, h2⟩]
    simp only [Bool.not_true, br_f]
    obtain ⟨A, hA, rfl⟩ := setCase_facts hg h2
    obtain ⟨m, hm⟩ : ∃ m : Nat, g.1 = (m : Int) := ⟨g.1.toNat, by omega⟩
    obtain ⟨g1, es⟩ := g
    simp only at hm hx hg1 hA hs ⊢
    subst hm
    simp only [Int.toNat_natCast] at hA hs ⊢
    rw [l4Has_eq (by omega) hx hs hN, bind_some', bagOf_set (by omega) hA hN, bind_some']
    simp only []
    rw [hasKind_eq (by omega) hA hg hx hN, bind_some']
    first | exact ⟨rfl, rfl⟩ | exact ⟨rfl, trivial⟩ | exact ⟨trivial, rfl⟩ | simp
   ·rw [decide_eq_false h2, if_neg fun q => h2 q.2]
    first | exact ⟨rfl, rfl⟩ | exact ⟨rfl, trivial⟩ | exact ⟨trivial, rfl⟩ | simp
  ·rw [decide_eq_false (fun q : goodG g ∧ 1 ≤ kind ∧ kind ≤ 3 => hk q.2), decide_eq_true hg, decide_eq_false hk, if_neg fun q => hk q.1.2]
   first | exact ⟨rfl, rfl⟩ | exact ⟨rfl, trivial⟩ | exact ⟨trivial, rfl⟩ | simp
 ·rw [decide_eq_false (fun q : goodG g ∧ 1 ≤ kind ∧ kind ≤ 3 => hg q.1), decide_eq_false hg, if_neg fun q => hg q.1.1]
  first | exact ⟨rfl, rfl⟩ | exact ⟨rfl, trivial⟩ | exact ⟨trivial, rfl⟩ | simp
theorem kind_some {m : Nat} {es : List (Int × Int)} {kind : Int} (hg : goodG ((m : Int), es)) {L : List (List Int)} (hL : KindL m es kind L) : 0 < L.length := by
 by_cases hk : kind = 2
 ·refine List.length_pos_of_mem ((hL.2.2 (setOf m 0)).2 ⟨⟨0, Nat.two_pow_pos m, rfl⟩, ?_⟩)
  have : setOf m 0 = [] := List.eq_nil_iff_forall_not_mem.2 fun z hz => by
   obtain ⟨i, _, hb, _⟩ := mem_setOf.1 hz
   simp at hb
  rw [this]
  unfold hasK
  rw [if_neg (by omega), if_pos hk]
  intro i j hi
  simp at hi
 ·have hf : 2 ^ m - 1 < 2 ^ m := by have := Nat.two_pow_pos m; omega
  refine List.length_pos_of_mem ((hL.2.2 (setOf m (2 ^ m - 1))).2 ⟨⟨_, hf, rfl⟩, ?_⟩)
  have hall : ∀ i : Nat, i < m → (i : Int) ∈ setOf m (2 ^ m - 1) := fun i hi => mem_setN.2 ⟨hi, by rw [Nat.testBit_two_pow_sub_one]; simpa using hi⟩
  unfold hasK
  by_cases h1 : kind = 1
  ·rw [if_pos h1]
   intro e he
   have := goodG_edges hg e he
   simp only at this
   obtain ⟨i, hi⟩ : ∃ i : Nat, e.1 = (i : Int) := ⟨e.1.toNat, by omega⟩
   rw [hi]
   exact .inl (hall i (by omega))
  ·rw [if_neg h1, if_neg hk]
   exact fun x hx => .inl (hall x hx)
theorem kind_ok {N : Nat} {code : List Int} {k : Nat} {c : List Int × (Int × Int)} (hco : codeOk code) (h : CurOk code k c) (hk : k ≤ 800000) : ∃ x c', Zq87 N c = some ((x, ()), (c', ())) ∧ CurOk code (k + 6) c' := by
 unfold Zq87
 obtain ⟨b, c1, a1, a2⟩ := one_ok (N := N) hco h (by omega) 24
 rw [a1, bind_some']
 simp only []
 cases b with
 | true =>
  obtain ⟨x, c2, b1, b2, _⟩ := among_ok (N := N) hco a2 (by omega) (l := [0, 4, -1]) (by simp)
  rw [br_t, b1, bind_some']
  exact ⟨x, c2, rfl, cur_mono b2 (by omega)⟩
 | false =>
  obtain ⟨x, c2, b1, b2, _⟩ := pick_ok (N := N) hco a2 (by omega) 3
  rw [br_f, b1, bind_some']
  exact ⟨_, c2, rfl, cur_mono b2 (by omega)⟩
end Go.Proofs.YtahehkidnfmfnaaGreat
