/- Statements on data alone. -/
import Derived.Test.YtbnjcjpnpidhmaaGreatPvPure
import Derived.Test.YtbnjcjpnpidhmaaGreatFlipWaysGc
set_option linter.all false
set_option linter.all false
namespace Go.Proofs.YtbnjcjpnpidhmaaGreat
open Go Go.PV Classical
theorem one_ok {N : Nat} {code : List Int} {k : Nat} {c : List Int × (Int × Int)} (hco : codeOk code) (h : CurOk code k c) (hk : k ≤ 1000000) (n : Int) : ∃ b c', spec_l1Cur_one N c n = some ((b, ()), (c', ())) ∧ CurOk code (k + 2) c' := by
  unfold spec_l1Cur_one
  obtain ⟨x, c', e1, e2, _⟩ := pick_ok (N := N) hco h hk n
  rw [e1, bind_some']
  exact ⟨_, _, rfl, e2⟩
theorem cur0 {code : List Int} : CurOk code 0 (code, (0, 0)) := ⟨rfl, Int.le_refl _, by simp⟩
theorem code_ok {x : List Int} (h : ∀ y ∈ x, (Lit.int .u8 y).wf = true) (hl : x.length ≤ 65536) : codeOk x := by
  refine ⟨by omega, fun y hy => ?_⟩
  have := h y hy
  simp [Lit.wf, IntKind.min, IntKind.max, IntKind.signed, IntKind.bits] at this
  omega
def listsOk (n m : Nat) (l : List (List Int)) : Prop := l.length ≤ n ∧ ∀ x ∈ l, x.length ≤ m
theorem f_in {R : Type} {N : Nat} {code : List Int} (hco : codeOk code) (hN : 1048577 ≤ N) {k0 : Int → Int → List Int × (Int × Int) → Int → Int → List Int → List (List Int) → Option R} {x2 x3 x4 o5 o6 : Int} {o8 : List (List Int)} (hx4 : x4 ≤ 10) :
    ∀ (d : Nat) (x5 : Int) (K k : Nat) (c : List Int × (Int × Int)) (o : List Int), x5 + (d : Int) = x4 → d < K → 0 ≤ x5 → CurOk code k c → k + 4 * d ≤ 900000 → o.length + d ≤ 1000 →
      ∃ c' o', spec_l1Cur_formula_l0_0 N k0 K x2 x3 x4 x5 c o5 o6 o o8 = k0 x2 x3 c' o5 o6 o' o8 ∧ CurOk code (k + 4 * d) c' ∧ o'.length ≤ o.length + d := by
  intro d
  induction d with
  | zero =>
    intro x5 K k c o hd hK h0 hc hk ho
    obtain ⟨K, rfl⟩ := succ_of hK
    refine ⟨c, o, ?_, hc, by omega⟩
    simp only [spec_l1Cur_formula_l0_0, ilt_f (show ¬ x5 < x4 by omega), br_f]
  | succ d ih =>
    intro x5 K k c o hd hK h0 hc hk ho
    obtain ⟨K, rfl⟩ := succ_of hK
    have hw : IntKind.i64.wrap (x5 + 1) = x5 + 1 := wrap_ok (by omega) (by omega)
    simp only [spec_l1Cur_formula_l0_0, ilt_t (show x5 < x4 by omega), br_t, hw]
    obtain ⟨x, c1, e1, e2, _⟩ := pick_ok (N := N) hco hc (by omega) o6
    obtain ⟨b, c2, f1, f2⟩ := one_ok (N := N) hco e2 (by omega) 2
    simp only [e1, f1, bind_some', l1Most_eq, l1Put_eq (show o.length ≤ 1048576 by omega) hN]
    have G : ∀ (b : Bool) (x y : Option R), (∃ c' o', x = k0 x2 x3 c' o5 o6 o' o8 ∧ CurOk code (k + 4 * (d + 1)) c' ∧ o'.length ≤ o.length + (d + 1)) → (∃ c' o', y = k0 x2 x3 c' o5 o6 o' o8 ∧ CurOk code (k + 4 * (d + 1)) c' ∧ o'.length ≤ o.length + (d + 1)) → ∃ c' o', br b x y = k0 x2 x3 c' o5 o6 o' o8 ∧ CurOk code (k + 4 * (d + 1)) c' ∧ o'.length ≤ o.length + (d + 1) := by
      intro b x y h1 h2
      cases b
      · exact h2
      · exact h1
    have recl : ∀ o' : List Int, o'.length ≤ o.length + 1 → ∃ c' o'', spec_l1Cur_formula_l0_0 N k0 K x2 x3 x4 (x5 + 1) c2 o5 o6 o' o8 = k0 x2 x3 c' o5 o6 o'' o8 ∧ CurOk code (k + 4 * (d + 1)) c' ∧ o''.length ≤ o.length + (d + 1) := by
      intro o' ho'
      obtain ⟨c', o'', q1, q2, q3⟩ := ih (x5 + 1) K (k + 2 + 2) c2 o' (by omega) (by omega) (by omega) f2 (by omega) (by omega)
      exact ⟨c', o'', q1, cur_mono q2 (by omega), by omega⟩
    have put : ∀ v : Int, (putI v o).length ≤ o.length + 1 := fun v => putI_len v o
    repeat' first
      | exact recl _ (put _)
      | exact recl _ (Nat.le_succ _)
      | refine G _ _ _ ?_ ?_
    exact ⟨c, o, rfl, cur_mono hc (by omega), by omega⟩
theorem f_out {R : Type} {N : Nat} {code : List Int} (hco : codeOk code) (hN : 1048577 ≤ N) {k0 : List Int × (Int × Int) → Int → Int → List (List Int) → Option R} {x o1 o2 : Int} :
    ∀ (d K k : Nat) (c : List Int × (Int × Int)) (o : List (List Int)), d < K → CurOk code k c → k + 20 * d ≤ 900000 → listsOk (1000 - d) 5 o → d ≤ 100 →
      ∃ c' o', spec_l1Cur_formula_l0 N k0 K x (d : Int) c o1 o2 o = k0 c' o1 o2 o' ∧ CurOk code (k + 20 * d) c' ∧ listsOk (o.length + d) 5 o' := by
  intro d
  induction d with
  | zero =>
    intro K k c o hK hc hk ho hd
    obtain ⟨K, rfl⟩ := succ_of hK
    refine ⟨c, o, ?_, hc, Nat.le_refl _, ho.2⟩
    simp only [spec_l1Cur_formula_l0, ilt_f (show ¬ (0 : Int) < ((0 : Nat) : Int) by omega), br_f]
  | succ d ih =>
    intro K k c o hK hc hk ho hd
    obtain ⟨K, rfl⟩ := succ_of hK
    simp only [spec_l1Cur_formula_l0, ilt_t (show (0 : Int) < ((d + 1 : Nat) : Int) by omega), br_t]
    obtain ⟨y, c1, e1, e2, e3, e4, e5⟩ := pick_ok (N := N) hco hc (by omega) 3
    have e5 := e5 (by omega)
    have hw : IntKind.i64.wrap (1 + y) = 1 + y := wrap_ok (by omega) (by omega)
    rw [e1, bind_some']
    simp only [hw]
    obtain ⟨n, hn⟩ : ∃ n : Nat, 1 + y = (n : Int) := ⟨(1 + y).toNat, by omega⟩
    have hp : IntKind.i64.wrap (((d + 1 : Nat) : Int) - 1) = (d : Int) := by rw [wrap_ok (by omega) (by omega)]; omega
    obtain ⟨c2, o2', q1, q2, q3⟩ := f_in (R := R) (N := N) hco hN (k0 := fun x2 x3 o4 o5 o6 o7 o8 => (br (ilt 0 (tLen o7))
          ((chk (room o8 [o7])
            (spec_l1Cur_formula_l0 N k0 K x2 (IntKind.i64.wrap (x3 - 1)) o4 o5 o6 (tApp o8 [o7]))))
          (((spec_l1Cur_one N o4 8).bind fun r4 =>
            (br r4.1.1
              ((chk (room o8 [o7])
                (spec_l1Cur_formula_l0 N k0 K x2 (IntKind.i64.wrap (x3 - 1)) r4.2.1 o5 o6 (tApp o8 [o7]))))
              (spec_l1Cur_formula_l0 N k0 K x2 (IntKind.i64.wrap (x3 - 1)) r4.2.1 o5 o6 o8)))))) (x2 := x) (x3 := ((d + 1 : Nat) : Int)) (x4 := 1 + y) (o5 := o1) (o6 := o2) (o8 := o) (by omega) n 0 N (k + 2) c1 [] (by omega) (by omega) (by omega) e2 (by omega) (by simp; omega)
    rw [q1]
    simp only [hp]
    simp only [List.length_nil, Nat.zero_add] at q3
    have add : ∀ (kk : Nat) (c : List Int × (Int × Int)), CurOk code kk c → kk ≤ k + 18 → ∃ c' o', (chk (room o [o2']) (spec_l1Cur_formula_l0 N k0 K x (d : Int) c o1 o2 (tApp o [o2']))) = k0 c' o1 o2 o' ∧ CurOk code (k + 20 * (d + 1)) c' ∧ listsOk (o.length + (d + 1)) 5 o' := by
      intro kk c hc hkk
      have hol := ho.1
      rw [room_ok (by simp; omega), chk_t, tApp_d]
      obtain ⟨c', o', r1, r2, r3, r4⟩ := ih K kk c (o ++ [o2']) (by omega) hc (by omega) ⟨by simp; omega, fun z hz => by
        rcases List.mem_append.1 hz with hz | hz
        · exact ho.2 z hz
        · rw [List.mem_singleton] at hz; subst hz; omega⟩ (by omega)
      exact ⟨c', o', r1, cur_mono r2 (by omega), by simp at r3; omega, r4⟩
    by_cases hz : 0 < tLen o2'
    · rw [ilt_t hz, br_t]
      exact add _ c2 q2 (by omega)
    · rw [ilt_f hz, br_f]
      obtain ⟨b, c3, f1, f2⟩ := one_ok (N := N) hco q2 (by omega) 8
      rw [f1, bind_some']
      simp only []
      cases b with
      | true => rw [br_t]; exact add _ c3 f2 (by omega)
      | false =>
        rw [br_f]
        obtain ⟨c', o', r1, r2, r3, r4⟩ := ih K (k + 2 + 4 * n + 2) c3 o (by omega) f2 (by omega) ⟨by have := ho.1; omega, ho.2⟩ (by omega)
        exact ⟨c', o', r1, cur_mono r2 (by omega), by omega, r4⟩
theorem f_more {R : Type} {N : Nat} {k0 : List Int × (Int × Int) → Int → Int → List (List Int) → Option R} {x : Int} {c : List Int × (Int × Int)} {o5 o6 : Int} (hx : x ≤ 70) : ∀ (d K : Nat) (o : List (List Int)), (o.length : Int) + (d : Int) = max x (o.length : Int) → d < K → listsOk 2000 8 o →
    ∃ o', spec_l1Cur_formula_l1 N k0 K x c o5 o6 o = k0 c o5 o6 o' ∧ listsOk (o.length + d) 8 o' := by
  intro d
  induction d with
  | zero =>
    intro K o hd hK ho
    obtain ⟨K, rfl⟩ := succ_of hK
    refine ⟨o, ?_, Nat.le_refl _, ho.2⟩
    simp only [spec_l1Cur_formula_l1, tLen_n]
    rw [ilt_f (by omega), br_f]
  | succ d ih =>
    intro K o hd hK ho
    obtain ⟨K, rfl⟩ := succ_of hK
    simp only [spec_l1Cur_formula_l1, tLen_n]
    rw [ilt_t (by omega), br_t, room_ok (by simp; omega), chk_t, tApp_d]
    obtain ⟨o', r1, r2, r3⟩ := ih K (o ++ [[(-1), 1]]) (by simp; omega) (by omega) ⟨by simp; omega, fun z hz => by
      rcases List.mem_append.1 hz with hz | hz
      · exact ho.2 z hz
      · rw [List.mem_singleton] at hz; subst hz; simp⟩
    exact ⟨o', r1, by simp at r2; omega, r3⟩
noncomputable def fTail (N : Nat) (o : List Int × (Int × Int)) (o1 o2 : Int) (o3 : List (List Int)) : Option (((Int × List (List Int)) × Unit) × ((List Int × (Int × Int)) × Unit)) :=
  ((spec_l1Cur_pick N o 40).bind fun r3 =>
    (br (ieq r3.1.1 0)
      (((spec_l1Cur_among N r3.2.1 [(-1), 7, 6]).bind fun r4 =>
        some (((r4.1.1, o3), ()), (r4.2.1, ()))))
      ((br (ieq r3.1.1 1)
        (((spec_l1Cur_among N (r3.2.1.1, (r3.2.1.2.1, r3.2.1.2.2)) [0, 7, (-7), 1]).bind fun r5 =>
          (chk (room o3 [[r5.1.1]])
            (some (((o2, (tApp o3 [[r5.1.1]])), ()), (r5.2.1, ()))))))
        ((br (ieq r3.1.1 2)
          ((chk (room o3 [[2, 1]])
            (some (((o2, (tApp o3 [[2, 1]])), ()), (r3.2.1, ())))))
          ((br (ieq r3.1.1 3)
            (((spec_l1Cur_pick N r3.2.1 2).bind fun r6 =>
              spec_l1Cur_formula_l1 N (fun o4 o5 o6 o7 => some (((o6, o7), ()), (o4, ()))) N (IntKind.i64.wrap (64 + r6.1.1)) r6.2.1 o1 o2 o3))
            (some (((o2, o3), ()), (r3.2.1, ())))))))))))
theorem fTail_ok {N : Nat} {code : List Int} {k : Nat} {c : List Int × (Int × Int)} {o1 o2 : Int} {o3 : List (List Int)} (hco : codeOk code) (hN : 1048577 ≤ N) (h : CurOk code k c) (hk : k ≤ 800000) (ho : listsOk 100 5 o3) :
    ∃ f c', fTail N c o1 o2 o3 = some ((f, ()), (c', ())) ∧ CurOk code (k + 10) c' ∧ listsOk 200 8 f.2 := by
  have h8 : ∀ x ∈ o3, x.length ≤ 8 := fun x hx => by have := ho.2 x hx; omega
  have hol := ho.1
  unfold fTail
  obtain ⟨x, c1, e1, e2, _⟩ := pick_ok (N := N) hco h (by omega) 40
  rw [e1, bind_some']
  simp only [show ((c1.1, (c1.2.1, c1.2.2)) : List Int × (Int × Int)) = c1 from rfl]
  have app : ∀ r : List Int, r.length ≤ 8 → listsOk 200 8 (o3 ++ [r]) := fun r hr => ⟨by simp; omega, fun z hz => by
    rcases List.mem_append.1 hz with hz | hz
    · exact h8 z hz
    · rw [List.mem_singleton] at hz; subst hz; exact hr⟩
  by_cases h0 : x = 0
  · rw [ieq_t h0, br_t]
    obtain ⟨y, c2, f1, f2, _⟩ := among_ok (N := N) hco e2 (by omega) (l := [(-1), 7, 6]) (by simp)
    rw [f1, bind_some']
    exact ⟨_, _, rfl, cur_mono f2 (by omega), ⟨by simp only []; omega, h8⟩⟩
  · rw [ieq_f h0, br_f]
    by_cases h1 : x = 1
    · rw [ieq_t h1, br_t]
      obtain ⟨y, c2, f1, f2, _⟩ := among_ok (N := N) hco e2 (by omega) (l := [0, 7, (-7), 1]) (by simp)
      rw [f1, bind_some']
      simp only []
      rw [room_ok (by simp; omega), chk_t, tApp_d]
      exact ⟨_, _, rfl, cur_mono f2 (by omega), app _ (by simp)⟩
    · rw [ieq_f h1, br_f]
      by_cases h2 : x = 2
      · rw [ieq_t h2, br_t, room_ok (by simp; omega), chk_t, tApp_d]
        exact ⟨_, _, rfl, cur_mono e2 (by omega), app _ (by simp)⟩
      · rw [ieq_f h2, br_f]
        by_cases h3 : x = 3
        · rw [ieq_t h3, br_t]
          obtain ⟨y, c2, f1, f2, f3, _, f5⟩ := pick_ok (N := N) hco e2 (by omega) 2
          have f5 := f5 (by omega)
          rw [f1, bind_some']
          simp only []
          rw [wrap_ok (by omega) (by omega)]
          obtain ⟨d, hd⟩ : ∃ d : Nat, (o3.length : Int) + (d : Int) = max (64 + y) (o3.length : Int) := ⟨(max (64 + y) (o3.length : Int) - o3.length).toNat, by omega⟩
          obtain ⟨o', r1, r2, r3⟩ := f_more (N := N) (k0 := fun o4 o5 o6 o7 => some (((o6, o7), ()), (o4, ()))) (x := 64 + y) (c := c2) (o5 := o1) (o6 := o2) (by omega) d N o3 hd (by omega) ⟨by omega, h8⟩
          exact ⟨_, _, r1, cur_mono f2 (by omega), ⟨by simp only []; omega, r3⟩⟩
        · rw [ieq_f h3, br_f]
          exact ⟨_, _, rfl, cur_mono e2 (by omega), ⟨by simp only []; omega, h8⟩⟩
theorem formula_ok {N : Nat} {code : List Int} {k : Nat} {c : List Int × (Int × Int)} (hco : codeOk code) (hN : 1048577 ≤ N) (h : CurOk code k c) (hk : k ≤ 90000) : ∃ f c', spec_l1Cur_formula N c = some ((f, ()), (c', ())) ∧ CurOk code (k + 200) c' ∧ listsOk 200 8 f.2 := by
  unfold spec_l1Cur_formula
  obtain ⟨n, c1, a1, a2, a3⟩ := among_ok (N := N) hco h (by omega) (l := [4, 3, 5, 2, 6, 1, 0]) (by simp)
  rw [a1, bind_some']
  simp only []
  obtain ⟨y, c2, b1, b2, _⟩ := pick_ok (N := N) hco a2 (by omega) 5
  rw [b1, bind_some']
  simp only []
  have rest : ∀ x : Int, ∃ f c', ((spec_l1Cur_among N c2 [2, 3, 4, 6, 1, 0]).bind fun r2 => spec_l1Cur_formula_l0 N (fun o o1 o2 o3 => fTail N o o1 o2 o3) N x r2.1.1 r2.2.1 0 n []) = some ((f, ()), (c', ())) ∧ CurOk code (k + 200) c' ∧ listsOk 200 8 f.2 := by
    intro x
    obtain ⟨z, c3, d1, d2, d3⟩ := among_ok (N := N) hco b2 (by omega) (l := [2, 3, 4, 6, 1, 0]) (by simp)
    rw [d1, bind_some']
    simp only []
    have hz : 0 ≤ z ∧ z ≤ 6 := by simp at d3; omega
    obtain ⟨m, rfl⟩ := Int.eq_ofNat_of_zero_le hz.1
    obtain ⟨c4, o', e1, e2, e3⟩ := f_out (N := N) hco hN (k0 := fun o o1 o2 o3 => fTail N o o1 o2 o3) (x := x) (o1 := 0) (o2 := n) m N _ c3 [] (by omega) d2 (by omega) ⟨by simp, by simp⟩ (by omega)
    obtain ⟨f, c', g1, g2, g3⟩ := fTail_ok (N := N) (o1 := 0) (o2 := n) hco hN e2 (by omega) (show listsOk 100 5 o' from ⟨by have := e3.1; simp at this; omega, e3.2⟩)
    exact ⟨f, c', e1.trans g1, cur_mono g2 (by omega), g3⟩
  by_cases h4 : y = 4
  · rw [ieq_t h4, br_t]
    exact rest 3
  · rw [ieq_f h4, br_f]
    exact rest y
noncomputable def bTail (N : Nat) (o : List Int × (Int × Int)) (o1 : List Int) : Option ((List Int × Unit) × ((List Int × (Int × Int)) × Unit)) :=
  (br (ilt 0 (tLen o1))
    (((spec_l1Cur_one N o 8).bind fun r5 =>
      (br r5.1.1
        (((spec_l1Cur_among N r5.2.1 [2, (-1)]).bind fun r6 =>
          (chk (inb o1 0)
            ((spec_l1Cur_one N r6.2.1 12).bind fun r7 =>
            (br r7.1.1
              ((chk (room (tSet o1 0 r6.1.1) [0])
                (some (((tApp (tSet o1 0 r6.1.1) [0]), ()), (r7.2.1, ())))))
              (some (((tSet o1 0 r6.1.1), ()), (r7.2.1, ()))))))))
        (((spec_l1Cur_one N r5.2.1 12).bind fun r8 =>
          (br r8.1.1
            ((chk (room o1 [0])
              (some (((tApp o1 [0]), ()), (r8.2.1, ())))))
            (some ((o1, ()), (r8.2.1, ())))))))))
    (((spec_l1Cur_one N o 12).bind fun r9 =>
      (br r9.1.1
        ((chk (room o1 [0])
          (some (((tApp o1 [0]), ()), (r9.2.1, ())))))
        (some ((o1, ()), (r9.2.1, ())))))))
theorem bTail_ok {N : Nat} {code : List Int} {k : Nat} {c : List Int × (Int × Int)} {o : List Int} (hco : codeOk code) (h : CurOk code k c) (hk : k ≤ 900000) (ho : o.length ≤ 7) : ∃ a c', bTail N c o = some ((a, ()), (c', ())) ∧ CurOk code (k + 6) c' ∧ a.length ≤ 8 := by
  unfold bTail
  have last : ∀ (kk : Nat) (c : List Int × (Int × Int)) (o : List Int), CurOk code kk c → kk ≤ k + 4 → o.length ≤ 7 → ∃ a c', ((spec_l1Cur_one N c 12).bind fun r9 =>
      (br r9.1.1
        ((chk (room o [0])
          (some (((tApp o [0]), ()), (r9.2.1, ())))))
        (some ((o, ()), (r9.2.1, ()))))) = some ((a, ()), (c', ())) ∧ CurOk code (k + 6) c' ∧ a.length ≤ 8 := by
    intro kk c o hc hkk ho
    obtain ⟨b, c2, f1, f2⟩ := one_ok (N := N) hco hc (by omega) 12
    rw [f1, bind_some']
    simp only []
    cases b with
    | true =>
      rw [br_t, room_ok (by simp; omega), chk_t]
      exact ⟨_, _, rfl, cur_mono f2 (by omega), by simp [tApp]; omega⟩
    | false =>
      rw [br_f]
      exact ⟨_, _, rfl, cur_mono f2 (by omega), by omega⟩
  by_cases h0 : 0 < tLen o
  · rw [ilt_t h0, br_t]
    obtain ⟨b, c2, f1, f2⟩ := one_ok (N := N) hco h (by omega) 8
    rw [f1, bind_some']
    simp only []
    cases b with
    | true =>
      rw [br_t]
      obtain ⟨y, c3, g1, g2, _⟩ := among_ok (N := N) hco f2 (by omega) (l := [2, (-1)]) (by simp)
      rw [g1, bind_some']
      simp only []
      rw [tLen_n] at h0
      have hi : inb o 0 = true := inb_n (n := 0) (by omega)
      rw [hi, chk_t]
      exact last _ c3 (tSet o 0 y) g2 (by omega) (by simp [tSet]; omega)
    | false =>
      rw [br_f]
      exact last _ c2 o f2 (by omega) ho
  · rw [ilt_f h0, br_f]
    exact last _ c o h (by omega) ho
theorem bits_loop {N : Nat} {code : List Int} (hco : codeOk code) {o1 : Int} {o2 : List (List Int)} : ∀ (d x K k : Nat) (c : List Int × (Int × Int)) (o : List Int), x + d = 7 → d < K → CurOk code k c → k + 2 * d + 20 ≤ 900000 → o.length ≤ x →
    ∃ a c', spec_l1Cur_bits_l0 N (fun o4 o5 => bTail N o4 o5) K (x : Int) c o1 o2 o = some ((a, ()), (c', ())) ∧ CurOk code (k + 2 * d + 6) c' ∧ a.length ≤ 8 := by
  intro d
  induction d with
  | zero =>
    intro x K k c o hd hK hc hk ho
    obtain ⟨K, rfl⟩ := succ_of hK
    have e : x = 7 := by omega
    subst e
    simp only [spec_l1Cur_bits_l0]
    rw [ilt_f (show ¬ ((7 : Nat) : Int) < 7 by omega), br_f]
    obtain ⟨a, c', f1, f2, f3⟩ := bTail_ok (N := N) hco hc (by omega) ho
    rw [f1]
    refine ⟨a, c', ?_, cur_mono f2 (by omega), f3⟩
    cases ilt ((7 : Nat) : Int) o1 <;> rfl
  | succ d ih =>
    intro x K k c o hd hK hc hk ho
    obtain ⟨K, rfl⟩ := succ_of hK
    simp only [spec_l1Cur_bits_l0]
    by_cases h1 : (x : Int) < o1
    · rw [ilt_t h1, br_t, ilt_t (show (x : Int) < 7 by omega), br_t]
      obtain ⟨y, c2, f1, f2, _⟩ := pick_ok (N := N) hco hc (by omega) 2
      rw [f1, bind_some']
      simp only []
      rw [room_ok (by simp; omega), chk_t, wrap_succ (by omega)]
      obtain ⟨a, c', g1, g2, g3⟩ := ih (x + 1) K (k + 2) c2 (tApp o [y]) (by omega) (by omega) f2 (by omega) (by simp [tApp]; omega)
      exact ⟨a, c', g1, cur_mono g2 (by omega), g3⟩
    · rw [ilt_f h1, br_f]
      obtain ⟨a, c', f1, f2, f3⟩ := bTail_ok (N := N) hco hc (by omega) (show o.length ≤ 7 by omega)
      exact ⟨a, c', f1, cur_mono f2 (by omega), f3⟩
theorem bits_ok {N : Nat} (hNe : N = 1048577) {code : List Int} {k : Nat} {c : List Int × (Int × Int)} {f : Int × List (List Int)} (hco : codeOk code) (h : CurOk code k c) (hk : k ≤ 800000) (hf : listsOk 200 8 f.2) :
    ∃ a c', spec_l1Cur_bits N c f = some ((a, ()), (c', ())) ∧ CurOk code (k + 40) c' ∧ a.length ≤ 8 := by
  have hN : 1048577 ≤ N := by omega
  have hl : f.2.length ≤ 1048576 := by have := hf.1; omega
  have hc : ∀ c ∈ f.2, c.length ≤ 1048576 := fun x hx => by have := hf.2 x hx; omega
  unfold spec_l1Cur_bits
  simp only [show ((f.1, f.2) : Int × List (List Int)) = f from rfl]
  rw [spec_l6Good_eq hl hc hN, bind_some']
  simp only []
  have other : ∀ (kk : Nat) (c : List Int × (Int × Int)), CurOk code kk c → kk ≤ k + 2 → ∃ a c', spec_l1Cur_bits_l0 N (fun o4 o5 => bTail N o4 o5) N 0 c f.1 f.2 [] = some ((a, ()), (c', ())) ∧ CurOk code (k + 40) c' ∧ a.length ≤ 8 := by
    intro kk c hc hkk
    obtain ⟨a, c', g1, g2, g3⟩ := bits_loop (N := N) hco (o1 := f.1) (o2 := f.2) 7 0 N kk c [] (by omega) (by omega) hc (by omega) (by simp)
    exact ⟨a, c', g1, cur_mono g2 (by omega), g3⟩
  by_cases hg : goodF f
  · rw [decide_eq_true hg, br_t]
    obtain ⟨b, c2, f1, f2⟩ := one_ok (N := N) hco h (by omega) 6
    rw [f1, bind_some']
    simp only []
    cases b with
    | true =>
      simp only [Bool.not_true, br_f]
      exact other _ c2 f2 (by omega)
    | false =>
      simp only [Bool.not_false, br_t]
      rw [spec_sols_eq hNe hg hl hc, bind_some']
      simp only []
      rw [tLen_n]
      by_cases h0 : 0 < (solsL f).length
      · rw [ilt_t (by omega), br_t]
        obtain ⟨y, c3, g1, g2, g3, _, g5⟩ := pick_ok (N := N) hco f2 (by omega) ((solsL f).length : Int)
        rw [g1, bind_some']
        simp only []
        obtain ⟨n, rfl⟩ := Int.eq_ofNat_of_zero_le g3
        have hn : n < (solsL f).length := by have := g5 (by omega); omega
        have hr : (solsL f)[n].length ≤ 6 := by
          have h6 := hg.1
          have := (sols_ok (m := f.1.toNat) (by omega) (fun b => decide (solves b f.2))).2.1 _ (show (solsL f)[n] ∈ solsL f from List.getElem_mem hn)
          omega
        rw [inb_n hn, chk_t, rdL_n hn, l1Own_eq (by omega), bind_some']
        exact ⟨_, _, rfl, cur_mono g2 (by omega), by simp only []; omega⟩
      · rw [ilt_f (by omega), br_f]
        exact other _ c2 f2 (by omega)
  · rw [decide_eq_false hg, br_f]
    exact other k c h (by omega)
theorem DrawFlip_ok {N : Nat} (hNe : N = 1048577) {code : List Int} (hco : codeOk code) : ∃ (f : Int × List (List Int)) (a b : List Int), spec_DrawFlipWay N code = some (((f.1, f.2), a, b, ()), ()) ∧ listsOk 200 8 f.2 ∧ a.length ≤ 8 ∧ b.length ≤ 8 := by
  have hN : 1048577 ≤ N := by omega
  unfold spec_DrawFlipWay spec_DrawFlipDistance
  obtain ⟨f, c1, a1, a2, a3⟩ := formula_ok (N := N) hco hN cur0 (by omega)
  rw [a1, bind_some']
  simp only [show ((f.1, f.2) : Int × List (List Int)) = f from rfl, show ((c1.1, (c1.2.1, c1.2.2)) : List Int × (Int × Int)) = c1 from rfl]
  obtain ⟨a, c2, b1, b2, b3⟩ := bits_ok hNe (f := f) hco a2 (by omega) a3
  rw [b1, bind_some']
  simp only []
  obtain ⟨b, c3, d1, d2, d3⟩ := bits_ok hNe (f := f) hco b2 (by omega) a3
  rw [d1, bind_some', bind_some']
  exact ⟨f, a, b, rfl, a3, b3, d3⟩
noncomputable def hTail (N : Nat) (o : List Int × (Int × Int)) (o1 o2 : List Int) : Option ((List Int × List Int × Unit) × Unit) :=
  ((spec_l1Cur_one N o 12).bind fun r1 =>
      (br r1.1.1
        ((chk (room o2 [1])
          (br (ilt 0 (tLen o1))
          (((spec_l1Cur_one N r1.2.1 12).bind fun r2 =>
            (br r2.1.1
              (((spec_l1Cur_among N r2.2.1 [2, (-1)]).bind fun r3 =>
                (chk (inb o1 0)
                  (some (((tSet o1 0 r3.1.1), (tApp o2 [1]), ()), ())))))
              (some ((o1, (tApp o2 [1]), ()), ())))))
          (some ((o1, (tApp o2 [1]), ()), ())))))
        ((br (ilt 0 (tLen o1))
          (((spec_l1Cur_one N r1.2.1 12).bind fun r4 =>
            (br r4.1.1
              (((spec_l1Cur_among N r4.2.1 [2, (-1)]).bind fun r5 =>
                (chk (inb o1 0)
                  (some (((tSet o1 0 r5.1.1), o2, ()), ())))))
              (some ((o1, o2, ()), ())))))
          (some ((o1, o2, ()), ()))))))
theorem hTail_ok {N : Nat} {code : List Int} {k : Nat} {c : List Int × (Int × Int)} {o1 o2 : List Int} (hco : codeOk code) (h : CurOk code k c) (hk : k ≤ 900000) (h1 : o1.length ≤ 20) (h2 : o2.length ≤ 20) : ∃ a b, hTail N c o1 o2 = some ((a, b, ()), ()) ∧ a.length ≤ 30 ∧ b.length ≤ 30 := by
  unfold hTail
  have half : ∀ (kk : Nat) (c : List Int × (Int × Int)) (o2 : List Int), CurOk code kk c → kk ≤ 900010 → o2.length ≤ 30 → ∃ a b, (br (ilt 0 (tLen o1))
          (((spec_l1Cur_one N c 12).bind fun r4 =>
            (br r4.1.1
              (((spec_l1Cur_among N r4.2.1 [2, (-1)]).bind fun r5 =>
                (chk (inb o1 0)
                  (some (((tSet o1 0 r5.1.1), o2, ()), ())))))
              (some ((o1, o2, ()), ())))))
          (some ((o1, o2, ()), ()))) = some ((a, b, ()), ()) ∧ a.length ≤ 30 ∧ b.length ≤ 30 := by
    intro kk c o2 hc hkk ho
    by_cases h0 : 0 < tLen o1
    · rw [ilt_t h0, br_t]
      obtain ⟨b, c2, f1, f2⟩ := one_ok (N := N) hco hc (by omega) 12
      rw [f1, bind_some']
      simp only []
      cases b with
      | true =>
        rw [br_t]
        obtain ⟨y, c3, g1, g2, _⟩ := among_ok (N := N) hco f2 (by omega) (l := [2, (-1)]) (by simp)
        rw [g1, bind_some']
        simp only []
        rw [tLen_n] at h0
        have hi : inb o1 0 = true := inb_n (n := 0) (by omega)
        rw [hi, chk_t]
        exact ⟨_, _, rfl, by simp [tSet]; omega, ho⟩
      | false =>
        rw [br_f]
        exact ⟨_, _, rfl, by omega, ho⟩
    · rw [ilt_f h0, br_f]
      exact ⟨_, _, rfl, by omega, ho⟩
  obtain ⟨b, c2, f1, f2⟩ := one_ok (N := N) hco h (by omega) 12
  rw [f1, bind_some']
  simp only []
  cases b with
  | true =>
    rw [br_t, room_ok (by simp; omega), chk_t]
    exact half _ c2 (tApp o2 [1]) f2 (by omega) (by simp [tApp]; omega)
  | false =>
    rw [br_f]
    exact half _ c2 o2 f2 (by omega) (by omega)
theorem ham_loop {N : Nat} {code : List Int} (hco : codeOk code) : ∀ (d K k : Nat) (c : List Int × (Int × Int)) (o1 o2 : List Int), d < K → CurOk code k c → k + 4 * d ≤ 900000 → o1.length + d ≤ 20 → o2.length + d ≤ 20 →
    ∃ a b, spec_DrawHammingOf_l0 N (fun o o1 o2 => hTail N o o1 o2) K (d : Int) c o1 o2 = some ((a, b, ()), ()) ∧ a.length ≤ 30 ∧ b.length ≤ 30 := by
  intro d
  induction d with
  | zero =>
    intro K k c o1 o2 hK hc hk h1 h2
    obtain ⟨K, rfl⟩ := succ_of hK
    simp only [spec_DrawHammingOf_l0, ilt_f (show ¬ (0 : Int) < ((0 : Nat) : Int) by omega), br_f]
    exact hTail_ok hco hc (by omega) (by omega) (by omega)
  | succ d ih =>
    intro K k c o1 o2 hK hc hk h1 h2
    obtain ⟨K, rfl⟩ := succ_of hK
    simp only [spec_DrawHammingOf_l0, ilt_t (show (0 : Int) < ((d + 1 : Nat) : Int) by omega), br_t]
    obtain ⟨x, c1, e1, e2, _⟩ := pick_ok (N := N) hco hc (by omega) 2
    rw [e1, bind_some']
    simp only []
    rw [room_ok (by simp; omega), chk_t]
    obtain ⟨y, c2, f1, f2, _⟩ := pick_ok (N := N) hco e2 (by omega) 2
    rw [f1, bind_some']
    simp only []
    rw [room_ok (by simp; omega), chk_t, show IntKind.i64.wrap (((d + 1 : Nat) : Int) - 1) = (d : Int) by rw [wrap_ok (by omega) (by omega)]; omega]
    exact ih K _ c2 _ _ (by omega) f2 (by omega) (by simp [tApp]; omega) (by simp [tApp]; omega)
theorem DrawHam_ok {N : Nat} {code : List Int} (hN : 1048577 ≤ N) (hco : codeOk code) : ∃ a b : List Int, spec_DrawHammingOf N code = some ((a, b, ()), ()) ∧ a.length ≤ 30 ∧ b.length ≤ 30 := by
  unfold spec_DrawHammingOf
  obtain ⟨n, c1, a1, a2, a3⟩ := among_ok (N := N) hco cur0 (by omega) (l := [4, 3, 6, 1, 0, 7]) (by simp)
  rw [a1, bind_some']
  simp only []
  have hn : 0 ≤ n ∧ n ≤ 7 := by simp at a3; omega
  obtain ⟨m, rfl⟩ := Int.eq_ofNat_of_zero_le hn.1
  exact ham_loop (N := N) hco m N _ c1 [] [] (by omega) a2 (by omega) (by simp; omega) (by simp; omega)
theorem fwd_chain {n : Nat} {st : List (Int × Int)} (hn : n ≤ 1048576) (h : okSt n st) {t : Int} (ht : InN n t) : ∀ (d : Nat) (x : Int), InN n x → rdI (bfsD (nbL n st) n t) x = (d : Int) →
    (x :: fwdL (nbL n st) (bfsD (nbL n st) n t) d x).getLast? = some t ∧ ∀ i (hi : i + 1 < (x :: fwdL (nbL n st) (bfsD (nbL n st) n t) d x).length), (x :: fwdL (nbL n st) (bfsD (nbL n st) n t) d x)[i + 1] ∈ rdL (nbL n st) ((x :: fwdL (nbL n st) (bfsD (nbL n st) n t) d x)[i]) := by
  intro d
  induction d with
  | zero =>
    intro x hx hd
    have := (bfsD_spec (nbL_ok hn h) ht).2.2.2.1 x hx hd
    subst this
    refine ⟨rfl, fun i hi => ?_⟩
    simp [fwdL] at hi
  | succ d ih =>
    intro x hx hd
    obtain ⟨z, q, h1, h2, h3⟩ := next_some hn h ht hx hd
    have e : fwdL (nbL n st) (bfsD (nbL n st) n t) (d + 1) x = z :: fwdL (nbL n st) (bfsD (nbL n st) n t) d z := by
      show ((nextW (nbL n st) (bfsD (nbL n st) n t) x).headD x) :: fwdL (nbL n st) (bfsD (nbL n st) n t) d ((nextW (nbL n st) (bfsD (nbL n st) n t) x).headD x) = _
      rw [h1]
      rfl
    obtain ⟨i1, i2⟩ := ih z h2 h3
    have hz : z ∈ rdL (nbL n st) x := (List.mem_filter.1 (show z ∈ nextW (nbL n st) (bfsD (nbL n st) n t) x by rw [h1]; exact List.mem_cons_self ..)).1
    simp only [e]
    refine ⟨by rw [List.getLast?_cons_cons]; exact i1, fun i hi => ?_⟩
    cases i with
    | zero => exact hz
    | succ i =>
      have := i2 i (by simp at hi ⊢; omega)
      simpa using this
theorem way_chain {xs : List (List Int)} {p : List Int → List Int → Bool} {a b : List Int} (hn : xs.length ≤ 1048576) (ha : a ∈ xs) (hb : b ∈ xs) (hp : ∀ x ∈ xs, ∀ y ∈ xs, p x y = true → p y x = true) (hne : wayS xs (stepsL p xs) a b ≠ []) :
    (wayS xs (stepsL p xs) a b).head? = some a ∧ (wayS xs (stepsL p xs) a b).getLast? = some b ∧ ∀ i (hi : i + 1 < (wayS xs (stepsL p xs) a b).length), p ((wayS xs (stepsL p xs) a b)[i]) ((wayS xs (stepsL p xs) a b)[i + 1]) = true := by
  have hok := stepsL_ok (p := p) (xs := xs)
  have hin := wayI_in hn hok (idx_lt ha) (idx_lt hb)
  have hlt : ¬ rdI (bfsD (nbL xs.length (stepsL p xs)) xs.length ((xs.idxOf b : Nat) : Int)) ((xs.idxOf a : Nat) : Int) < 0 := by
    intro hlt
    apply hne
    unfold wayS wayI
    rw [if_pos hlt]
    rfl
  have hI : wayI xs (stepsL p xs) (xs.idxOf a) (xs.idxOf b) = ((xs.idxOf a : Nat) : Int) :: fwdL (nbL xs.length (stepsL p xs)) (bfsD (nbL xs.length (stepsL p xs)) xs.length ((xs.idxOf b : Nat) : Int)) (rdI (bfsD (nbL xs.length (stepsL p xs)) xs.length ((xs.idxOf b : Nat) : Int)) ((xs.idxOf a : Nat) : Int)).toNat ((xs.idxOf a : Nat) : Int) := by
    unfold wayI
    rw [if_neg hlt]
  obtain ⟨c1, c2⟩ := fwd_chain hn hok (in_nat (idx_lt hb)) (rdI (bfsD (nbL xs.length (stepsL p xs)) xs.length ((xs.idxOf b : Nat) : Int)) ((xs.idxOf a : Nat) : Int)).toNat _ (in_nat (idx_lt ha)) (by omega)
  rw [← hI] at c1
  simp only [← hI] at c2
  unfold wayS
  refine ⟨?_, ?_, fun i hi => ?_⟩
  · rw [hI, List.map_cons, List.head?_cons, idx_rd ha]
  · rw [List.getLast?_map, c1, Option.map_some, idx_rd hb]
  · rw [List.length_map] at hi
    rw [List.getElem_map, List.getElem_map]
    have := c2 i hi
    have u1 := hin _ (List.getElem_mem (show i < (wayI xs (stepsL p xs) (xs.idxOf a) (xs.idxOf b)).length by omega))
    have u2 := hin _ (List.getElem_mem hi)
    rw [nbL_rd u1, mem_nbS hok] at this
    obtain ⟨k1, hk1, e1⟩ := nat_of u1
    obtain ⟨k2, hk2, e2⟩ := nat_of u2
    rw [e1, e2] at this ⊢
    have m1 : rdL xs (k1 : Int) ∈ xs := by rw [rdL_n hk1]; exact List.getElem_mem hk1
    have m2 : rdL xs (k2 : Int) ∈ xs := by rw [rdL_n hk2]; exact List.getElem_mem hk2
    rcases this with h | h
    · obtain ⟨i', j', e, _, _, hq⟩ := mem_stepsL.1 h
      have q1 : (k2 : Int) = (i' : Int) := congrArg Prod.fst e
      have q2 : (k1 : Int) = (j' : Int) := congrArg Prod.snd e
      rw [← q1, ← q2] at hq
      exact hp _ m2 _ m1 hq
    · obtain ⟨i', j', e, _, _, hq⟩ := mem_stepsL.1 h
      have q1 : (k1 : Int) = (i' : Int) := congrArg Prod.fst e
      have q2 : (k2 : Int) = (j' : Int) := congrArg Prod.snd e
      rw [← q1, ← q2] at hq
      exact hq
theorem way_least {xs : List (List Int)} {st : List (Int × Int)} {a b : List Int} (hn : xs.length ≤ 1048576) (h : okSt xs.length st) (ha : a ∈ xs) (hb : b ∈ xs) {k : Nat} (hw : Wl (nbL xs.length st) ((xs.idxOf b : Nat) : Int) k ((xs.idxOf a : Nat) : Int)) : (wayS xs st a b).length ≤ k + 1 := by
  obtain ⟨s1, s2, s3, s4, s5, s6⟩ := bfsD_spec (nbL_ok hn h) (in_nat (idx_lt hb))
  have := s6 _ _ hw
  unfold wayS wayI
  rw [if_neg (by omega), List.length_map, List.length_cons, fwdL_len]
  omega
theorem wl_head {L : List (List Int)} {x y z : Int} {k : Nat} (h : y ∈ rdL L x) (hw : Wl L y k z) : Wl L x (k + 1) z := by
  induction hw with
  | base => exact .step .base h
  | step _ hz ih => exact .step ih hz
/-! ### Places at which two lists differ -/
theorem apart_symm {a b : List Int} (h : a.length = b.length) : apartL a b = apartL b a := by
  unfold apartL
  rw [h]
  congr 1
  refine List.filter_congr fun i _ => decide_eq_decide.2 ⟨Ne.symm, Ne.symm⟩
theorem mem_apart {a b : List Int} {x : Int} : x ∈ apartL a b ↔ ∃ i : Nat, i < a.length ∧ rdI a (i : Int) ≠ rdI b (i : Int) ∧ x = (i : Int) := by
  unfold apartL
  rw [List.mem_map]
  constructor
  · rintro ⟨i, hi, rfl⟩
    obtain ⟨h1, h2⟩ := List.mem_filter.1 hi
    have := List.mem_range'_1.1 h1
    exact ⟨i, by omega, of_decide_eq_true h2, rfl⟩
  · rintro ⟨i, h1, h2, rfl⟩
    exact ⟨i, List.mem_filter.2 ⟨List.mem_range'_1.2 (by omega), decide_eq_true h2⟩, rfl⟩
theorem apart_nodup (a b : List Int) : (apartL a b).Nodup := by
  unfold apartL
  refine List.Pairwise.map (R := fun (i j : Nat) => i ≠ j) _ (fun i j h e => h (by omega)) ?_
  exact (List.nodup_range' (step := 1)).filter _
theorem apart_tri {a b c : List Int} (hab : a.length = b.length) (h : isCh b c = true) : (apartL a c).length ≤ (apartL a b).length + 1 := by
  obtain ⟨x, hx⟩ := List.length_eq_one_iff.1 (of_decide_eq_true h)
  have := nodup_le (apart_nodup a c) (b := apartL a b ++ [x]) fun z hz => by
    obtain ⟨i, h1, h2, rfl⟩ := mem_apart.1 hz
    by_cases q : rdI a (i : Int) = rdI b (i : Int)
    · have : (i : Int) ∈ apartL b c := mem_apart.2 ⟨i, by omega, by rw [← q]; exact h2, rfl⟩
      rw [hx] at this
      exact List.mem_append_right _ this
    · exact List.mem_append_left _ (mem_apart.2 ⟨i, h1, q, rfl⟩)
  simpa using this
theorem rd_ext {a b : List Int} (h : a.length = b.length) (he : ∀ i : Nat, i < a.length → rdI a (i : Int) = rdI b (i : Int)) : a = b := by
  refine List.ext_getElem h fun i h1 h2 => ?_
  have := he i h1
  rwa [rdI_n h1, rdI_n h2] at this
theorem turn_one {a b : List Int} {m : Nat} (ha : a.length = m) (hb : b.length = m) (h1 : ∀ x ∈ a, x = 0 ∨ x = 1) (h2 : ∀ x ∈ b, x = 0 ∨ x = 1) (h : isCh a b = true) : ∃ v : Nat, v < m ∧ apartL a b = [(v : Int)] ∧ tSet a (v : Int) (1 - rdI a (v : Int)) = b := by
  obtain ⟨x, hx⟩ := List.length_eq_one_iff.1 (of_decide_eq_true h)
  obtain ⟨v, hv, hne, rfl⟩ := mem_apart.1 (show x ∈ apartL a b by rw [hx]; exact List.mem_singleton.2 rfl)
  have hs : ∀ w : Int, (tSet a (v : Int) w).length = a.length := fun w => by simp [tSet]
  refine ⟨v, by omega, hx, rd_ext (by rw [hs]; omega) fun i hi => ?_⟩
  rw [hs] at hi
  rw [rdI_set (by omega) _ (i : Int) (by omega)]
  by_cases e : (i : Int) = (v : Int)
  · rw [if_pos e, e]
    have hi2 : v < b.length := by omega
    have q1 := h1 _ (List.getElem_mem hv)
    have q2 := h2 _ (List.getElem_mem hi2)
    rw [← rdI_n hv] at q1
    rw [← rdI_n hi2] at q2
    omega
  · rw [if_neg e]
    refine Classical.byContradiction fun q => ?_
    have : (i : Int) ∈ apartL a b := mem_apart.2 ⟨i, hi, q, rfl⟩
    rw [hx, List.mem_singleton] at this
    exact e this
/-! ### The middle of three lists of bits -/
noncomputable def mid (a b x : List Int) : List Int := (List.range a.length).map fun i : Nat => if rdI a (i : Int) = rdI b (i : Int) then rdI a (i : Int) else rdI x (i : Int)
theorem mid_len (a b x : List Int) : (mid a b x).length = a.length := by simp [mid]
theorem mid_rd {a b x : List Int} {i : Nat} (hi : i < a.length) : rdI (mid a b x) (i : Int) = if rdI a (i : Int) = rdI b (i : Int) then rdI a (i : Int) else rdI x (i : Int) := by
  rw [rdI_n (by rw [mid_len]; exact hi)]
  simp [mid]
theorem mid_solves {a b x : List Int} {m : Nat} {cs : List (List Int)} (ha : a.length = m) (hb : b.length = m) (hx : x.length = m) (ba : ∀ z ∈ a, z = 0 ∨ z = 1) (bb : ∀ z ∈ b, z = 0 ∨ z = 1) (hl : litsOk (m : Int) cs) (h2 : ∀ c ∈ cs, c.length ≤ 2)
    (sa : solves a cs) (sb : solves b cs) (sx : solves x cs) : solves (mid a b x) cs := by
  have bit : ∀ {l : List Int} {i : Nat}, (∀ z ∈ l, z = 0 ∨ z = 1) → i < l.length → rdI l (i : Int) = 0 ∨ rdI l (i : Int) = 1 := fun h hi => by rw [rdI_n hi]; exact h _ (List.getElem_mem hi)
  have key : ∀ l : Int, l ≠ 0 ∧ -(m : Int) ≤ l ∧ l ≤ (m : Int) → meets (mid a b x) l = if meets a l = meets b l then meets a l else meets x l := by
    intro l hl
    unfold meets
    by_cases h0 : 0 < l
    · obtain ⟨i, hi⟩ : ∃ i : Nat, l - 1 = (i : Int) := ⟨(l - 1).toNat, by omega⟩
      rw [if_pos h0, if_pos h0, if_pos h0, if_pos h0, hi, mid_rd (by omega)]
      have q1 := bit ba (show i < a.length by omega)
      have q2 := bit bb (show i < b.length by omega)
      rcases q1 with q1 | q1 <;> rcases q2 with q2 | q2 <;> simp [q1, q2]
    · obtain ⟨i, hi⟩ : ∃ i : Nat, -1 - l = (i : Int) := ⟨(-1 - l).toNat, by omega⟩
      rw [if_neg h0, if_neg h0, if_neg h0, if_neg h0, hi, mid_rd (by omega)]
      have q1 := bit ba (show i < a.length by omega)
      have q2 := bit bb (show i < b.length by omega)
      rcases q1 with q1 | q1 <;> rcases q2 with q2 | q2 <;> simp [q1, q2]
  intro c hc
  have s1 := sa c hc
  have s2 := sb c hc
  have s3 := sx c hc
  have hlen := h2 c hc
  have hlit := hl c hc
  match c, s1, s2, s3, hlen, hlit with
  | [], s1, _, _, _, _ => simp at s1
  | [l], s1, s2, s3, _, hlit =>
    simp only [List.any_cons, List.any_nil, Bool.or_false] at s1 s2 s3 ⊢
    rw [key l (hlit l (by simp)), s1, s2, if_pos rfl]
  | [l, l'], s1, s2, s3, _, hlit =>
    simp only [List.any_cons, List.any_nil, Bool.or_false] at s1 s2 s3 ⊢
    rw [key l (hlit l (by simp)), key l' (hlit l' (by simp))]
    revert s1 s2 s3
    cases meets a l <;> cases meets a l' <;> cases meets b l <;> cases meets b l' <;> cases meets x l <;> cases meets x l' <;> simp
  | _ :: _ :: _ :: _, _, _, _, hlen, _ => simp at hlen
theorem step_near {xs : List (List Int)} {p : List Int → List Int → Bool} {x y : List Int} (hp : ∀ x ∈ xs, ∀ y ∈ xs, p x y = true → p y x = true) (hx : x ∈ xs) (hy : y ∈ xs) (hne : x ≠ y) (h : p x y = true) : ((xs.idxOf y : Nat) : Int) ∈ rdL (nbL xs.length (stepsL p xs)) ((xs.idxOf x : Nat) : Int) := by
  have i1 := idx_lt hx
  have i2 := idx_lt hy
  have r1 := idx_rd hx
  have r2 := idx_rd hy
  rw [nbL_rd (in_nat i1), mem_nbS stepsL_ok]
  have hni : xs.idxOf x ≠ xs.idxOf y := fun e => hne (by rw [← r1, ← r2, e])
  by_cases hlt : xs.idxOf x < xs.idxOf y
  · exact .inr (mem_stepsL.2 ⟨_, _, rfl, hlt, i2, by rw [r1, r2]; exact h⟩)
  · exact .inl (mem_stepsL.2 ⟨_, _, rfl, by omega, i1, by rw [r1, r2]; exact hp x hx y hy h⟩)
theorem near_step {xs : List (List Int)} {p : List Int → List Int → Bool} {u v : Int} (hp : ∀ x ∈ xs, ∀ y ∈ xs, p x y = true → p y x = true) (hu : InN xs.length u) (hv : v ∈ rdL (nbL xs.length (stepsL p xs)) u) : rdL xs u ∈ xs ∧ rdL xs v ∈ xs ∧ p (rdL xs u) (rdL xs v) = true ∧ InN xs.length v := by
  have hok := stepsL_ok (p := p) (xs := xs)
  rw [nbL_rd hu] at hv
  have hvn := nbS_in hok v hv
  obtain ⟨i, hi, rfl⟩ := nat_of hu
  obtain ⟨j, hj, rfl⟩ := nat_of hvn
  have m1 : rdL xs (i : Int) ∈ xs := by rw [rdL_n hi]; exact List.getElem_mem hi
  have m2 : rdL xs (j : Int) ∈ xs := by rw [rdL_n hj]; exact List.getElem_mem hj
  refine ⟨m1, m2, ?_, hvn⟩
  rcases (mem_nbS hok).1 hv with h | h
  · obtain ⟨i', j', e, _, _, hq⟩ := mem_stepsL.1 h
    have q1 : (j : Int) = (i' : Int) := congrArg Prod.fst e
    have q2 : (i : Int) = (j' : Int) := congrArg Prod.snd e
    rw [← q1, ← q2] at hq
    exact hp _ m2 _ m1 hq
  · obtain ⟨i', j', e, _, _, hq⟩ := mem_stepsL.1 h
    have q1 : (i : Int) = (i' : Int) := congrArg Prod.fst e
    have q2 : (j : Int) = (j' : Int) := congrArg Prod.snd e
    rw [← q1, ← q2] at hq
    exact hq
theorem first_fail {L : List (List Int)} {x y : Int} {P : Int → Prop} (h : Wk L x y) (hx : P x) (hy : ¬ P y) : ∃ u v, Wk L x u ∧ v ∈ rdL L u ∧ P u ∧ ¬ P v := by
  have key : ∀ {z}, Wk L x z → P z ∨ ∃ u v, Wk L x u ∧ v ∈ rdL L u ∧ P u ∧ ¬ P v := by
    intro z hz
    induction hz with
    | base => exact .inl hx
    | @step u v h1 h2 ih =>
      rcases ih with ih | ih
      · by_cases q : P v
        · exact .inl q
        · exact .inr ⟨u, v, h1, h2, ih, q⟩
      · exact .inr ih
  exact (key h).resolve_left hy
theorem isCh_symm {a b : List Int} (h : a.length = b.length) (hc : isCh a b = true) : isCh b a = true := by
  unfold isCh at *
  rw [apart_symm h.symm]
  exact hc
theorem two_path {m : Nat} {xs : List (List Int)} {cs : List (List Int)} (hn : xs.length ≤ 1048576) (hm : ∀ x, x ∈ xs ↔ (x.length = m ∧ (∀ z ∈ x, z = 0 ∨ z = 1)) ∧ solves x cs) (hl : litsOk (m : Int) cs) (h2 : ∀ c ∈ cs, c.length ≤ 2) :
    ∀ (n : Nat) (b a : List Int), b ∈ xs → a ∈ xs → (apartL b a).length = n → Wk (nbL xs.length (stepsL isCh xs)) ((xs.idxOf b : Nat) : Int) ((xs.idxOf a : Nat) : Int) → Wl (nbL xs.length (stepsL isCh xs)) ((xs.idxOf b : Nat) : Int) n ((xs.idxOf a : Nat) : Int) := by
  have hp : ∀ x ∈ xs, ∀ y ∈ xs, isCh x y = true → isCh y x = true := fun x hx y hy h => isCh_symm (by rw [((hm x).1 hx).1.1, ((hm y).1 hy).1.1]) h
  have hok := stepsL_ok (p := isCh) (xs := xs)
  intro n
  induction n with
  | zero =>
    intro b a hb ha hlen hw
    obtain ⟨⟨lb, bb⟩, sb⟩ := (hm b).1 hb
    obtain ⟨⟨la, ba⟩, sa⟩ := (hm a).1 ha
    have : b = a := apart_nil (by omega) (List.eq_nil_of_length_eq_zero hlen)
    subst this
    exact .base
  | succ n ih =>
    intro b a hb ha hlen hw
    obtain ⟨⟨lb, bb⟩, sb⟩ := (hm b).1 hb
    obtain ⟨⟨la, ba⟩, sa⟩ := (hm a).1 ha
    have hPb : mid b a (rdL xs ((xs.idxOf b : Nat) : Int)) = b := by
      rw [idx_rd hb]
      refine rd_ext (mid_len ..) fun i hi => ?_
      rw [mid_len] at hi
      rw [mid_rd hi]
      split <;> rfl
    have hPa : ¬ mid b a (rdL xs ((xs.idxOf a : Nat) : Int)) = b := by
      rw [idx_rd ha]
      have e : mid b a a = a := rd_ext (by rw [mid_len]; omega) fun i hi => by
        rw [mid_len] at hi
        rw [mid_rd hi]
        split
        · assumption
        · rfl
      rw [e]
      intro e
      subst e
      obtain ⟨x, hx⟩ := List.exists_mem_of_length_pos (show 0 < (apartL a a).length by omega)
      obtain ⟨i, _, h, _⟩ := mem_apart.1 hx
      exact h rfl
    obtain ⟨u, v, w1, w2, w3, w4⟩ := first_fail (P := fun z => mid b a (rdL xs z) = b) hw hPb hPa
    have hun := Wk_in (nbL_ok hn hok) (in_nat (idx_lt hb)) w1
    obtain ⟨mX, mX', hch, _⟩ := near_step hp hun w2
    obtain ⟨⟨lX, bX⟩, sX⟩ := (hm _).1 mX
    obtain ⟨⟨lX', bX'⟩, sX'⟩ := (hm _).1 mX'
    generalize rdL xs u = X at *
    generalize rdL xs v = X' at *
    have bit : ∀ {l : List Int} {i : Nat}, (∀ z ∈ l, z = 0 ∨ z = 1) → i < l.length → rdI l (i : Int) = 0 ∨ rdI l (i : Int) = 1 := fun h hi => by rw [rdI_n hi]; exact h _ (List.getElem_mem hi)
    obtain ⟨q, hq⟩ := List.length_eq_one_iff.1 (of_decide_eq_true hch)
    have hY : mid b a X' ∈ xs := by
      refine (hm _).2 ⟨⟨by rw [mid_len]; exact lb, fun z hz => ?_⟩, mid_solves lb la lX' bb ba hl h2 sb sa sX'⟩
      obtain ⟨i, hi, rfl⟩ := List.getElem_of_mem hz
      rw [← rdI_n hi]
      rw [mid_len] at hi
      rw [mid_rd hi]
      split
      · exact bit bb hi
      · exact bit bX' (by omega)
    -- where the middle differs
    have hd : ∀ i : Nat, i < m → rdI (mid b a X') (i : Int) ≠ rdI b (i : Int) → rdI b (i : Int) ≠ rdI a (i : Int) ∧ (i : Int) = q ∧ rdI (mid b a X') (i : Int) = rdI a (i : Int) := by
      intro i hi hne
      rw [mid_rd (by omega)] at hne ⊢
      by_cases e : rdI b (i : Int) = rdI a (i : Int)
      · rw [if_pos e] at hne; exact absurd rfl hne
      · rw [if_neg e] at hne ⊢
        have hX : rdI X (i : Int) = rdI b (i : Int) := by
          have : rdI (mid b a X) (i : Int) = rdI b (i : Int) := by rw [w3]
          rwa [mid_rd (by omega), if_neg e] at this
        refine ⟨e, ?_, ?_⟩
        · have : (i : Int) ∈ apartL X X' := mem_apart.2 ⟨i, by omega, by rw [hX]; exact fun h => hne h.symm, rfl⟩
          rw [hq, List.mem_singleton] at this
          exact this
        · have e1 := bit bb (show i < b.length by omega)
          have e2 := bit ba (show i < a.length by omega)
          have e3 := bit bX' (show i < X'.length by omega)
          omega
    have hYl : (mid b a X').length = m := by rw [mid_len]; exact lb
    obtain ⟨i0, hi0, hne0⟩ : ∃ i : Nat, i < m ∧ rdI (mid b a X') (i : Int) ≠ rdI b (i : Int) := by
      refine Classical.byContradiction fun hno => w4 (rd_ext (by rw [hYl]; omega) fun i hi => ?_)
      exact Classical.byContradiction fun h => hno ⟨i, by omega, h⟩
    obtain ⟨d1, d2, d3⟩ := hd i0 hi0 hne0
    have only : ∀ i : Nat, i < m → i ≠ i0 → rdI (mid b a X') (i : Int) = rdI b (i : Int) := fun i hi hne => by
      refine Classical.byContradiction fun h => ?_
      have := (hd i hi h).2.1
      omega
    have hbY : isCh b (mid b a X') = true := by
      refine decide_eq_true ?_
      have hp1 : (apartL b (mid b a X')).Perm [(i0 : Int)] := (List.perm_ext_iff_of_nodup (apart_nodup ..) (by simp)).2 fun z => by
        rw [mem_apart, List.mem_singleton]
        constructor
        · rintro ⟨i, h1, h3, rfl⟩
          by_cases e : i = i0
          · rw [e]
          · exact absurd (only i (by omega) e).symm h3
        · rintro rfl
          exact ⟨i0, by omega, fun h => hne0 h.symm, rfl⟩
      have := hp1.length_eq
      simpa using this
    have hbne : b ≠ mid b a X' := fun e => w4 e.symm
    have hYa : (apartL (mid b a X') a).length = n := by
      have hp2 : (apartL b a).Perm ((i0 : Int) :: apartL (mid b a X') a) := by
        refine (List.perm_ext_iff_of_nodup (apart_nodup ..) (List.nodup_cons.2 ⟨fun h => ?_, apart_nodup ..⟩)).2 fun z => ?_
        · obtain ⟨i, h1, h3, h4⟩ := mem_apart.1 h
          have : i = i0 := by omega
          subst this
          exact h3 d3
        · rw [List.mem_cons, mem_apart, mem_apart]
          constructor
          · rintro ⟨i, h1, h3, rfl⟩
            by_cases e : i = i0
            · exact .inl (by rw [e])
            · exact .inr ⟨i, by omega, by rw [only i (by omega) e]; exact h3, rfl⟩
          · rintro (rfl | ⟨i, h1, h3, rfl⟩)
            · exact ⟨i0, by omega, d1, rfl⟩
            · by_cases e : i = i0
              · subst e; exact absurd d3 h3
              · exact ⟨i, by omega, by rw [← only i (by omega) e]; exact h3, rfl⟩
      have := hp2.length_eq
      rw [List.length_cons] at this
      omega
    have n1 := step_near hp hb hY hbne hbY
    have n2 := step_near hp hY hb (fun e => hbne e.symm) (hp _ hb _ hY hbY)
    exact wl_head n1 (ih _ a hY ha hYa (Wk_trans (.step .base n2) hw))
theorem rInts_l0_eq {R : Type} (N : Nat) (k0 : Bool → Option R) (k1 : Unit → Option R) (a b : List Int) (hx : a.length ≤ 1099511627776) (hl : a.length = b.length) : ∀ (d n : Nat) (K : Nat), n + d = a.length → d < K →
    laws_rInts_l0 N k0 k1 K a b n = if a.drop n = b.drop n then k1 () else k0 false := by
  intro d
  induction d with
  | zero =>
    intro n K hd hK
    obtain ⟨k, rfl⟩ := succ_of hK
    have hn : ¬ n < a.length := by omega
    simp only [laws_rInts_l0, ilt_lenf hn, br_f]
    rw [if_pos]
    rw [List.drop_of_length_le (by omega), List.drop_of_length_le (by omega)]
  | succ d ih =>
    intro n K hd hK
    obtain ⟨k, rfl⟩ := succ_of hK
    have hn : n < a.length := by omega
    have hnb : n < b.length := by omega
    simp only [laws_rInts_l0, ilt_len hn, inb_n hn, inb_n hnb, br_t, chk_t]
    rw [wrap_succ (by omega), rdI_n hn, rdI_n hnb, ih (n + 1) k (by omega) (by omega), drop_cons hn, drop_cons hnb]
    by_cases he : a[n] = b[n]
    · rw [ine_f he, br_f, he]
      simp only [List.cons.injEq, true_and]
    · rw [ine_t he, br_t, if_neg]
      intro h
      injection h with h _
      exact he h
theorem rInts_eq {N : Nat} {a b : List Int} (hx : a.length ≤ 1099511627776) (hN : a.length < N) : laws_rInts N a b = some ((decide (a = b), ()), ()) := by
  unfold laws_rInts
  simp only [tLen_n]
  by_cases hl : a.length = b.length
  · rw [ine_f (by omega), br_f]
    have := rInts_l0_eq N (fun x => some ((x, ()), ())) (fun _ => some ((true, ()), ())) a b hx hl a.length 0 N (by omega) (by omega)
    simp only [Int.natCast_zero, List.drop_zero] at this
    rw [this]
    by_cases h : a = b <;> simp [h]
  · rw [ine_t (by omega), br_t]
    have : a ≠ b := fun h => hl (by rw [h])
    simp [this]
theorem rTable_l0_eq {R : Type} (N : Nat) (k0 : Bool → Option R) (k1 : Unit → Option R) (a b : List (List Int)) (hx : a.length ≤ 1099511627776) (hxs : ∀ x ∈ a, x.length ≤ 1048576) (hN : 1048577 ≤ N) (hl : a.length = b.length) : ∀ (d n : Nat) (K : Nat), n + d = a.length → d < K →
    laws_rTable_l0 N k0 k1 K a b n = if a.drop n = b.drop n then k1 () else k0 false := by
  intro d
  induction d with
  | zero =>
    intro n K hd hK
    obtain ⟨k, rfl⟩ := succ_of hK
    have hn : ¬ n < a.length := by omega
    simp only [laws_rTable_l0, ilt_lenf hn, br_f]
    rw [if_pos]
    rw [List.drop_of_length_le (by omega), List.drop_of_length_le (by omega)]
  | succ d ih =>
    intro n K hd hK
    obtain ⟨k, rfl⟩ := succ_of hK
    have hn : n < a.length := by omega
    have hnb : n < b.length := by omega
    simp only [laws_rTable_l0, ilt_len hn, inb_n hn, inb_n hnb, br_t, chk_t]
    have ha := hxs _ (List.getElem_mem hn)
    rw [wrap_succ (by omega), rdL_n hn, rdL_n hnb, rInts_eq (by omega) (by omega), bind_some', ih (n + 1) k (by omega) (by omega), drop_cons hn, drop_cons hnb, br_ite]
    by_cases he : a[n] = b[n]
    · rw [he, if_neg (by simp)]
      simp only [List.cons.injEq, true_and]
    · rw [if_pos (by simp [he]), if_neg]
      intro h
      injection h with h _
      exact he h
theorem rTable_eq {N : Nat} {a b : List (List Int)} (hx : a.length ≤ 1048576) (hxs : ∀ x ∈ a, x.length ≤ 1048576) (hN : 1048577 ≤ N) : laws_rTable N a b = some ((decide (a = b), ()), ()) := by
  unfold laws_rTable
  simp only [tLen_n]
  by_cases hl : a.length = b.length
  · rw [ine_f (by omega), br_f]
    have := rTable_l0_eq N (fun x => some ((x, ()), ())) (fun _ => some ((true, ()), ())) a b (by omega) hxs hN hl a.length 0 N (by omega) (by omega)
    simp only [Int.natCast_zero, List.drop_zero] at this
    rw [this]
    by_cases h : a = b <;> simp [h]
  · rw [ine_t (by omega), br_t]
    have : a ≠ b := fun h => hl (by rw [h])
    simp [this]
theorem rPairs_self {N : Nat} {a : List (Int × Int)} (hx : a.length ≤ 1048576) (hN : 1048577 ≤ N) : laws_rPairs N a a = some ((true, ()), ()) := by
  unfold laws_rPairs
  rw [ine_f rfl, br_f]
  have go : ∀ (d n K : Nat), n + d = a.length → d < K → laws_rPairs_l0 N (fun x => some ((x, ()), ())) (fun (_ : Unit) => some ((true, ()), ())) K a a (n : Int) = some ((true, ()), ()) := by
    intro d
    induction d with
    | zero =>
      intro n K hd hK
      obtain ⟨K, rfl⟩ := succ_of hK
      simp only [laws_rPairs_l0, ilt_lenf (show ¬ n < a.length by omega), br_f]
    | succ d ih =>
      intro n K hd hK
      obtain ⟨K, rfl⟩ := succ_of hK
      have hn : n < a.length := by omega
      simp only [laws_rPairs_l0, ilt_len hn, br_t, inb_n hn, chk_t]
      rw [ieq_t rfl, ieq_t rfl, wrap_succ (by omega)]
      simp only [Bool.and_self, Bool.not_true, br_f]
      exact ih (n + 1) K (by omega) (by omega)
  exact go a.length 0 N (by omega) (by omega)
theorem rSpace_self {N : Nat} {x : List (List Int) × List (Int × Int)} (h : okSp x) (hN : 1048577 ≤ N) : laws_rSpace N x x = some ((true, ()), ()) := by
  obtain ⟨h1, h2, h3, h4⟩ := h
  unfold laws_rSpace
  rw [rTable_eq h1 h2 hN, bind_some', decide_eq_true rfl, br_t, rPairs_self h3 hN, bind_some']
noncomputable def classV (f : Int × List (List Int)) : (Bool × Bool × Bool) × Bool := if goodF f then (f.2.foldl classF (true, true, true), true) else ((false, false, false), false)
theorem Class_both {N : Nat} {f : Int × List (List Int)} (hl : f.2.length ≤ 1048576) (hc : ∀ c ∈ f.2, c.length ≤ 1048576) (hN : 1048577 ≤ N) :
    spec_ClassOf N f = some (((classV f).1.1, (classV f).1.2.1, (classV f).1.2.2, (classV f).2, ()), ()) ∧ impl_ClassOf N f = some (((classV f).1.1, (classV f).1.2.1, (classV f).1.2.2, (classV f).2, ()), ()) := by
  unfold spec_ClassOf impl_ClassOf classV
  simp only [show ((f.1, f.2) : Int × List (List Int)) = f from rfl]
  rw [spec_l6Good_eq hl hc hN, impl_IsFormula_eq hl hc hN, bind_some', bind_some']
  by_cases hg : goodF f
  · rw [decide_eq_true hg, if_pos hg]
    simp only [Bool.not_true, br_f]
    rw [l6Most_eq hl hc hN, bind_some', tLen_n, impl_ClassOf_l0_eq hl hc hN]
    refine ⟨?_, rfl⟩
    rw [class_rel]
    simp only [ile_d]
  · rw [decide_eq_false hg, if_neg hg]
    exact ⟨rfl, rfl⟩
theorem fold_two : ∀ (cs : List (List Int)) (t : Bool × Bool × Bool), (cs.foldl classF t).1 = true → t.1 = true ∧ ∀ c ∈ cs, c.length ≤ 2 := by
  intro cs
  induction cs with
  | nil => intro t h; exact ⟨h, by simp⟩
  | cons c cs ih =>
    intro t h
    obtain ⟨h1, h2⟩ := ih _ h
    simp only [classF, Bool.and_eq_true, decide_eq_true_eq] at h1
    exact ⟨h1.1, fun x hx => by
      rcases List.mem_cons.1 hx with rfl | hx
      · omega
      · exact h2 x hx⟩
theorem diff_apart {a b : List Int} (h : a.length ≤ b.length) (ha : a.length ≤ 1048576) : diffAt a b 0 = apartL a b := by
  have e1 := places_eq (N := 1048577) (a := a) (b := b) h (by omega) (by omega)
  rw [places_ap ha h (Nat.le_refl _)] at e1
  injection e1 with e1
  injection e1 with e1
  injection e1 with e1
  exact e1.symm
theorem mem_sols {f : Int × List (List Int)} (hg : goodF f) {x : List Int} : x ∈ solsL f ↔ (x.length = f.1.toNat ∧ (∀ z ∈ x, z = 0 ∨ z = 1)) ∧ solves x f.2 := by
  unfold solsL
  rw [List.mem_filter, decide_eq_true_eq]
  constructor
  · rintro ⟨h1, h2⟩
    exact ⟨⟨allB_row h1, allB_bits h1⟩, h2⟩
  · rintro ⟨⟨h1, h2⟩, h3⟩
    have := mem_allB h2 (by have := hg.1; omega)
    rw [h1] at this
    exact ⟨this, h3⟩
theorem sols_is {f : Int × List (List Int)} (hg : goodF f) {x : List Int} (h : x ∈ solsL f) : isSol f x := by
  obtain ⟨⟨h1, h2⟩, h3⟩ := (mem_sols hg).1 h
  refine ⟨⟨hg, ?_⟩, h3⟩
  rw [Bool.and_eq_true, decide_eq_true_eq, List.all_eq_true]
  exact ⟨fun z hz => decide_eq_true (by have := h2 z hz; omega), by have := hg.1; omega⟩
theorem flip_facts {f : Int × List (List Int)} {a b : List Int} (ha : isSol f a) (hb : isSol f b) (hne : fwayS f a b ≠ []) :
    (fwayS f a b).head? = some a ∧ (fwayS f a b).getLast? = some b ∧ (∀ i (hi : i + 1 < (fwayS f a b).length), isCh ((fwayS f a b)[i]) ((fwayS f a b)[i + 1]) = true) ∧ ∀ x ∈ fwayS f a b, x ∈ solsL f := by
  have hg := ha.1.1
  have h6 : f.1.toNat ≤ 6 := by have := hg.1; omega
  obtain ⟨s1, s2, s3, s4⟩ := sols_ok h6 (fun b => decide (solves b f.2))
  have s3 : (solsL f).length ≤ 64 := s3
  have hp : ∀ x ∈ solsL f, ∀ y ∈ solsL f, isCh x y = true → isCh y x = true := fun x hx y hy h => isCh_symm (by rw [((mem_sols hg).1 hx).1.1, ((mem_sols hg).1 hy).1.1]) h
  obtain ⟨c1, c2, c3⟩ := way_chain (p := isCh) (by omega) (sol_mem ha) (sol_mem hb) hp hne
  exact ⟨c1, c2, c3, fun x hx => wayS_in (by omega) stepsL_ok (sol_mem ha) (sol_mem hb) x hx⟩
theorem flip_far {f : Int × List (List Int)} {a b : List Int} (ha : isSol f a) (hb : isSol f b) (hne : fwayS f a b ≠ []) : (apartL a b).length ≤ (fwayS f a b).length - 1 := by
  obtain ⟨c1, c2, c3, c4⟩ := flip_facts ha hb hne
  have hg := ha.1.1
  have hla := ((mem_sols hg).1 (sol_mem ha)).1.1
  have key : ∀ i (hi : i < (fwayS f a b).length), (apartL a ((fwayS f a b)[i])).length ≤ i := by
    intro i
    induction i with
    | zero =>
      intro hi
      have : (fwayS f a b)[0] = a := by
        rw [List.head?_eq_getElem?, List.getElem?_eq_getElem hi] at c1
        injection c1
      rw [this]
      have : apartL a a = [] := List.eq_nil_iff_forall_not_mem.2 fun x hx => by
        obtain ⟨i, _, h, _⟩ := mem_apart.1 hx
        exact h rfl
      rw [this]
      exact Nat.le_refl 0
    | succ i ih =>
      intro hi
      have h1 := ih (by omega)
      have h2 := c3 i hi
      have hl := ((mem_sols hg).1 (c4 _ (List.getElem_mem (show i < (fwayS f a b).length by omega)))).1.1
      have := apart_tri (a := a) (by rw [hl, hla]) h2
      omega
  have hp := List.length_pos_iff.2 hne
  have hl : (fwayS f a b)[(fwayS f a b).length - 1] = b := by
    rw [List.getLast?_eq_getElem?, List.getElem?_eq_getElem (by omega)] at c2
    injection c2
  have := key ((fwayS f a b).length - 1) (by omega)
  rwa [hl] at this
theorem flip_two {f : Int × List (List Int)} {a b : List Int} (ha : isSol f a) (hb : isSol f b) (hne : fwayS f a b ≠ []) (h2 : ∀ c ∈ f.2, c.length ≤ 2) : (fwayS f a b).length - 1 ≤ (apartL a b).length := by
  have hg := ha.1.1
  have h6 : f.1.toNat ≤ 6 := by have := hg.1; omega
  obtain ⟨s1, s2, s3, s4⟩ := sols_ok h6 (fun b => decide (solves b f.2))
  have s3 : (solsL f).length ≤ 64 := s3
  have ma := sol_mem ha
  have mb := sol_mem hb
  have hw := (way_some (by omega) stepsL_ok ma mb).1 hne
  have hlit : litsOk ((f.1.toNat : Nat) : Int) f.2 := by
    have := goodF_lits hg
    rwa [show ((f.1.toNat : Nat) : Int) = f.1 by have := hg.1; omega]
  have hp := two_path (m := f.1.toNat) (xs := solsL f) (cs := f.2) (by omega) (fun x => mem_sols hg) hlit h2 (apartL b a).length b a mb ma rfl hw
  have := way_least (by omega) stepsL_ok ma mb hp
  have e : apartL a b = apartL b a := apart_symm (by rw [((mem_sols hg).1 ma).1.1, ((mem_sols hg).1 mb).1.1])
  rw [e]
  show (wayS _ _ _ _).length - 1 ≤ _
  omega
theorem fl_loop {R : Type} {N : Nat} {f : Int × List (List Int)} {k0 : Bool → Option R} {k1 : List Int → List Int → Option R} {x : List Int} {w : List (List Int)} (hg : goodF f) (hl : f.2.length ≤ 1048576) (hc : ∀ c ∈ f.2, c.length ≤ 1048576) (hN : 1048577 ≤ N) (hwl : w.length ≤ 64)
    (c3 : ∀ i (hi : i + 1 < w.length), isCh (w[i]) (w[i + 1]) = true) (c4 : ∀ x ∈ w, x ∈ solsL f) :
    ∀ (d i K : Nat), i + d + 1 = w.length → d < K → laws_FnFlipWays_l0 N k0 k1 K x (i : Int) f.1 f.2 (diffsL w) (rdL w (i : Int)) = k1 x (rdL w ((w.length - 1 : Nat) : Int)) := by
  have hdl := diffsL_len w
  intro d
  induction d with
  | zero =>
    intro i K hd hK
    obtain ⟨K, rfl⟩ := succ_of hK
    simp only [laws_FnFlipWays_l0, ilt_lenf (show ¬ i < (diffsL w).length by omega), br_f]
    rw [show w.length - 1 = i by omega]
  | succ d ih =>
    intro i K hd hK
    obtain ⟨K, rfl⟩ := succ_of hK
    have hi : i < (diffsL w).length := by omega
    have hi1 : i + 1 < w.length := by omega
    have hi0 : i < w.length := by omega
    obtain ⟨⟨l1, b1⟩, _⟩ := (mem_sols hg).1 (c4 _ (List.getElem_mem hi0))
    obtain ⟨⟨l2, b2⟩, _⟩ := (mem_sols hg).1 (c4 _ (List.getElem_mem hi1))
    obtain ⟨v, hv, ev, et⟩ := turn_one l1 l2 b1 b2 (c3 i hi1)
    have hs := sols_is hg (c4 _ (List.getElem_mem hi1))
    have hm6 : f.1.toNat ≤ 6 := by have := hg.1; omega
    have hdi : rdI (diffsL w) (i : Int) = (v : Int) := by
      unfold diffsL
      rw [rdI_n (by simp; omega), List.getElem_map, List.getElem_range', show 1 + 1 * i = i + 1 by omega, show i + 1 - 1 = i by omega, rdL_n hi0, rdL_n hi1, ev]
      rfl
    simp only [laws_FnFlipWays_l0, ilt_len hi, br_t, inb_n hi, chk_t, hdi, rdL_n hi0]
    have hvi : inb w[i] (v : Int) = true := inb_n (by omega)
    have hbv : rdI w[i] (v : Int) = 0 ∨ rdI w[i] (v : Int) = 1 := by rw [rdI_n (show v < w[i].length by omega)]; exact b1 _ (List.getElem_mem _)
    rw [hvi, chk_t, chk_t, wrap_ok (by omega) (by omega), et, show ((f.1, f.2) : Int × List (List Int)) = f from rfl, impl_IsSolution_eq hl hc (by omega) hN, bind_some', decide_eq_true (show (goodF f ∧ _) ∧ _ from hs), decide_eq_true (show goodF f ∧ _ from hs.1)]
    simp only [Bool.not_true, br_f]
    rw [wrap_succ (by omega)]
    have := ih (i + 1) K (by omega) (by omega)
    rw [rdL_n hi1] at this
    exact this
theorem FlipWays_pure {N : Nat} (hNe : N = 1048577) {code : List Int} (hw : ∀ y ∈ code, (Lit.int .u8 y).wf = true) : laws_FnFlipWays N code = some ((true, ()), ()) := by
  have hN : 1048577 ≤ N := by omega
  unfold laws_FnFlipWays laws_rBig
  rw [bind_some']
  simp only []
  rw [tLen_n]
  by_cases hb : 65536 < code.length
  · rw [ilt_t (by omega), br_t]
  · rw [ilt_f (by omega), br_f]
    have hco := code_ok hw (by omega)
    obtain ⟨f, a, b, d1, d2, d3, d4⟩ := DrawFlip_ok hNe hco
    obtain ⟨c, d, e1, e2, e3⟩ := DrawHam_ok (N := N) hN hco
    have hl : f.2.length ≤ 1048576 := by have := d2.1; omega
    have hc : ∀ c ∈ f.2, c.length ≤ 1048576 := fun x hx => by have := d2.2 x hx; omega
    have w1 := impl_FlipWay_eq hNe hl hc (show a.length ≤ 1048576 by omega) (show b.length ≤ 1048576 by omega)
    have w2 := spec_FlipWay_eq hNe hl hc (show a.length ≤ 1048576 by omega) (show b.length ≤ 1048576 by omega)
    have w3 := spec_FlipDistance_eq hNe hl hc (show a.length ≤ 1048576 by omega) (show b.length ≤ 1048576 by omega)
    have w4 : impl_FlipDistance N f a b = some (((fdistV f a b).1, (fdistV f a b).2, ()), ()) := by
      unfold impl_FlipDistance
      simp only [show ((f.1, f.2) : Int × List (List Int)) = f from rfl]
      rw [w1, bind_some']
      rfl
    obtain ⟨q1, q2⟩ := Class_both hl hc hN
    obtain ⟨f0, f1, f2⟩ := FlipSpace_both hNe hl hc
    have hfl := fwayV_len f a b
    have i1 : laws_rInts N (fwayV f a b).1 (fwayV f a b).1 = some ((true, ()), ()) := by rw [rInts_eq (by omega) (by omega), decide_eq_true rfl]
    have hcv : (classV f).2 = decide (goodF f) := by
      unfold classV
      by_cases hg : goodF f
      · rw [if_pos hg, decide_eq_true hg]
      · rw [if_neg hg, decide_eq_false hg]
    have hfv : (flipV f).2 = decide (goodF f) := by
      unfold flipV
      by_cases hg : goodF f
      · rw [if_pos hg, decide_eq_true hg]
      · rw [if_neg hg, decide_eq_false hg]
    simp only [d1, w1, w2, w3, w4, q1, q2, f1, f2, e1, i1, bind_some', show ((f.1, f.2) : Int × List (List Int)) = f from rfl, beq_self_eq_true, Bool.not_true, br_f, ine_f (rfl : (fdistV f a b).1 = (fdistV f a b).1), impl_IsFormula_eq hl hc hN, hcv, hfv, impl_HammingOf_eq' (show c.length ≤ 1048576 by omega) (show d.length ≤ 1048576 by omega) hN, spec_HammingOf_eq' (show c.length ≤ 1048576 by omega) (show d.length ≤ 1048576 by omega) hN,
      ine_f (rfl : (hammingR c d).1 = (hammingR c d).1), show (((flipV f).1.1, (flipV f).1.2) : List (List Int) × List (Int × Int)) = (flipV f).1 from rfl, rSpace_self f0 hN]
    have hdv : (fdistV f a b).2 = (fwayV f a b).2 := rfl
    simp only [hdv, beq_self_eq_true, Bool.not_true, br_f]
    by_cases hs : isSol f a ∧ isSol f b
    · have hv : fwayV f a b = (diffsL (fwayS f a b), decide (fwayS f a b ≠ [])) := by unfold fwayV; rw [if_pos hs]
      obtain ⟨ha, hbs⟩ := hs
      by_cases hne : fwayS f a b ≠ []
      · have hg := ha.1.1
        obtain ⟨⟨la, ba⟩, sa⟩ := (mem_sols hg).1 (sol_mem ha)
        obtain ⟨⟨lb, bb⟩, sb⟩ := (mem_sols hg).1 (sol_mem hbs)
        have hm6 : f.1.toNat ≤ 6 := by have := hg.1; omega
        have hham : hammingR a b = (((apartL a b).length : Int), true) := by
          unfold hammingR
          have h1 := (Bool.and_eq_true _ _).mp ha.1.2
          have h2 := (Bool.and_eq_true _ _).mp hbs.1.2
          rw [if_neg (by omega), if_neg (fun q => q h1.1), if_neg (fun q => q ⟨h2.1, by omega⟩), diff_apart (by omega) (by omega)]
        obtain ⟨c1, c2, c3, c4⟩ := flip_facts ha hbs hne
        have hwl := (fway_ok ha hbs).1
        have hfar := flip_far ha hbs hne
        have hp := List.length_pos_iff.2 hne
        have hd : (fdistV f a b).1 = (((fwayS f a b).length - 1 : Nat) : Int) := by
          unfold fdistV
          rw [hv, ← diffsL_len]
        have hh := impl_HammingOf_eq' (N := N) (a := a) (b := b) (by omega) (by omega) hN
        rw [hham] at hh
        have e0 : rdL (fwayS f a b) ((0 : Nat) : Int) = a := by
          rw [rdL_n hp]
          rw [List.head?_eq_getElem?, List.getElem?_eq_getElem hp] at c1
          injection c1
        have eL : rdL (fwayS f a b) (((fwayS f a b).length - 1 : Nat) : Int) = b := by
          rw [rdL_n (by omega)]
          rw [List.getLast?_eq_getElem?, List.getElem?_eq_getElem (by omega)] at c2
          injection c2
        have hloop : ∀ (k0 : Bool → Option ((Bool × Unit) × Unit)) (k1 : List Int → List Int → Option ((Bool × Unit) × Unit)), laws_FnFlipWays_l0 N k0 k1 N b 0 f.1 f.2 (diffsL (fwayS f a b)) a = k1 b b := fun k0 k1 => by
          have := fl_loop (N := N) (k0 := k0) (k1 := k1) (x := b) hg hl hc hN hwl c3 c4 ((fwayS f a b).length - 1) 0 N (by omega) (by omega)
          rw [e0, eL] at this
          exact this
        have ib : laws_rInts N b b = some ((true, ()), ()) := by rw [rInts_eq (by omega) (by omega), decide_eq_true rfl]
        rw [hv, hd, hh]
        simp only [decide_eq_true hne, Bool.not_true, br_f, bind_some']
        rw [ilt_f (by omega), br_f, tLen_n, diffsL_len, ine_f rfl, br_f]
        have hta : tApp [] a = a := rfl
        have hroom : room (α := Int) (β := Int) [] a = true := room_ok (by simp; omega)
        rw [hroom, hta, hloop, chk_t, ib, bind_some']
        cases ht : (classV f).1.1 with
        | false => rw [br_f]
        | true =>
          have h2 : ∀ c ∈ f.2, c.length ≤ 2 := by
            unfold classV at ht
            rw [if_pos hg] at ht
            exact (fold_two _ _ ht).2
          have := flip_two ha hbs hne h2
          rw [br_t, ine_f (by omega), br_f]
      · rw [hv, decide_eq_false hne]
        rfl
    · have hv : fwayV f a b = ([], false) := by unfold fwayV; rw [if_neg hs]
      rw [hv]
      rfl
end Go.Proofs.YtbnjcjpnpidhmaaGreat
