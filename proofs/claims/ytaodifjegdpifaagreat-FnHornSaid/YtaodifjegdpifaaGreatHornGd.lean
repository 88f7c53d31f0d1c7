/- Statements on data alone. -/
import Derived.Test.YtaodifjegdpifaaGreatPvPure
import Derived.Test.YtaodifjegdpifaaGreatHornGc
set_option linter.all false
set_option linter.all false
namespace Go.Proofs.YtaodifjegdpifaaGreat
open Go Go.PV Classical
theorem f_more {R : Type} {N : Nat} {k0 : List Int × (Int × Int) → Int → Int → List (List Int) → Option R} {x : Int} {c : List Int × (Int × Int)} {o5 o6 : Int} (hx : x ≤ 70) : ∀ (d K : Nat) (o : List (List Int)), (o.length : Int) + (d : Int) = max x (o.length : Int) → d < K → listsOk 2000 8 o →
    ∃ o', spec_l1Cur_formula_l1 N k0 K x c o5 o6 o = k0 c o5 o6 o' ∧ listsOk (o.length + d) 8 o' := by
  intro d
  induction d with
  | zero =>
    intro K o hd hK ho
    obtain ⟨K, rfl⟩ := succ_of hK
    refine ⟨o, ?_, Nat.le_refl _, ho.2⟩
    simp only [spec_l1Cur_formula_l1, tLen_n]
    rw [ilt_f (by omega), br_f]
  | succ d ih =>
    intro K o hd hK ho
    obtain ⟨K, rfl⟩ := succ_of hK
    simp only [spec_l1Cur_formula_l1, tLen_n]
    rw [ilt_t (by omega), br_t, room_ok (by simp; omega), chk_t, tApp_d]
    obtain ⟨o', r1, r2, r3⟩ := ih K (o ++ [[(-1), 1]]) (by simp; omega) (by omega) ⟨by simp; omega, fun z hz => by
      rcases List.mem_append.1 hz with hz | hz
      · exact ho.2 z hz
      · rw [List.mem_singleton] at hz; subst hz; simp⟩
    exact ⟨o', r1, by simp at r2; omega, r3⟩
noncomputable def fTail (N : Nat) (o : List Int × (Int × Int)) (o1 o2 : Int) (o3 : List (List Int)) : Option (((Int × List (List Int)) × Unit) × ((List Int × (Int × Int)) × Unit)) :=
  ((spec_l1Cur_pick N o 40).bind fun r3 =>
    (br (ieq r3.1.1 0)
      (((spec_l1Cur_among N r3.2.1 [(-1), 7, 6]).bind fun r4 =>
        some (((r4.1.1, o3), ()), (r4.2.1, ()))))
      ((br (ieq r3.1.1 1)
        (((spec_l1Cur_among N (r3.2.1.1, (r3.2.1.2.1, r3.2.1.2.2)) [0, 7, (-7), 1]).bind fun r5 =>
          (chk (room o3 [[r5.1.1]])
            (some (((o2, (tApp o3 [[r5.1.1]])), ()), (r5.2.1, ()))))))
        ((br (ieq r3.1.1 2)
          ((chk (room o3 [[2, 1]])
            (some (((o2, (tApp o3 [[2, 1]])), ()), (r3.2.1, ())))))
          ((br (ieq r3.1.1 3)
            (((spec_l1Cur_pick N r3.2.1 2).bind fun r6 =>
              spec_l1Cur_formula_l1 N (fun o4 o5 o6 o7 => some (((o6, o7), ()), (o4, ()))) N (IntKind.i64.wrap (64 + r6.1.1)) r6.2.1 o1 o2 o3))
            (some (((o2, o3), ()), (r3.2.1, ())))))))))))
theorem fTail_ok {N : Nat} {code : List Int} {k : Nat} {c : List Int × (Int × Int)} {o1 o2 : Int} {o3 : List (List Int)} (hco : codeOk code) (hN : 1048577 ≤ N) (h : CurOk code k c) (hk : k ≤ 800000) (ho : listsOk 100 5 o3) :
    ∃ f c', fTail N c o1 o2 o3 = some ((f, ()), (c', ())) ∧ CurOk code (k + 10) c' ∧ listsOk 200 8 f.2 := by
  have h8 : ∀ x ∈ o3, x.length ≤ 8 := fun x hx => by have := ho.2 x hx; omega
  have hol := ho.1
  unfold fTail
  obtain ⟨x, c1, e1, e2, _⟩ := pick_ok (N := N) hco h (by omega) 40
  rw [e1, bind_some']
  simp only [show ((c1.1, (c1.2.1, c1.2.2)) : List Int × (Int × Int)) = c1 from rfl]
  have app : ∀ r : List Int, r.length ≤ 8 → listsOk 200 8 (o3 ++ [r]) := fun r hr => ⟨by simp; omega, fun z hz => by
    rcases List.mem_append.1 hz with hz | hz
    · exact h8 z hz
    · rw [List.mem_singleton] at hz; subst hz; exact hr⟩
  by_cases h0 : x = 0
  · rw [ieq_t h0, br_t]
    obtain ⟨y, c2, f1, f2, _⟩ := among_ok (N := N) hco e2 (by omega) (l := [(-1), 7, 6]) (by simp)
    rw [f1, bind_some']
    exact ⟨_, _, rfl, cur_mono f2 (by omega), ⟨by simp only []; omega, h8⟩⟩
  · rw [ieq_f h0, br_f]
    by_cases h1 : x = 1
    · rw [ieq_t h1, br_t]
      obtain ⟨y, c2, f1, f2, _⟩ := among_ok (N := N) hco e2 (by omega) (l := [0, 7, (-7), 1]) (by simp)
      rw [f1, bind_some']
      simp only []
      rw [room_ok (by simp; omega), chk_t, tApp_d]
      exact ⟨_, _, rfl, cur_mono f2 (by omega), app _ (by simp)⟩
    · rw [ieq_f h1, br_f]
      by_cases h2 : x = 2
      · rw [ieq_t h2, br_t, room_ok (by simp; omega), chk_t, tApp_d]
        exact ⟨_, _, rfl, cur_mono e2 (by omega), app _ (by simp)⟩
      · rw [ieq_f h2, br_f]
        by_cases h3 : x = 3
        · rw [ieq_t h3, br_t]
          obtain ⟨y, c2, f1, f2, f3, _, f5⟩ := pick_ok (N := N) hco e2 (by omega) 2
          have f5 := f5 (by omega)
          rw [f1, bind_some']
          simp only []
          rw [wrap_ok (by omega) (by omega)]
          obtain ⟨d, hd⟩ : ∃ d : Nat, (o3.length : Int) + (d : Int) = max (64 + y) (o3.length : Int) := ⟨(max (64 + y) (o3.length : Int) - o3.length).toNat, by omega⟩
          obtain ⟨o', r1, r2, r3⟩ := f_more (N := N) (k0 := fun o4 o5 o6 o7 => some (((o6, o7), ()), (o4, ()))) (x := 64 + y) (c := c2) (o5 := o1) (o6 := o2) (by omega) d N o3 hd (by omega) ⟨by omega, h8⟩
          exact ⟨_, _, r1, cur_mono f2 (by omega), ⟨by simp only []; omega, r3⟩⟩
        · rw [ieq_f h3, br_f]
          exact ⟨_, _, rfl, cur_mono e2 (by omega), ⟨by simp only []; omega, h8⟩⟩
theorem formula_ok {N : Nat} {code : List Int} {k : Nat} {c : List Int × (Int × Int)} (hco : codeOk code) (hN : 1048577 ≤ N) (h : CurOk code k c) (hk : k ≤ 90000) : ∃ f c', spec_l1Cur_formula N c = some ((f, ()), (c', ())) ∧ CurOk code (k + 200) c' ∧ listsOk 200 8 f.2 := by
  unfold spec_l1Cur_formula
  obtain ⟨n, c1, a1, a2, a3⟩ := among_ok (N := N) hco h (by omega) (l := [4, 3, 5, 2, 6, 1, 0]) (by simp)
  rw [a1, bind_some']
  simp only []
  obtain ⟨y, c2, b1, b2, _⟩ := pick_ok (N := N) hco a2 (by omega) 5
  rw [b1, bind_some']
  simp only []
  have rest : ∀ x : Int, ∃ f c', ((spec_l1Cur_among N c2 [2, 3, 4, 6, 1, 0]).bind fun r2 => spec_l1Cur_formula_l0 N (fun o o1 o2 o3 => fTail N o o1 o2 o3) N x r2.1.1 r2.2.1 0 n []) = some ((f, ()), (c', ())) ∧ CurOk code (k + 200) c' ∧ listsOk 200 8 f.2 := by
    intro x
    obtain ⟨z, c3, d1, d2, d3⟩ := among_ok (N := N) hco b2 (by omega) (l := [2, 3, 4, 6, 1, 0]) (by simp)
    rw [d1, bind_some']
    simp only []
    have hz : 0 ≤ z ∧ z ≤ 6 := by simp at d3; omega
    obtain ⟨m, rfl⟩ := Int.eq_ofNat_of_zero_le hz.1
    obtain ⟨c4, o', e1, e2, e3⟩ := f_out (N := N) hco hN (k0 := fun o o1 o2 o3 => fTail N o o1 o2 o3) (x := x) (o1 := 0) (o2 := n) m N _ c3 [] (by omega) d2 (by omega) ⟨by simp, by simp⟩ (by omega)
    obtain ⟨f, c', g1, g2, g3⟩ := fTail_ok (N := N) (o1 := 0) (o2 := n) hco hN e2 (by omega) (show listsOk 100 5 o' from ⟨by have := e3.1; simp at this; omega, e3.2⟩)
    exact ⟨f, c', e1.trans g1, cur_mono g2 (by omega), g3⟩
  by_cases h4 : y = 4
  · rw [ieq_t h4, br_t]
    exact rest 3
  · rw [ieq_f h4, br_f]
    exact rest y
noncomputable def bTail (N : Nat) (o : List Int × (Int × Int)) (o1 : List Int) : Option ((List Int × Unit) × ((List Int × (Int × Int)) × Unit)) :=
  (br (ilt 0 (tLen o1))
    (((spec_l1Cur_one N o 8).bind fun r5 =>
      (br r5.1.1
        (((spec_l1Cur_among N r5.2.1 [2, (-1)]).bind fun r6 =>
          (chk (inb o1 0)
            ((spec_l1Cur_one N r6.2.1 12).bind fun r7 =>
            (br r7.1.1
              ((chk (room (tSet o1 0 r6.1.1) [0])
                (some (((tApp (tSet o1 0 r6.1.1) [0]), ()), (r7.2.1, ())))))
              (some (((tSet o1 0 r6.1.1), ()), (r7.2.1, ()))))))))
        (((spec_l1Cur_one N r5.2.1 12).bind fun r8 =>
          (br r8.1.1
            ((chk (room o1 [0])
              (some (((tApp o1 [0]), ()), (r8.2.1, ())))))
            (some ((o1, ()), (r8.2.1, ())))))))))
    (((spec_l1Cur_one N o 12).bind fun r9 =>
      (br r9.1.1
        ((chk (room o1 [0])
          (some (((tApp o1 [0]), ()), (r9.2.1, ())))))
        (some ((o1, ()), (r9.2.1, ())))))))
theorem bTail_ok {N : Nat} {code : List Int} {k : Nat} {c : List Int × (Int × Int)} {o : List Int} (hco : codeOk code) (h : CurOk code k c) (hk : k ≤ 900000) (ho : o.length ≤ 7) : ∃ a c', bTail N c o = some ((a, ()), (c', ())) ∧ CurOk code (k + 6) c' ∧ a.length ≤ 8 := by
  unfold bTail
  have last : ∀ (kk : Nat) (c : List Int × (Int × Int)) (o : List Int), CurOk code kk c → kk ≤ k + 4 → o.length ≤ 7 → ∃ a c', ((spec_l1Cur_one N c 12).bind fun r9 =>
      (br r9.1.1
        ((chk (room o [0])
          (some (((tApp o [0]), ()), (r9.2.1, ())))))
        (some ((o, ()), (r9.2.1, ()))))) = some ((a, ()), (c', ())) ∧ CurOk code (k + 6) c' ∧ a.length ≤ 8 := by
    intro kk c o hc hkk ho
    obtain ⟨b, c2, f1, f2⟩ := one_ok (N := N) hco hc (by omega) 12
    rw [f1, bind_some']
    simp only []
    cases b with
    | true =>
      rw [br_t, room_ok (by simp; omega), chk_t]
      exact ⟨_, _, rfl, cur_mono f2 (by omega), by simp [tApp]; omega⟩
    | false =>
      rw [br_f]
      exact ⟨_, _, rfl, cur_mono f2 (by omega), by omega⟩
  by_cases h0 : 0 < tLen o
  · rw [ilt_t h0, br_t]
    obtain ⟨b, c2, f1, f2⟩ := one_ok (N := N) hco h (by omega) 8
    rw [f1, bind_some']
    simp only []
    cases b with
    | true =>
      rw [br_t]
      obtain ⟨y, c3, g1, g2, _⟩ := among_ok (N := N) hco f2 (by omega) (l := [2, (-1)]) (by simp)
      rw [g1, bind_some']
      simp only []
      rw [tLen_n] at h0
      have hi : inb o 0 = true := inb_n (n := 0) (by omega)
      rw [hi, chk_t]
      exact last _ c3 (tSet o 0 y) g2 (by omega) (by simp [tSet]; omega)
    | false =>
      rw [br_f]
      exact last _ c2 o f2 (by omega) ho
  · rw [ilt_f h0, br_f]
    exact last _ c o h (by omega) ho
theorem bits_loop {N : Nat} {code : List Int} (hco : codeOk code) {o1 : Int} {o2 : List (List Int)} : ∀ (d x K k : Nat) (c : List Int × (Int × Int)) (o : List Int), x + d = 7 → d < K → CurOk code k c → k + 2 * d + 20 ≤ 900000 → o.length ≤ x →
    ∃ a c', spec_l1Cur_bits_l0 N (fun o4 o5 => bTail N o4 o5) K (x : Int) c o1 o2 o = some ((a, ()), (c', ())) ∧ CurOk code (k + 2 * d + 6) c' ∧ a.length ≤ 8 := by
  intro d
  induction d with
  | zero =>
    intro x K k c o hd hK hc hk ho
    obtain ⟨K, rfl⟩ := succ_of hK
    have e : x = 7 := by omega
    subst e
    simp only [spec_l1Cur_bits_l0]
    rw [ilt_f (show ¬ ((7 : Nat) : Int) < 7 by omega), br_f]
    obtain ⟨a, c', f1, f2, f3⟩ := bTail_ok (N := N) hco hc (by omega) ho
    rw [f1]
    refine ⟨a, c', ?_, cur_mono f2 (by omega), f3⟩
    cases ilt ((7 : Nat) : Int) o1 <;> rfl
  | succ d ih =>
    intro x K k c o hd hK hc hk ho
    obtain ⟨K, rfl⟩ := succ_of hK
    simp only [spec_l1Cur_bits_l0]
    by_cases h1 : (x : Int) < o1
    · rw [ilt_t h1, br_t, ilt_t (show (x : Int) < 7 by omega), br_t]
      obtain ⟨y, c2, f1, f2, _⟩ := pick_ok (N := N) hco hc (by omega) 2
      rw [f1, bind_some']
      simp only []
      rw [room_ok (by simp; omega), chk_t, wrap_succ (by omega)]
      obtain ⟨a, c', g1, g2, g3⟩ := ih (x + 1) K (k + 2) c2 (tApp o [y]) (by omega) (by omega) f2 (by omega) (by simp [tApp]; omega)
      exact ⟨a, c', g1, cur_mono g2 (by omega), g3⟩
    · rw [ilt_f h1, br_f]
      obtain ⟨a, c', f1, f2, f3⟩ := bTail_ok (N := N) hco hc (by omega) (show o.length ≤ 7 by omega)
      exact ⟨a, c', f1, cur_mono f2 (by omega), f3⟩
theorem bits_ok {N : Nat} (hNe : N = 1048577) {code : List Int} {k : Nat} {c : List Int × (Int × Int)} {f : Int × List (List Int)} (hco : codeOk code) (h : CurOk code k c) (hk : k ≤ 800000) (hf : listsOk 200 8 f.2) :
    ∃ a c', spec_l1Cur_bits N c f = some ((a, ()), (c', ())) ∧ CurOk code (k + 40) c' ∧ a.length ≤ 8 := by
  have hN : 1048577 ≤ N := by omega
  have hl : f.2.length ≤ 1048576 := by have := hf.1; omega
  have hc : ∀ c ∈ f.2, c.length ≤ 1048576 := fun x hx => by have := hf.2 x hx; omega
  unfold spec_l1Cur_bits
  simp only [show ((f.1, f.2) : Int × List (List Int)) = f from rfl]
  rw [spec_l6Good_eq hl hc hN, bind_some']
  simp only []
  have other : ∀ (kk : Nat) (c : List Int × (Int × Int)), CurOk code kk c → kk ≤ k + 2 → ∃ a c', spec_l1Cur_bits_l0 N (fun o4 o5 => bTail N o4 o5) N 0 c f.1 f.2 [] = some ((a, ()), (c', ())) ∧ CurOk code (k + 40) c' ∧ a.length ≤ 8 := by
    intro kk c hc hkk
    obtain ⟨a, c', g1, g2, g3⟩ := bits_loop (N := N) hco (o1 := f.1) (o2 := f.2) 7 0 N kk c [] (by omega) (by omega) hc (by omega) (by simp)
    exact ⟨a, c', g1, cur_mono g2 (by omega), g3⟩
  by_cases hg : goodF f
  · rw [decide_eq_true hg, br_t]
    obtain ⟨b, c2, f1, f2⟩ := one_ok (N := N) hco h (by omega) 6
    rw [f1, bind_some']
    simp only []
    cases b with
    | true =>
      simp only [Bool.not_true, br_f]
      exact other _ c2 f2 (by omega)
    | false =>
      simp only [Bool.not_false, br_t]
      rw [spec_sols_eq hNe hg hl hc, bind_some']
      simp only []
      rw [tLen_n]
      by_cases h0 : 0 < (solsL f).length
      · rw [ilt_t (by omega), br_t]
        obtain ⟨y, c3, g1, g2, g3, _, g5⟩ := pick_ok (N := N) hco f2 (by omega) ((solsL f).length : Int)
        rw [g1, bind_some']
        simp only []
        obtain ⟨n, rfl⟩ := Int.eq_ofNat_of_zero_le g3
        have hn : n < (solsL f).length := by have := g5 (by omega); omega
        have hr : (solsL f)[n].length ≤ 6 := by
          have h6 := hg.1
          have := (sols_ok (m := f.1.toNat) (by omega) (fun b => decide (solves b f.2))).2.1 _ (show (solsL f)[n] ∈ solsL f from List.getElem_mem hn)
          omega
        rw [inb_n hn, chk_t, rdL_n hn, l1Own_eq (by omega), bind_some']
        exact ⟨_, _, rfl, cur_mono g2 (by omega), by simp only []; omega⟩
      · rw [ilt_f (by omega), br_f]
        exact other _ c2 f2 (by omega)
  · rw [decide_eq_false hg, br_f]
    exact other k c h (by omega)
theorem apart_symm {a b : List Int} (h : a.length = b.length) : apartL a b = apartL b a := by
  unfold apartL
  rw [h]
  congr 1
  refine List.filter_congr fun i _ => decide_eq_decide.2 ⟨Ne.symm, Ne.symm⟩
theorem mem_apart {a b : List Int} {x : Int} : x ∈ apartL a b ↔ ∃ i : Nat, i < a.length ∧ rdI a (i : Int) ≠ rdI b (i : Int) ∧ x = (i : Int) := by
  unfold apartL
  rw [List.mem_map]
  constructor
  · rintro ⟨i, hi, rfl⟩
    obtain ⟨h1, h2⟩ := List.mem_filter.1 hi
    have := List.mem_range'_1.1 h1
    exact ⟨i, by omega, of_decide_eq_true h2, rfl⟩
  · rintro ⟨i, h1, h2, rfl⟩
    exact ⟨i, List.mem_filter.2 ⟨List.mem_range'_1.2 (by omega), decide_eq_true h2⟩, rfl⟩
theorem apart_nodup (a b : List Int) : (apartL a b).Nodup := by
  unfold apartL
  refine List.Pairwise.map (R := fun (i j : Nat) => i ≠ j) _ (fun i j h e => h (by omega)) ?_
  exact (List.nodup_range' (step := 1)).filter _
theorem rd_ext {a b : List Int} (h : a.length = b.length) (he : ∀ i : Nat, i < a.length → rdI a (i : Int) = rdI b (i : Int)) : a = b := by
  refine List.ext_getElem h fun i h1 h2 => ?_
  have := he i h1
  rwa [rdI_n h1, rdI_n h2] at this
theorem turn_one {a b : List Int} {m : Nat} (ha : a.length = m) (hb : b.length = m) (h1 : ∀ x ∈ a, x = 0 ∨ x = 1) (h2 : ∀ x ∈ b, x = 0 ∨ x = 1) (h : isCh a b = true) : ∃ v : Nat, v < m ∧ apartL a b = [(v : Int)] ∧ tSet a (v : Int) (1 - rdI a (v : Int)) = b := by
  obtain ⟨x, hx⟩ := List.length_eq_one_iff.1 (of_decide_eq_true h)
  obtain ⟨v, hv, hne, rfl⟩ := mem_apart.1 (show x ∈ apartL a b by rw [hx]; exact List.mem_singleton.2 rfl)
  have hs : ∀ w : Int, (tSet a (v : Int) w).length = a.length := fun w => by simp [tSet]
  refine ⟨v, by omega, hx, rd_ext (by rw [hs]; omega) fun i hi => ?_⟩
  rw [hs] at hi
  rw [rdI_set (by omega) _ (i : Int) (by omega)]
  by_cases e : (i : Int) = (v : Int)
  · rw [if_pos e, e]
    have hi2 : v < b.length := by omega
    have q1 := h1 _ (List.getElem_mem hv)
    have q2 := h2 _ (List.getElem_mem hi2)
    rw [← rdI_n hv] at q1
    rw [← rdI_n hi2] at q2
    omega
  · rw [if_neg e]
    refine Classical.byContradiction fun q => ?_
    have : (i : Int) ∈ apartL a b := mem_apart.2 ⟨i, hi, q, rfl⟩
    rw [hx, List.mem_singleton] at this
    exact e this
/-! ### The middle of three lists of bits -/
theorem step_near {xs : List (List Int)} {p : List Int → List Int → Bool} {x y : List Int} (hp : ∀ x ∈ xs, ∀ y ∈ xs, p x y = true → p y x = true) (hx : x ∈ xs) (hy : y ∈ xs) (hne : x ≠ y) (h : p x y = true) : ((xs.idxOf y : Nat) : Int) ∈ rdL (nbL xs.length (stepsL p xs)) ((xs.idxOf x : Nat) : Int) := by
  have i1 := idx_lt hx
  have i2 := idx_lt hy
  have r1 := idx_rd hx
  have r2 := idx_rd hy
  rw [nbL_rd (in_nat i1), mem_nbS stepsL_ok]
  have hni : xs.idxOf x ≠ xs.idxOf y := fun e => hne (by rw [← r1, ← r2, e])
  by_cases hlt : xs.idxOf x < xs.idxOf y
  · exact .inr (mem_stepsL.2 ⟨_, _, rfl, hlt, i2, by rw [r1, r2]; exact h⟩)
  · exact .inl (mem_stepsL.2 ⟨_, _, rfl, by omega, i1, by rw [r1, r2]; exact hp x hx y hy h⟩)
theorem near_step {xs : List (List Int)} {p : List Int → List Int → Bool} {u v : Int} (hp : ∀ x ∈ xs, ∀ y ∈ xs, p x y = true → p y x = true) (hu : InN xs.length u) (hv : v ∈ rdL (nbL xs.length (stepsL p xs)) u) : rdL xs u ∈ xs ∧ rdL xs v ∈ xs ∧ p (rdL xs u) (rdL xs v) = true ∧ InN xs.length v := by
  have hok := stepsL_ok (p := p) (xs := xs)
  rw [nbL_rd hu] at hv
  have hvn := nbS_in hok v hv
  obtain ⟨i, hi, rfl⟩ := nat_of hu
  obtain ⟨j, hj, rfl⟩ := nat_of hvn
  have m1 : rdL xs (i : Int) ∈ xs := by rw [rdL_n hi]; exact List.getElem_mem hi
  have m2 : rdL xs (j : Int) ∈ xs := by rw [rdL_n hj]; exact List.getElem_mem hj
  refine ⟨m1, m2, ?_, hvn⟩
  rcases (mem_nbS hok).1 hv with h | h
  · obtain ⟨i', j', e, _, _, hq⟩ := mem_stepsL.1 h
    have q1 : (j : Int) = (i' : Int) := congrArg Prod.fst e
    have q2 : (i : Int) = (j' : Int) := congrArg Prod.snd e
    rw [← q1, ← q2] at hq
    exact hp _ m2 _ m1 hq
  · obtain ⟨i', j', e, _, _, hq⟩ := mem_stepsL.1 h
    have q1 : (i : Int) = (i' : Int) := congrArg Prod.fst e
    have q2 : (j : Int) = (j' : Int) := congrArg Prod.snd e
    rw [← q1, ← q2] at hq
    exact hq
theorem isCh_symm {a b : List Int} (h : a.length = b.length) (hc : isCh a b = true) : isCh b a = true := by
  unfold isCh at *
  rw [apart_symm h.symm]
  exact hc
theorem rInts_l0_eq {R : Type} (N : Nat) (k0 : Bool → Option R) (k1 : Unit → Option R) (a b : List Int) (hx : a.length ≤ 1099511627776) (hl : a.length = b.length) : ∀ (d n : Nat) (K : Nat), n + d = a.length → d < K →
    laws_rInts_l0 N k0 k1 K a b n = if a.drop n = b.drop n then k1 () else k0 false := by
  intro d
  induction d with
  | zero =>
    intro n K hd hK
    obtain ⟨k, rfl⟩ := succ_of hK
    have hn : ¬ n < a.length := by omega
    simp only [laws_rInts_l0, ilt_lenf hn, br_f]
    rw [if_pos]
    rw [List.drop_of_length_le (by omega), List.drop_of_length_le (by omega)]
  | succ d ih =>
    intro n K hd hK
    obtain ⟨k, rfl⟩ := succ_of hK
    have hn : n < a.length := by omega
    have hnb : n < b.length := by omega
    simp only [laws_rInts_l0, ilt_len hn, inb_n hn, inb_n hnb, br_t, chk_t]
    rw [wrap_succ (by omega), rdI_n hn, rdI_n hnb, ih (n + 1) k (by omega) (by omega), drop_cons hn, drop_cons hnb]
    by_cases he : a[n] = b[n]
    · rw [ine_f he, br_f, he]
      simp only [List.cons.injEq, true_and]
    · rw [ine_t he, br_t, if_neg]
      intro h
      injection h with h _
      exact he h
theorem rInts_eq {N : Nat} {a b : List Int} (hx : a.length ≤ 1099511627776) (hN : a.length < N) : laws_rInts N a b = some ((decide (a = b), ()), ()) := by
  unfold laws_rInts
  simp only [tLen_n]
  by_cases hl : a.length = b.length
  · rw [ine_f (by omega), br_f]
    have := rInts_l0_eq N (fun x => some ((x, ()), ())) (fun _ => some ((true, ()), ())) a b hx hl a.length 0 N (by omega) (by omega)
    simp only [Int.natCast_zero, List.drop_zero] at this
    rw [this]
    by_cases h : a = b <;> simp [h]
  · rw [ine_t (by omega), br_t]
    have : a ≠ b := fun h => hl (by rw [h])
    simp [this]
noncomputable def classV (f : Int × List (List Int)) : (Bool × Bool × Bool) × Bool := if goodF f then (f.2.foldl classF (true, true, true), true) else ((false, false, false), false)
theorem mem_sols {f : Int × List (List Int)} (hg : goodF f) {x : List Int} : x ∈ solsL f ↔ (x.length = f.1.toNat ∧ (∀ z ∈ x, z = 0 ∨ z = 1)) ∧ solves x f.2 := by
  unfold solsL
  rw [List.mem_filter, decide_eq_true_eq]
  constructor
  · rintro ⟨h1, h2⟩
    exact ⟨⟨allB_row h1, allB_bits h1⟩, h2⟩
  · rintro ⟨⟨h1, h2⟩, h3⟩
    have := mem_allB h2 (by have := hg.1; omega)
    rw [h1] at this
    exact ⟨this, h3⟩
theorem sols_is {f : Int × List (List Int)} (hg : goodF f) {x : List Int} (h : x ∈ solsL f) : isSol f x := by
  obtain ⟨⟨h1, h2⟩, h3⟩ := (mem_sols hg).1 h
  refine ⟨⟨hg, ?_⟩, h3⟩
  rw [Bool.and_eq_true, decide_eq_true_eq, List.all_eq_true]
  exact ⟨fun z hz => decide_eq_true (by have := h2 z hz; omega), by have := hg.1; omega⟩
theorem flipI_rd {b : List Int} {v i : Nat} (hv : v < b.length) (hi : i < b.length) : rdI (flipI b v) (i : Int) = if i = v then 1 - rdI b (v : Int) else rdI b (i : Int) := by
  unfold flipI
  rw [rdI_n (by simpa using hi), List.getElem_set]
  by_cases e : v = i
  · rw [if_pos e, if_pos e.symm]
  · rw [if_neg e, if_neg (fun q => e q.symm), rdI_n hi]
inductive DnS (c : Int) (cs : List (List Int)) (a : List Int) : List Int → Prop
  | base : DnS c cs a a
  | step {b : List Int} {v : Nat} : DnS c cs a b → v < b.length → canFlip c b cs v → DnS c cs a (flipI b v)
def lmS (c : Int) (cs : List (List Int)) (r : List Int) : Prop := ∀ v : Nat, v < r.length → ¬ canFlip c r cs v
theorem dn_trans {c : Int} {cs : List (List Int)} {x y z : List Int} (h1 : DnS c cs x y) (h2 : DnS c cs y z) : DnS c cs x z := by
  induction h2 with
  | base => exact h1
  | step _ hv hf ih => exact .step ih hv hf
theorem dn_ok {c : Int} {cs : List (List Int)} {m : Nat} {a b : List Int} (ha : a.length = m ∧ (∀ z ∈ a, z = 0 ∨ z = 1)) (sa : solves a cs) (h : DnS c cs a b) : (b.length = m ∧ (∀ z ∈ b, z = 0 ∨ z = 1)) ∧ solves b cs := by
  induction h with
  | base => exact ⟨ha, sa⟩
  | @step b v _ hv hf ih =>
    obtain ⟨⟨h1, h2⟩, h3⟩ := ih
    refine ⟨⟨by rw [flipI_len]; exact h1, fun z hz => ?_⟩, hf.2⟩
    obtain ⟨i, hi, rfl⟩ := List.getElem_of_mem hz
    rw [flipI_len] at hi
    rw [← rdI_n (by rw [flipI_len]; exact hi), flipI_rd hv hi]
    have q1 := h2 _ (List.getElem_mem hv)
    have q2 := h2 _ (List.getElem_mem hi)
    rw [← rdI_n hv] at q1
    rw [← rdI_n hi] at q2
    split <;> omega
theorem dn_ex {c : Int} {cs : List (List Int)} : ∀ (M : Nat) (bits : List Int), bits.count c ≤ M → ∃ r, DnS c cs bits r ∧ lmS c cs r := by
  intro M
  induction M with
  | zero =>
    intro bits hM
    refine ⟨bits, .base, fun v hv hf => ?_⟩
    have := flip_count hv hf.1
    omega
  | succ M ih =>
    intro bits hM
    by_cases h : ∃ v : Nat, v < bits.length ∧ canFlip c bits cs v
    · obtain ⟨v, hv, hf⟩ := h
      have := flip_count hv hf.1
      obtain ⟨r, r1, r2⟩ := ih (flipI bits v) (by omega)
      exact ⟨r, dn_trans (.step .base hv hf) r1, r2⟩
    · exact ⟨bits, .base, fun v hv hf => h ⟨v, hv, hf⟩⟩
noncomputable def met (c : Int) (a l : List Int) : List Int := (List.range a.length).map fun i : Nat => if rdI a (i : Int) = c ∧ rdI l (i : Int) = c then c else 1 - c
theorem met_len (c : Int) (a l : List Int) : (met c a l).length = a.length := by simp [met]
theorem met_rd {c : Int} {a l : List Int} {i : Nat} (hi : i < a.length) : rdI (met c a l) (i : Int) = if rdI a (i : Int) = c ∧ rdI l (i : Int) = c then c else 1 - c := by
  rw [rdI_n (by rw [met_len]; exact hi)]
  simp [met]
def litC (c : Int) (x : Int) : Bool := if c = 1 then decide (0 < x) else decide (x < 0)
def hornC (c : Int) (cs : List (List Int)) : Prop := ∀ cl ∈ cs, (cl.filter (litC c)).length ≤ 1
theorem meets_c {c : Int} (hc : c = 0 ∨ c = 1) {m : Nat} {a : List Int} (ha : a.length = m) (ba : ∀ z ∈ a, z = 0 ∨ z = 1) {x : Int} (hx : x ≠ 0 ∧ -(m : Int) ≤ x ∧ x ≤ (m : Int)) :
    ∃ i : Nat, i < m ∧ (∀ b : List Int, b.length = m → (∀ z ∈ b, z = 0 ∨ z = 1) → (meets b x = true ↔ if litC c x = true then rdI b (i : Int) = c else rdI b (i : Int) = 1 - c)) := by
  by_cases h0 : 0 < x
  · refine ⟨(x - 1).toNat, by omega, fun b hb bb => ?_⟩
    unfold meets
    rw [if_pos h0, show x - 1 = (((x - 1).toNat : Nat) : Int) by omega, decide_eq_true_eq, Int.toNat_natCast]
    rcases hc with rfl | rfl
    · have e : litC 0 x = false := by unfold litC; rw [if_neg (by decide)]; exact decide_eq_false (by omega)
      rw [e, if_neg (by simp)]
      omega
    · have e : litC 1 x = true := by unfold litC; rw [if_pos rfl]; exact decide_eq_true h0
      rw [e, if_pos rfl]
  · refine ⟨(-1 - x).toNat, by omega, fun b hb bb => ?_⟩
    unfold meets
    rw [if_neg h0, show -1 - x = (((-1 - x).toNat : Nat) : Int) by omega, decide_eq_true_eq, Int.toNat_natCast]
    rcases hc with rfl | rfl
    · have e : litC 0 x = true := by unfold litC; rw [if_neg (by decide)]; exact decide_eq_true (by omega)
      rw [e, if_pos rfl]
    · have e : litC 1 x = false := by unfold litC; rw [if_pos rfl]; exact decide_eq_false h0
      rw [e, if_neg (by simp)]
      omega
theorem met_bits {c : Int} (hc : c = 0 ∨ c = 1) (a l : List Int) : ∀ z ∈ met c a l, z = 0 ∨ z = 1 := fun z hz => by
  obtain ⟨i, _, rfl⟩ := List.mem_map.1 hz
  split <;> omega
theorem met_solves {c : Int} (hc : c = 0 ∨ c = 1) {m : Nat} {a l : List Int} {cs : List (List Int)} (ha : a.length = m) (hl' : l.length = m) (ba : ∀ z ∈ a, z = 0 ∨ z = 1) (bl : ∀ z ∈ l, z = 0 ∨ z = 1) (hl : litsOk (m : Int) cs) (hh : hornC c cs) (sa : solves a cs) (sl : solves l cs) : solves (met c a l) cs := by
  intro cl hcl
  have s1 := List.any_eq_true.1 (sa cl hcl)
  have s2 := List.any_eq_true.1 (sl cl hcl)
  obtain ⟨p, p1, p2⟩ := s1
  obtain ⟨q, q1, q2⟩ := s2
  have hml : (met c a l).length = m := by rw [met_len, ha]
  obtain ⟨i, i1, i2⟩ := meets_c hc ha ba (hl cl hcl p p1)
  obtain ⟨j, j1, j2⟩ := meets_c hc ha ba (hl cl hcl q q1)
  have ip := (i2 a ha ba).1 p2
  have jq := (j2 l hl' bl).1 q2
  rw [List.any_eq_true]
  by_cases hp : litC c p = true
  · by_cases hq : litC c q = true
    · have e : p = q := by
        have m1 : p ∈ cl.filter (litC c) := List.mem_filter.2 ⟨p1, hp⟩
        have m2 : q ∈ cl.filter (litC c) := List.mem_filter.2 ⟨q1, hq⟩
        have hlen := hh cl hcl
        match hf : cl.filter (litC c), hlen with
        | [], _ => rw [hf] at m1; cases m1
        | [z], _ =>
          rw [hf, List.mem_singleton] at m1 m2
          rw [m1, m2]
        | _ :: _ :: _, hlen => simp at hlen
      subst e
      have jl := (i2 l hl' bl).1 q2
      rw [if_pos hp] at ip jl
      refine ⟨p, p1, (i2 _ hml (met_bits hc a l)).2 ?_⟩
      rw [if_pos hp, met_rd (by omega), if_pos ⟨ip, jl⟩]
    · rw [if_neg hq] at jq
      refine ⟨q, q1, (j2 _ hml (met_bits hc a l)).2 ?_⟩
      rw [if_neg hq, met_rd (by omega), if_neg (by omega)]
  · rw [if_neg hp] at ip
    refine ⟨p, p1, (i2 _ hml (met_bits hc a l)).2 ?_⟩
    rw [if_neg hp, met_rd (by omega), if_neg (by omega)]
def leC (c : Int) (m : Nat) (r b : List Int) : Prop := ∀ i : Nat, i < m → rdI r (i : Int) = c → rdI b (i : Int) = c
theorem dn_le {c : Int} (hc : c = 0 ∨ c = 1) {cs : List (List Int)} {m : Nat} {a b : List Int} (ha : a.length = m ∧ (∀ z ∈ a, z = 0 ∨ z = 1)) (sa : solves a cs) (h : DnS c cs a b) : leC c m b a := by
  induction h with
  | base => exact fun _ _ h => h
  | @step b v h1 hv hf ih =>
    obtain ⟨⟨hb, _⟩, _⟩ := dn_ok ha sa h1
    intro i hi h
    rw [flipI_rd hv (by omega)] at h
    split at h
    · have := hf.1; omega
    · exact ih i hi h
theorem low_le {c : Int} (hc : c = 0 ∨ c = 1) {cs : List (List Int)} {m : Nat} (hl : litsOk (m : Int) cs) (hh : hornC c cs) {a b r : List Int} (ha : a.length = m ∧ (∀ z ∈ a, z = 0 ∨ z = 1)) (sa : solves a cs) (h : DnS c cs a b) (hr : DnS c cs a r) (hm : lmS c cs r) : leC c m r b := by
  obtain ⟨⟨r1, r2⟩, r3⟩ := dn_ok ha sa hr
  induction h with
  | base => exact dn_le hc ha sa hr
  | @step b v h1 hv hf ih =>
    obtain ⟨⟨b1, b2⟩, b3⟩ := dn_ok ha sa h1
    obtain ⟨⟨f1, f2⟩, f3⟩ := dn_ok ha sa (.step h1 hv hf)
    intro i hi h
    rw [flipI_rd hv (by omega)]
    by_cases e : i = v
    · exfalso
      subst e
      refine hm i (by omega) ⟨h, ?_⟩
      have : flipI r i = met c (flipI b i) r := rd_ext (by rw [flipI_len, met_len, f1, r1]) fun j hj => by
        rw [flipI_len] at hj
        rw [flipI_rd (by omega) hj, met_rd (by rw [flipI_len]; omega), flipI_rd hv (by omega)]
        by_cases e : j = i
        · subst e
          have := hf.1
          rw [if_pos rfl, if_pos rfl, if_neg (by omega), h]
        · rw [if_neg e, if_neg e]
          have q := r2 _ (List.getElem_mem hj)
          rw [← rdI_n hj] at q
          by_cases q2 : rdI r (j : Int) = c
          · rw [if_pos ⟨ih j (by omega) q2, q2⟩, q2]
          · rw [if_neg (fun q3 => q2 q3.2)]
            omega
      rw [this]
      exact met_solves hc f1 r1 f2 r2 hl hh f3 r3
    · rw [if_neg e]
      exact ih i hi h
theorem low_uniq {c : Int} (hc : c = 0 ∨ c = 1) {cs : List (List Int)} {m : Nat} (hl : litsOk (m : Int) cs) (hh : hornC c cs) {a r s : List Int} (ha : a.length = m ∧ (∀ z ∈ a, z = 0 ∨ z = 1)) (sa : solves a cs) (hr : DnS c cs a r) (hm : lmS c cs r) (hs : DnS c cs a s) (hn : lmS c cs s) : r = s := by
  obtain ⟨⟨r1, r2⟩, _⟩ := dn_ok ha sa hr
  obtain ⟨⟨s1, s2⟩, _⟩ := dn_ok ha sa hs
  have l1 := low_le hc hl hh ha sa hs hr hm
  have l2 := low_le hc hl hh ha sa hr hs hn
  refine rd_ext (by omega) fun i hi => ?_
  have q1 := r2 _ (List.getElem_mem hi)
  have q2 := s2 _ (List.getElem_mem (show i < s.length by omega))
  rw [← rdI_n hi] at q1
  rw [← rdI_n (show i < s.length by omega)] at q2
  by_cases e : rdI r (i : Int) = c
  · rw [e, l1 i (by omega) e]
  · by_cases e2 : rdI s (i : Int) = c
    · exact absurd (l2 i (by omega) e2) e
    · omega
theorem dn_ch {c : Int} {cs : List (List Int)} {m : Nat} (hc : c = 0 ∨ c = 1) {a b : List Int} (ha : a.length = m ∧ (∀ z ∈ a, z = 0 ∨ z = 1)) (hb : b.length = m ∧ (∀ z ∈ b, z = 0 ∨ z = 1)) (sa : solves a cs) (sb : solves b cs) (h : isCh a b = true) : DnS c cs a b ∨ DnS c cs b a := by
  obtain ⟨v, hv, _, et⟩ := turn_one ha.1 hb.1 ha.2 hb.2 h
  have e1 : flipI a v = b := by rw [← et]; unfold flipI; rw [tSet_n]
  have qa := ha.2 _ (List.getElem_mem (show v < a.length by omega))
  rw [← rdI_n (show v < a.length by omega)] at qa
  by_cases q : rdI a (v : Int) = c
  · left
    rw [← e1]
    exact .step .base (by omega) ⟨q, by rw [e1]; exact sb⟩
  · right
    have e2 : flipI b v = a := rd_ext (by rw [flipI_len]; omega) fun i hi => by
      rw [flipI_len] at hi
      rw [flipI_rd (by omega) hi, ← e1, flipI_rd (by omega) (by omega), flipI_rd (by omega) (by omega), if_pos rfl]
      by_cases e : i = v
      · rw [if_pos e, e]; omega
      · rw [if_neg e, if_neg e]
    have hq : rdI b (v : Int) = c := by
      rw [← e1, flipI_rd (by omega) (by omega), if_pos rfl]
      omega
    have := DnS.step (c := c) (cs := cs) (a := b) (b := b) (v := v) .base (by omega) ⟨hq, by rw [e2]; exact sa⟩
    rwa [e2] at this
theorem ch_low {c : Int} {cs : List (List Int)} {m : Nat} (hc : c = 0 ∨ c = 1) (hl : litsOk (m : Int) cs) (hh : hornC c cs) {a b r s : List Int} (ha : a.length = m ∧ (∀ z ∈ a, z = 0 ∨ z = 1)) (hb : b.length = m ∧ (∀ z ∈ b, z = 0 ∨ z = 1)) (sa : solves a cs) (sb : solves b cs) (h : isCh a b = true)
    (hr : DnS c cs a r) (hm : lmS c cs r) (hs : DnS c cs b s) (hn : lmS c cs s) : r = s := by
  rcases dn_ch hc ha hb sa sb h with q | q
  · exact low_uniq hc hl hh ha sa hr hm (dn_trans q hs) hn
  · exact low_uniq hc hl hh hb sb (dn_trans q hr) hm hs hn
theorem flip_ch {c : Int} (hc : c = 0 ∨ c = 1) {b : List Int} {v : Nat} (hv : v < b.length) (h : rdI b (v : Int) = c) : isCh b (flipI b v) = true ∧ b ≠ flipI b v := by
  have hne : rdI b (v : Int) ≠ rdI (flipI b v) (v : Int) := by rw [flipI_rd hv hv, if_pos rfl]; omega
  have hp : (apartL b (flipI b v)).Perm [(v : Int)] := (List.perm_ext_iff_of_nodup (apart_nodup ..) (by simp)).2 fun z => by
    rw [mem_apart, List.mem_singleton]
    constructor
    · rintro ⟨i, h1, h3, rfl⟩
      rw [flipI_rd hv h1] at h3
      by_cases q1 : i = v
      · rw [q1]
      · rw [if_neg q1] at h3; exact absurd rfl h3
    · rintro rfl
      exact ⟨v, hv, hne, rfl⟩
  refine ⟨decide_eq_true (by simpa using hp.length_eq), fun e => hne (by rw [← e])⟩
theorem dn_wk {c : Int} (hc : c = 0 ∨ c = 1) {xs cs : List (List Int)} {m : Nat} (hx : ∀ x, x ∈ xs ↔ (x.length = m ∧ (∀ z ∈ x, z = 0 ∨ z = 1)) ∧ solves x cs) {a b : List Int} (ha : a ∈ xs) (h : DnS c cs a b) :
    b ∈ xs ∧ Wk (nbL xs.length (stepsL isCh xs)) ((xs.idxOf a : Nat) : Int) ((xs.idxOf b : Nat) : Int) ∧ Wk (nbL xs.length (stepsL isCh xs)) ((xs.idxOf b : Nat) : Int) ((xs.idxOf a : Nat) : Int) := by
  have hp : ∀ x ∈ xs, ∀ y ∈ xs, isCh x y = true → isCh y x = true := fun x hx' y hy h => isCh_symm (by rw [((hx x).1 hx').1.1, ((hx y).1 hy).1.1]) h
  obtain ⟨a1, a2⟩ := (hx a).1 ha
  induction h with
  | base => exact ⟨ha, .base, .base⟩
  | @step b v h1 hv hf ih =>
    obtain ⟨i1, i2, i3⟩ := ih
    have hm := (hx _).2 (dn_ok a1 a2 (.step h1 hv hf))
    obtain ⟨c1, c2⟩ := flip_ch hc hv hf.1
    exact ⟨hm, .step i2 (step_near hp i1 hm c2 c1), Wk_trans (.step .base (step_near hp hm i1 (fun e => c2 e.symm) (hp _ i1 _ hm c1))) i3⟩
theorem horn_way {c : Int} (hc : c = 0 ∨ c = 1) {xs cs : List (List Int)} {m : Nat} (hn : xs.length ≤ 1048576) (hl : litsOk (m : Int) cs) (hh : hornC c cs) (hx : ∀ x, x ∈ xs ↔ (x.length = m ∧ (∀ z ∈ x, z = 0 ∨ z = 1)) ∧ solves x cs) {a b r s : List Int} (ha : a ∈ xs) (hb : b ∈ xs)
    (hr : DnS c cs a r) (hm : lmS c cs r) (hs : DnS c cs b s) (hsm : lmS c cs s) : Wk (nbL xs.length (stepsL isCh xs)) ((xs.idxOf b : Nat) : Int) ((xs.idxOf a : Nat) : Int) ↔ r = s := by
  have hp : ∀ x ∈ xs, ∀ y ∈ xs, isCh x y = true → isCh y x = true := fun x hx' y hy h => isCh_symm (by rw [((hx x).1 hx').1.1, ((hx y).1 hy).1.1]) h
  constructor
  · intro hw
    have key : InN xs.length ((xs.idxOf a : Nat) : Int) ∧ ∀ y : Int, Wk (nbL xs.length (stepsL isCh xs)) ((xs.idxOf b : Nat) : Int) y → InN xs.length y ∧ rdL xs y ∈ xs ∧ ∀ q, DnS c cs (rdL xs y) q → lmS c cs q → q = s := by
      refine ⟨in_nat (idx_lt ha), fun y hy => ?_⟩
      induction hy with
      | base =>
        rw [idx_rd hb]
        refine ⟨in_nat (idx_lt hb), hb, fun q q1 q2 => ?_⟩
        obtain ⟨b1, b2⟩ := (hx b).1 hb
        exact low_uniq hc hl hh b1 b2 q1 q2 hs hsm
      | @step y z _ hz ih =>
        obtain ⟨i1, i2, i3⟩ := ih
        obtain ⟨n1, n2, n3, n4⟩ := near_step hp i1 hz
        obtain ⟨y1, y2⟩ := (hx _).1 n1
        obtain ⟨z1, z2⟩ := (hx _).1 n2
        refine ⟨n4, n2, fun q q1 q2 => ?_⟩
        obtain ⟨t, t1, t2⟩ := dn_ex (c := c) (cs := cs) ((rdL xs y).count c) (rdL xs y) (Nat.le_refl _)
        rw [← i3 t t1 t2]
        exact (ch_low hc hl hh y1 z1 y2 z2 n3 t1 t2 q1 q2).symm
    have := (key.2 _ hw).2.2 r
    rw [idx_rd ha] at this
    exact this hr hm
  · rintro rfl
    obtain ⟨_, a2, a3⟩ := dn_wk hc hx ha hr
    obtain ⟨_, b2, b3⟩ := dn_wk hc hx hb hs
    exact Wk_trans b2 a3
theorem down_exP {N : Nat} {number : Int} {cs : List (List Int)} {m : Nat} (hm : m ≤ 6) (hl : cs.length ≤ 1048576) (hc : ∀ c ∈ cs, c.length ≤ 1048576) (h4 : litsOk (m : Int) cs) (hN : 1048577 ≤ N) : ∀ (M : Nat) (bits : List Int), bits.count number ≤ M → bits.length = m → bits.all isBit = true →
    ∃ r : List Int, (r.length = m ∧ DnS number cs bits r ∧ lmS number cs r) ∧ (∀ (R : Type) (k0 : List Int → Option R) (K : Nat), M < K → spec_l6Down_l0 N k0 K number (m : Int) cs bits = k0 r) ∧ (∀ (R : Type) (k0 : List Int → Option R) (K : Nat), 7 * M + 7 ≤ K → impl_farthest_l0 N k0 K number 0 (m : Int) cs bits = k0 r) := by
  intro M
  induction M with
  | zero =>
    intro bits hM hl' h1
    subst hl'
    obtain ⟨v, v1, v2, v3⟩ := exists_first (canFlip number bits cs) bits.length
    have hv : ¬ v < bits.length := fun h => by
      have := flip_count h (v3 h).1
      omega
    have e : v = bits.length := by omega
    refine ⟨bits, ⟨rfl, .base, fun i hi => v2 i (by omega)⟩, fun R k0 K hK => ?_, fun R k0 K hK => ?_⟩
    · obtain ⟨k, rfl⟩ := succ_of hK
      simp only [spec_l6Down_l0]
      rw [Down_in_eq _ hl hc hm h1 h4 hN v1 v2 v3, ieq_t (by omega), br_t]
    · obtain ⟨k, rfl⟩ : ∃ k, K = k + v + 1 := ⟨K - v - 1, by omega⟩
      rw [farthest_in_eq k0 hl hc hm h1 h4 hN v1 v2 v3, if_neg hv]
  | succ M ih =>
    intro bits hM hl' h1
    subst hl'
    obtain ⟨v, v1, v2, v3⟩ := exists_first (canFlip number bits cs) bits.length
    by_cases hv : v < bits.length
    · have hcnt := flip_count hv (v3 hv).1
      obtain ⟨r, r1, r2, r3⟩ := ih (flipI bits v) (by omega) (flipI_len bits v) (flipI_bits h1 v)
      refine ⟨r, ⟨r1.1, dn_trans (.step .base hv (v3 hv)) r1.2.1, r1.2.2⟩, fun R k0 K hK => ?_, fun R k0 K hK => ?_⟩
      · obtain ⟨k, rfl⟩ := succ_of hK
        simp only [spec_l6Down_l0]
        rw [Down_in_eq _ hl hc hm h1 h4 hN v1 v2 v3, ieq_f (by omega), br_f, l6Flip_eq (by omega) h1 hv]
        simp only [bind_some']
        exact r2 R k0 k (by omega)
      · obtain ⟨k, rfl⟩ : ∃ k, K = k + v + 1 := ⟨K - v - 1, by omega⟩
        rw [farthest_in_eq k0 hl hc hm h1 h4 hN v1 v2 v3, if_pos hv]
        exact r3 R k0 k (by omega)
    · have e : v = bits.length := by omega
      refine ⟨bits, ⟨rfl, .base, fun i hi => v2 i (by omega)⟩, fun R k0 K hK => ?_, fun R k0 K hK => ?_⟩
      · obtain ⟨k, rfl⟩ := succ_of hK
        simp only [spec_l6Down_l0]
        rw [Down_in_eq _ hl hc hm h1 h4 hN v1 v2 v3, ieq_t (by omega), br_t]
      · obtain ⟨k, rfl⟩ : ∃ k, K = k + v + 1 := ⟨K - v - 1, by omega⟩
        rw [farthest_in_eq k0 hl hc hm h1 h4 hN v1 v2 v3, if_neg hv]
theorem down_eqP {N : Nat} {f : Int × List (List Int)} {bits : List Int} (number : Int) (hl : f.2.length ≤ 1048576) (hc : ∀ c ∈ f.2, c.length ≤ 1048576) (hb : bits.length ≤ 1048576) (hN : 1048577 ≤ N) : ∃ r : List Int × Bool, (r.1.length ≤ 6 ∧ r.2 = decide (isSol f bits) ∧ (isSol f bits → DnS number f.2 bits r.1 ∧ lmS number f.2 r.1)) ∧
    impl_farthest N f bits number = some ((r.1, r.2, ()), ()) ∧ ((spec_l6Two N f bits bits).bind fun q => (br (!q.1.1) (some (([], false, ()), ())) ((spec_l6Down N f bits number).bind fun r1 => some ((r1.1.1, true, ()), ())))) = some ((r.1, r.2, ()), ()) := by
  unfold impl_farthest
  simp only [impl_isSolution_eq hl hc hb hN, l6Two_eq hl hc hb hN, bind_some']
  by_cases hg : isSol f bits
  · obtain ⟨h1, h2, h3, h4⟩ := isSol_facts hg
    obtain ⟨m, cs⟩ := f
    simp only at hl hc h2 h4 ⊢
    subst h2
    obtain ⟨r, r1, r2, r3⟩ := down_exP (N := N) (number := number) h3 hl hc h4 hN bits.length bits (List.count_le_length ..) rfl h1
    refine ⟨(r, true), ⟨by simp only; omega, (decide_eq_true hg).symm, fun _ => r1.2⟩, ?_, ?_⟩
    · rw [decide_eq_true hg, Bool.not_true, br_f, Clone_eq hb]
      exact r3 _ _ N (by omega)
    · rw [decide_eq_true hg, Bool.not_true, br_f]
      unfold spec_l6Down
      simp only [l1Own_eq hb, bind_some']
      rw [r2 _ (fun o => some ((o, ()), ())) N (by omega)]
      rfl
  · refine ⟨([], false), ⟨Nat.zero_le _, (decide_eq_false hg).symm, fun q => absurd q hg⟩, ?_, ?_⟩
    · rw [decide_eq_false hg, Bool.not_false, br_t]
    · rw [decide_eq_false hg, Bool.not_false, br_t]
theorem cnt_pos (c : List Int) : cntI c = ((c.filter (litC 1)).length : Int) := by
  have key : ∀ (c : List Int) (u : Int), c.foldl (fun u x => if 0 < x then u + 1 else u) u = u + ((c.filter (litC 1)).length : Int) := by
    intro c
    induction c with
    | nil => intro u; simp
    | cons x c ih =>
      intro u
      rw [List.foldl_cons, ih]
      by_cases h : 0 < x
      · rw [if_pos h, List.filter_cons_of_pos (by unfold litC; rw [if_pos rfl]; exact decide_eq_true h), List.length_cons]
        omega
      · rw [if_neg h, List.filter_cons_of_neg (by unfold litC; rw [if_pos rfl]; simpa using h)]
  have := key c 0
  unfold cntI
  omega
theorem cnt_neg (c : List Int) : ((c.filter (litC 0)).length : Int) ≤ (c.length : Int) - cntI c := by
  rw [cnt_pos]
  induction c with
  | nil => simp
  | cons x c ih =>
    by_cases h : 0 < x
    · rw [List.filter_cons_of_pos (p := litC 1) (by unfold litC; rw [if_pos rfl]; exact decide_eq_true h), List.filter_cons_of_neg (p := litC 0) (by unfold litC; rw [if_neg (by decide)]; simp; omega), List.length_cons, List.length_cons]
      omega
    · rw [List.filter_cons_of_neg (p := litC 1) (by unfold litC; rw [if_pos rfl]; simpa using h)]
      have : ((x :: c).filter (litC 0)).length ≤ (c.filter (litC 0)).length + 1 := by
        rw [List.filter_cons]
        split <;> simp
      rw [List.length_cons]
      omega
theorem fold_horn : ∀ (cs : List (List Int)) (t : Bool × Bool × Bool), ((cs.foldl classF t).2.1 = true → t.2.1 = true ∧ hornC 1 cs) ∧ ((cs.foldl classF t).2.2 = true → t.2.2 = true ∧ hornC 0 cs) := by
  intro cs
  induction cs with
  | nil => intro t; exact ⟨fun h => ⟨h, fun _ q => by cases q⟩, fun h => ⟨h, fun _ q => by cases q⟩⟩
  | cons c cs ih =>
    intro t
    obtain ⟨i1, i2⟩ := ih (classF t c)
    constructor
    · intro h
      obtain ⟨h1, h2⟩ := i1 h
      simp only [classF, Bool.and_eq_true, decide_eq_true_eq] at h1
      refine ⟨h1.1, fun x hx => ?_⟩
      rcases List.mem_cons.1 hx with rfl | hx
      · have := cnt_pos x
        omega
      · exact h2 x hx
    · intro h
      obtain ⟨h1, h2⟩ := i2 h
      simp only [classF, Bool.and_eq_true, decide_eq_true_eq] at h1
      refine ⟨h1.1, fun x hx => ?_⟩
      rcases List.mem_cons.1 hx with rfl | hx
      · have := cnt_neg x
        omega
      · exact h2 x hx
theorem way_low {f : Int × List (List Int)} {c : Int} (hc : c = 0 ∨ c = 1) (hh : hornC c f.2) {a b r s : List Int} (ha : isSol f a) (hb : isSol f b) (hr : DnS c f.2 a r) (hm : lmS c f.2 r) (hs : DnS c f.2 b s) (hsm : lmS c f.2 s) : fwayS f a b ≠ [] ↔ r = s := by
  have hg := ha.1.1
  have h6 : f.1.toNat ≤ 6 := by have := hg.1; omega
  obtain ⟨s1, s2, s3, s4⟩ := sols_ok h6 (fun b => decide (solves b f.2))
  have s3 : (solsL f).length ≤ 64 := s3
  have hlit : litsOk ((f.1.toNat : Nat) : Int) f.2 := by
    have := goodF_lits hg
    rwa [show ((f.1.toNat : Nat) : Int) = f.1 by have := hg.1; omega]
  exact (way_some (by omega) stepsL_ok (sol_mem ha) (sol_mem hb)).trans (horn_way hc (by omega) hlit hh (fun x => mem_sols hg) (sol_mem ha) (sol_mem hb) hr hm hs hsm)
theorem way_dn {f : Int × List (List Int)} {c : Int} (hc : c = 0 ∨ c = 1) {a r : List Int} (ha : isSol f a) (hr : DnS c f.2 a r) : isSol f r ∧ fwayS f a r ≠ [] := by
  have hg := ha.1.1
  have h6 : f.1.toNat ≤ 6 := by have := hg.1; omega
  obtain ⟨s1, s2, s3, s4⟩ := sols_ok h6 (fun b => decide (solves b f.2))
  have s3 : (solsL f).length ≤ 64 := s3
  obtain ⟨m1, m2, m3⟩ := dn_wk hc (fun x => mem_sols hg) (sol_mem ha) hr
  exact ⟨sols_is hg m1, (way_some (by omega) stepsL_ok (sol_mem ha) m1).2 m3⟩
theorem DrawFD_ok {N : Nat} (hNe : N = 1048577) {code : List Int} (hco : codeOk code) : ∃ (f : Int × List (List Int)) (a b : List Int), spec_DrawFlipDistance N code = some (((f.1, f.2), a, b, ()), ()) ∧ listsOk 200 8 f.2 ∧ a.length ≤ 8 ∧ b.length ≤ 8 := by
  have hN : 1048577 ≤ N := by omega
  unfold spec_DrawFlipDistance
  obtain ⟨f, c1, a1, a2, a3⟩ := formula_ok (N := N) hco hN cur0 (by omega)
  rw [a1, bind_some']
  simp only [show ((f.1, f.2) : Int × List (List Int)) = f from rfl, show ((c1.1, (c1.2.1, c1.2.2)) : List Int × (Int × Int)) = c1 from rfl]
  obtain ⟨a, c2, b1, b2, b3⟩ := bits_ok hNe (f := f) hco a2 (by omega) a3
  rw [b1, bind_some']
  simp only []
  obtain ⟨b, c3, d1, d2, d3⟩ := bits_ok hNe (f := f) hco b2 (by omega) a3
  rw [d1, bind_some']
  exact ⟨f, a, b, rfl, a3, b3, d3⟩
theorem low_both {N : Nat} {f : Int × List (List Int)} {bits : List Int} (hl : f.2.length ≤ 1048576) (hc : ∀ c ∈ f.2, c.length ≤ 1048576) (hb : bits.length ≤ 1048576) (hN : 1048577 ≤ N) : ∃ r : List Int, r.length ≤ 6 ∧ (isSol f bits → DnS 1 f.2 bits r ∧ lmS 1 f.2 r) ∧
    spec_LowestOf N f bits = some ((r, decide (isSol f bits), ()), ()) ∧ impl_LowestOf N f bits = some ((r, decide (isSol f bits), ()), ()) := by
  obtain ⟨q, ⟨h1, h2, h3⟩, e1, e2⟩ := down_eqP (N := N) (f := f) (bits := bits) 1 hl hc hb hN
  rw [h2] at e1 e2
  refine ⟨q.1, h1, h3, e2, ?_⟩
  unfold impl_LowestOf
  simp only [show ((f.1, f.2) : Int × List (List Int)) = f from rfl, e1, bind_some']
theorem high_both {N : Nat} {f : Int × List (List Int)} {bits : List Int} (hl : f.2.length ≤ 1048576) (hc : ∀ c ∈ f.2, c.length ≤ 1048576) (hb : bits.length ≤ 1048576) (hN : 1048577 ≤ N) : ∃ r : List Int, r.length ≤ 6 ∧ (isSol f bits → DnS 0 f.2 bits r ∧ lmS 0 f.2 r) ∧
    spec_HighestOf N f bits = some ((r, decide (isSol f bits), ()), ()) ∧ impl_HighestOf N f bits = some ((r, decide (isSol f bits), ()), ()) := by
  obtain ⟨q, ⟨h1, h2, h3⟩, e1, e2⟩ := down_eqP (N := N) (f := f) (bits := bits) 0 hl hc hb hN
  rw [h2] at e1 e2
  refine ⟨q.1, h1, h3, e2, ?_⟩
  unfold impl_HighestOf
  simp only [show ((f.1, f.2) : Int × List (List Int)) = f from rfl, e1, bind_some']
theorem flipR_ok (f : Int × List (List Int)) (bits : List Int) : (flipR f bits).2 = decide (isSol f bits) := by
  unfold flipR
  by_cases h : isSol f bits
  · rw [if_pos h, decide_eq_true h]
  · rw [if_neg h, decide_eq_false h]
theorem fdist_impl {N : Nat} (hNe : N = 1048577) {f : Int × List (List Int)} {a b : List Int} (hl : f.2.length ≤ 1048576) (hc : ∀ c ∈ f.2, c.length ≤ 1048576) (ha : a.length ≤ 1048576) (hb : b.length ≤ 1048576) : impl_FlipDistance N f a b = some (((fdistV f a b).1, (fdistV f a b).2, ()), ()) := by
  unfold impl_FlipDistance
  simp only [show ((f.1, f.2) : Int × List (List Int)) = f from rfl]
  rw [impl_FlipWay_eq hNe hl hc ha hb, bind_some']
  rfl
theorem Class_one {N : Nat} {f : Int × List (List Int)} (hl : f.2.length ≤ 1048576) (hc : ∀ c ∈ f.2, c.length ≤ 1048576) (hN : 1048577 ≤ N) :
    impl_ClassOf N f = some (((classV f).1.1, (classV f).1.2.1, (classV f).1.2.2, (classV f).2, ()), ()) := by
  unfold impl_ClassOf classV
  simp only [show ((f.1, f.2) : Int × List (List Int)) = f from rfl]
  rw [impl_IsFormula_eq hl hc hN, bind_some']
  by_cases hg : goodF f
  · rw [decide_eq_true hg, if_pos hg]
    simp only [Bool.not_true, br_f]
    rw [tLen_n, impl_ClassOf_l0_eq hl hc hN]
  · rw [decide_eq_false hg, if_neg hg]
    rfl
theorem Horn_pure {N : Nat} (hNe : N = 1048577) {code : List Int} (hw : ∀ y ∈ code, (Lit.int .u8 y).wf = true) : laws_FnHorn N code = some ((true, ()), ()) := by
  have hN : 1048577 ≤ N := by omega
  unfold laws_FnHorn laws_rBig
  rw [bind_some']
  simp only []
  rw [tLen_n]
  by_cases hb : 65536 < code.length
  · rw [ilt_t (by omega), br_t]
  · rw [ilt_f (by omega), br_f]
    have hco := code_ok hw (by omega)
    obtain ⟨f, a, b, d1, d2, d3, d4⟩ := DrawFD_ok hNe hco
    have hl : f.2.length ≤ 1048576 := by have := d2.1; omega
    have hc : ∀ c ∈ f.2, c.length ≤ 1048576 := fun x hx => by have := d2.2 x hx; omega
    have w3 := spec_FlipDistance_eq hNe hl hc (show a.length ≤ 1048576 by omega) (show b.length ≤ 1048576 by omega)
    have w4 := fdist_impl hNe hl hc (show a.length ≤ 1048576 by omega) (show b.length ≤ 1048576 by omega)
    obtain ⟨la, la1, la2, la3, la4⟩ := low_both (bits := a) hl hc (by omega) hN
    obtain ⟨lb, lb1, lb2, lb3, lb4⟩ := low_both (bits := b) hl hc (by omega) hN
    obtain ⟨ta, ta1, ta2, ta3, ta4⟩ := high_both (bits := a) hl hc (by omega) hN
    obtain ⟨tb, tb1, tb2, tb3, tb4⟩ := high_both (bits := b) hl hc (by omega) hN
    have q2 := Class_one hl hc hN
    have fl1 := spec_FlippableVars_eq (bits := a) hl hc (by omega) hN
    have fl2 := impl_FlippableVars_eq (bits := a) hl hc (by omega) hN
    rw [flipR_ok] at fl1 fl2
    have ri : ∀ x y : List Int, x.length ≤ 8 → laws_rInts N x y = some ((decide (x = y), ()), ()) := fun x y hx => rInts_eq (by omega) (by omega)
    have hfl := flipR_len f a
    have e1 := ri la lb (by omega)
    have e2 := ri ta tb (by omega)
    have s1 := ri la la (by omega)
    have s2 := ri lb lb (by omega)
    have s3 := ri ta ta (by omega)
    have s4 := ri tb tb (by omega)
    have s5 := ri (flipR f a).1 (flipR f a).1 (by omega)
    rw [decide_eq_true rfl] at s1 s2 s3 s4 s5
    simp only [d1, w3, w4, la3, la4, lb3, lb4, ta3, ta4, tb3, tb4, fl1, fl2, q2, s1, s2, s3, s4, s5, bind_some', show ((f.1, f.2) : Int × List (List Int)) = f from rfl, beq_self_eq_true, Bool.not_true, br_f]
    by_cases ha : isSol f a
    · by_cases hbs : isSol f b
      · have hg := ha.1.1
        have hv : fwayV f a b = (diffsL (fwayS f a b), decide (fwayS f a b ≠ [])) := by unfold fwayV; rw [if_pos ⟨ha, hbs⟩]
        have ho : (fdistV f a b).2 = decide (fwayS f a b ≠ []) := by unfold fdistV; rw [hv]
        obtain ⟨a1, a2⟩ := la2 ha
        obtain ⟨b1, b2⟩ := lb2 hbs
        obtain ⟨c1, c2⟩ := ta2 ha
        obtain ⟨g1, g2⟩ := tb2 hbs
        obtain ⟨m1, m2⟩ := way_dn (.inr rfl) ha a1
        obtain ⟨m3, m4⟩ := way_dn (.inl rfl) ha c1
        have cv : classV f = (f.2.foldl classF (true, true, true), true) := by unfold classV; rw [if_pos hg]
        obtain ⟨h1, h2⟩ := fold_horn f.2 (true, true, true)
        have z1 := fdist_impl hNe hl hc (show a.length ≤ 1048576 by omega) (show la.length ≤ 1048576 by omega)
        have z2 := fdist_impl hNe hl hc (show a.length ≤ 1048576 by omega) (show ta.length ≤ 1048576 by omega)
        have o1 : (fdistV f a la).2 = true := by unfold fdistV fwayV; rw [if_pos ⟨ha, m1⟩, decide_eq_true m2]
        have o2 : (fdistV f a ta).2 = true := by unfold fdistV fwayV; rw [if_pos ⟨ha, m3⟩, decide_eq_true m4]
        rw [o1] at z1
        rw [o2] at z2
        have k1 : (f.2.foldl classF (true, true, true)).2.1 = true → (decide (fwayS f a b ≠ []) == decide (la = lb)) = true := fun h => by
          rw [decide_eq_decide.2 (way_low (.inr rfl) (h1 h).2 ha hbs a1 a2 b1 b2)]
          exact beq_self_eq_true _
        have k2 : (f.2.foldl classF (true, true, true)).2.2 = true → (decide (fwayS f a b ≠ []) == decide (ta = tb)) = true := fun h => by
          rw [decide_eq_decide.2 (way_low (.inl rfl) (h2 h).2 ha hbs c1 c2 g1 g2)]
          exact beq_self_eq_true _
        simp only [decide_eq_true ha, decide_eq_true hbs, ho, cv, z1, z2, e1, e2, bind_some', Bool.not_true, br_f, br_t]
        cases p1 : (f.2.foldl classF (true, true, true)).2.1 with
        | false =>
          cases p2 : (f.2.foldl classF (true, true, true)).2.2 with
          | false => rfl
          | true =>
            rw [br_f, br_t, k2 p2]
            rfl
        | true =>
          rw [br_t, k1 p1]
          cases p2 : (f.2.foldl classF (true, true, true)).2.2 with
          | false => rfl
          | true =>
            rw [br_t, k2 p2]
            rfl
      · have hv : fwayV f a b = ([], false) := by unfold fwayV; rw [if_neg (fun q => hbs q.2)]
        have ho : (fdistV f a b).2 = false := by unfold fdistV; rw [hv]
        simp only [decide_eq_true ha, decide_eq_false hbs, ho, Bool.not_true, Bool.not_false, br_f, br_t]
    · have hv : fwayV f a b = ([], false) := by unfold fwayV; rw [if_neg (fun q => ha q.1)]
      have ho : (fdistV f a b).2 = false := by unfold fdistV; rw [hv]
      simp only [decide_eq_false ha, ho, Bool.not_false, br_t]
theorem Horn_pureT : ∀ x : argsT (psOf [LU8]), WfA [LU8] x → ∃ k m, (laws_FnHorn_S k).f x = some ((true, ()), m) :=
  fun x h => ⟨1048577, (), Horn_pure rfl h.1.2⟩
end Go.Proofs.YtaodifjegdpifaaGreat
