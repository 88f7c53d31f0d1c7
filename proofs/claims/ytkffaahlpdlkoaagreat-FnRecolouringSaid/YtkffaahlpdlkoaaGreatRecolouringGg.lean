/- Statements on data alone. -/
import Derived.Test.YtkffaahlpdlkoaaGreatPvPure
import Derived.Test.YtkffaahlpdlkoaaGreatRecolouringGf
set_option linter.all false
set_option linter.all false
namespace Go.Proofs.YtkffaahlpdlkoaaGreat
open Go Go.PV Classical
theorem dren_loop {R : Type} {N : Nat} {code : List Int} (hco : codeOk code) {k : Int} {o o2 : Int} {o3 : List (Int × Int)} {k0 : Int → Int → List Int × (Int × Int) → Int → List (Int × Int) → List Int → Option R} (hk : k ≤ 6) :
    ∀ (d n K kk : Nat) (c : List Int × (Int × Int)) (to : List Int), n + d = 6 → d + 1 < K → CurOk code kk c → kk + 2 * d ≤ 900000 → to.length = n → ∃ (c' : List Int × (Int × Int)) (to' : List Int), Zq76_l0 N k0 K k (n : Int) o c o2 o3 to = k0 k o c' o2 o3 to' ∧ CurOk code (kk + 2 * d) c' ∧ to'.length ≤ 6 := by
  intro d
  induction d with
  | zero =>
    intro n K kk c to hd hK hc hkk hl
    obtain ⟨K, rfl⟩ := succ_of (show 0 < K by omega)
    simp only [Zq76_l0]
    rw [ilt_f (by omega), br_f]
    exact ⟨c, to, rfl, hc, by omega⟩
  | succ d ih =>
    intro n K kk c to hd hK hc hkk hl
    obtain ⟨K, rfl⟩ := succ_of (show 0 < K by omega)
    simp only [Zq76_l0]
    by_cases h : (n : Int) < k
    · obtain ⟨x, c', p1, p2, p3, p4, p5⟩ := pick_ok (N := N) hco hc (by omega) (IntKind.i64.wrap ((tLen to) + 1))
      rw [tLen_n, wrap_succ (by omega)] at p1 p5
      have p5 := p5 (by omega)
      obtain ⟨i, rfl⟩ : ∃ i : Nat, x = (i : Int) := ⟨x.toNat, by omega⟩
      have e1 : (tCut to 0 (i : Int)).length ≤ i := by simp [tCut]; omega
      have e2 : (tCut to 0 (i : Int)).length + (tCut to (i : Int) (to.length : Int)).length = to.length := by simp [tCut]; omega
      rw [ilt_t h, br_t, ilt_t (by omega), br_t, tLen_n, wrap_succ (by omega), p1, bind_some']
      simp only []
      rw [ile_t (Int.le_refl 0), ile_t (by omega), ile_t (by omega), ile_t (Int.le_refl _)]
      simp only [Bool.and_self, chk_t]
      rw [l1Own_eq (by omega), bind_some']
      simp only []
      rw [room_ok (by simp; omega), chk_t, room_ok (by rw [tApp_d]; simp; omega), chk_t, wrap_succ (by omega)]
      obtain ⟨c2, to', t1, t2, t3⟩ := ih (n + 1) K (kk + 2) c' _ (by omega) (by omega) p2 (by omega) (show (tApp (tApp (tCut to 0 (i : Int)) [(n : Int)]) (tCut to (i : Int) (to.length : Int))).length = n + 1 by rw [tApp_d, tApp_d]; simp; omega)
      exact ⟨c2, to', t1, cur_mono t2 (by omega), t3⟩
    · rw [ilt_f h, br_f]
      exact ⟨c, to, rfl, cur_mono hc (by omega), by omega⟩
theorem DrawRen_ok {N : Nat} {code : List Int} (hco : codeOk code) (hN : 1048577 ≤ N) : ∃ (g : Int × List (Int × Int)) (k : Int) (a to : List Int), Zq76 N code = some (((g.1, g.2), k, a, to, ()), ()) ∧ g.2.length ≤ 110 ∧ a.length ≤ 10 ∧ to.length ≤ 7 := by
  unfold Zq76
  obtain ⟨g, c1, a1, a2, a3⟩ := dense5_ok (N := N) hco hN cur0 (by omega)
  rw [a1, bind_some']
  simp only []
  obtain ⟨k, c2, b1, b2, b3, b4⟩ := many5_ok (N := N) hco a2 (by omega)
  rw [b1, bind_some']
  simp only []
  have fin : ∀ (c3 : List Int × (Int × Int)) (to : List Int), CurOk code 300 c3 → to.length ≤ 6 → ∃ (a to' : List Int), ((Zq88 N c3 16).bind fun r2 => (br r2.1.1 ((chk (room to [0]) ((Zq83 N (r2.2.1.1, (r2.2.1.2.1, r2.2.1.2.2)) (g.1, g.2) k).bind fun r3 => some (((g.1, g.2), k, r3.1.1, (tApp to [0]), ()), ())))) (((Zq83 N (r2.2.1.1, (r2.2.1.2.1, r2.2.1.2.2)) (g.1, g.2) k).bind fun r4 => some (((g.1, g.2), k, r4.1.1, to, ()), ()))))) = some (((g.1, g.2), k, a, to', ()), ()) ∧ a.length ≤ 10 ∧ to'.length ≤ 7 := by
    intro c3 to hc3 hto
    obtain ⟨b, c4, e1, e2⟩ := one_ok (N := N) hco hc3 (by omega) 16
    rw [e1, bind_some']
    simp only [show ((c4.1, (c4.2.1, c4.2.2)) : List Int × (Int × Int)) = c4 from rfl, show ((g.1, g.2) : Int × List (Int × Int)) = g from rfl]
    obtain ⟨a, c5, f1, f2, f3⟩ := colours5_ok (N := N) (g := g) (q := k) hco hN e2 (by omega) (by omega)
    rw [f1, room_ok (by simp; omega)]
    cases b with
    | true =>
      rw [br_t, chk_t, bind_some']
      exact ⟨a, _, rfl, f3, by rw [tApp_d]; simp; omega⟩
    | false =>
      rw [br_f, bind_some']
      exact ⟨a, to, rfl, f3, by omega⟩
  obtain ⟨c3, to, t1, t2, t3⟩ := dren_loop (N := N) hco (k := k) (o := 0) (o2 := g.1) (o3 := g.2) (k0 := fun kv o o1 o2 o3 o4 => ((Zq88 N o1 16).bind fun r2 => (br r2.1.1 ((chk (room o4 [0]) ((Zq83 N (r2.2.1.1, (r2.2.1.2.1, r2.2.1.2.2)) (o2, o3) kv).bind fun r3 => some ((((o2, o3), kv, r3.1.1, (tApp o4 [0]), ()), ()) : (((Int × List (Int × Int)) × Int × List Int × List Int × Unit) × Unit))))) (((Zq83 N (r2.2.1.1, (r2.2.1.2.1, r2.2.1.2.2)) (o2, o3) kv).bind fun r4 => some (((o2, o3), kv, r4.1.1, o4, ()), ())))))) b4 6 0 N 280 c2 [] (by omega) (by omega) (cur_mono b2 (by omega)) (by omega) rfl
  rw [show ((0 : Nat) : Int) = 0 from rfl] at t1
  rw [t1]
  obtain ⟨a, to', u1, u2, u3⟩ := fin c3 to (cur_mono t2 (by omega)) t3
  exact ⟨g, k, a, to', u1, a3, u2, u3⟩
theorem DrawRec_ok {N : Nat} {code : List Int} (hco : codeOk code) (hN : 1048577 ≤ N) : ∃ (g : Int × List (Int × Int)) (k : Int) (a b : List Int), Zq75 N code = some (((g.1, g.2), k, a, b, ()), ()) ∧ g.2.length ≤ 110 ∧ a.length ≤ 10 ∧ b.length ≤ 10 := by
  unfold Zq75
  obtain ⟨g, c1, a1, a2, a3⟩ := dense5_ok (N := N) hco hN cur0 (by omega)
  rw [a1, bind_some']
  simp only [show ((g.1, g.2) : Int × List (Int × Int)) = g from rfl]
  obtain ⟨k, c2, b1, b2, b3, b4⟩ := many5_ok (N := N) hco a2 (by omega)
  rw [b1, bind_some']
  simp only [show ((c2.1, (c2.2.1, c2.2.2)) : List Int × (Int × Int)) = c2 from rfl]
  obtain ⟨a, c3, d1, d2, d3⟩ := colours5_ok (N := N) (g := g) (q := k) hco hN b2 (by omega) (by omega)
  rw [d1, bind_some']
  simp only []
  obtain ⟨b, c4, e1, e2, e3⟩ := colours5_ok (N := N) (g := g) (q := k) hco hN d2 (by omega) (by omega)
  rw [e1, bind_some']
  exact ⟨g, k, a, b, rfl, a3, d3, e3⟩
theorem Rec_end {N : Nat} (hN : 1048577 ≤ N) {g : Int × List (Int × Int)} {k : Int} {a b : List Int} (hx : g.2.length ≤ 1048576) (ha : a.length ≤ 10) (hb : b.length ≤ 10) :
    Zq46_l0 N (fun x => some ((x, ()), ())) (fun x1 x2 x3 x4 x5 o o1 o2 o3 => (br (!x4)
      (some ((true, ()), ()))
      (Zq46_l1 N (fun x6 x7 x8 x9 x10 o4 o5 o6 o7 => Zq46_l2 N (fun x11 x12 x13 x14 x15 o8 o9 o10 o11 o12 => ((Zq23 N (o8, o9) x11 x12 o12).bind fun r20 =>
        ((Zq23 N (o8, o9) x11 x13 o12).bind fun r21 =>
          ((Zq22 N (o8, o9) x11 r20.1.1 r21.1.1).bind fun r22 =>
            (br r22.1.2.1
              ((br x14
                ((br (ieq (tLen r22.1.1) (tLen o10))
                  ((br (ile x15 (IntKind.i64.wrap ((tLen o10) - 1)))
                    (some (((ile (tLen o11) (tLen o10)), ()), ()))
                    (some ((false, ()), ()))))
                  (some ((false, ()), ()))))
                (some ((false, ()), ()))))
              (some ((false, ()), ()))))))) N x6 x7 x8 x9 x10 0 o4 o5 o6 o7 []) N x1 x2 x3 x5 0 0 o o1 o2 o3))) N k a b (cwalkV isCh g k a b).2 (cwalkV (kemP g.1.toNat g.2) g k a b).2 (fixV g k a).2 0 g.1 g.2 (cwalkV isCh g k a b).1 (cwalkV (kemP g.1.toNat g.2) g k a b).1 (fixV g k a).1 (stillR g k a).1 = some ((true, ()), ()) := by
  have hf8 := fixV_len g k a
  have hs8 := stillR_len g k a
  -- the walk's facts
  have hwalk : (cwalkV isCh g k a b).2 = true → (colCase g k ∧ proper g k a ∧ proper g k b) ∧ (allC g k).length ≤ 300 ∧ wayS (allC g k) (stepsL isCh (allC g k)) a b ≠ [] := fun h => by
    unfold cwalkV at h
    split at h
    · rename_i q
      exact ⟨q.1, q.2, of_decide_eq_true h⟩
    · cases h
  have l0 : ∀ (k0 : Bool → Option ((Bool × Unit) × Unit)) (k1 : Int → List Int → List Int → Bool → Bool → Int → List (Int × Int) → List (List Int) → List (List Int) → Option ((Bool × Unit) × Unit)), Zq46_l0 N k0 k1 N k a b (cwalkV isCh g k a b).2 (cwalkV (kemP g.1.toNat g.2) g k a b).2 (fixV g k a).2 0 g.1 g.2 (cwalkV isCh g k a b).1 (cwalkV (kemP g.1.toNat g.2) g k a b).1 (fixV g k a).1 (stillR g k a).1 = k1 k a b (cwalkV isCh g k a b).2 (cwalkV (kemP g.1.toNat g.2) g k a b).2 g.1 g.2 (cwalkV isCh g k a b).1 (cwalkV (kemP g.1.toNat g.2) g k a b).1 := by
    intro k0 k1
    by_cases h : (colCase g k ∧ proper g k a) ∧ (allC g k).length ≤ 300
    · have e1 : fixV g k a = (fixL g.1.toNat (allC g k) (bfsD (nbL (allC g k).length (stepsL isCh (allC g k))) (allC g k).length (((allC g k).idxOf a : Nat) : Int)) a, true) := by unfold fixV; rw [if_pos h]
      have e2 : stillR g k a = (stillL k g.1.toNat g.2 a, true) := by unfold stillR; rw [if_pos h.1]
      have hal := h.1.2.1
      rw [e1] at hf8 ⊢
      rw [e2] at hs8 ⊢
      have := fixed_l0 (R := (Bool × Unit) × Unit) (N := N) (k0 := k0) (k1 := k1) (k := k) (o := g.1) (a := a) (b := b) (x3 := (cwalkV isCh g k a b).2) (x4 := (cwalkV (kemP g.1.toNat g.2) g k a b).2) (o1 := g.2) (o2 := (cwalkV isCh g k a b).1) (o3 := (cwalkV (kemP g.1.toNat g.2) g k a b).1) (fx := fixL g.1.toNat (allC g k) (bfsD (nbL (allC g k).length (stepsL isCh (allC g k))) (allC g k).length (((allC g k).idxOf a : Nat) : Int)) a) (st := stillL k g.1.toNat g.2 a) (by simp only at hf8; omega) (by simp only at hs8; omega) (fun z hz => by
        obtain ⟨v, v1, rfl, v3⟩ := mem_fixL.1 hz
        exact mem_stillL.2 ⟨v1, fixed_still h.1.1 h.1.2 h.2 v1 v3⟩) (fun hok z hz => by
        obtain ⟨v, v1, rfl, v3⟩ := mem_fixL.1 hz
        obtain ⟨q1, q2, q3⟩ := hwalk hok
        have hbl := q1.2.2.1
        refine ⟨⟨by omega, by omega, by omega⟩, ?_⟩
        have ma := mem_allC q1.1 q2 q1.2.1
        have mb := mem_allC q1.1 q2 q1.2.2
        have hok := stepsL_ok (p := isCh) (xs := allC g k)
        have hlists := nbL_ok (n := (allC g k).length) (by omega) hok
        have hw := (way_some (by omega) hok ma mb).1 q3
        have hw2 := Wk_symm hlists (fun y z hy hz hm => nbL_sym hok hy hz hm) (in_nat (idx_lt mb)) hw
        obtain ⟨s, hs⟩ := wk_wl hw2
        obtain ⟨s1, s2, s3, s4, s5, s6⟩ := bfsD_spec hlists (in_nat (idx_lt ma))
        have := (s6 s _ hs).2.1
        rcases v3 _ (idx_lt mb) with q | q
        · omega
        · rw [idx_rd mb] at q
          exact q.symm) hN (fixL g.1.toNat (allC g k) (bfsD (nbL (allC g k).length (stepsL isCh (allC g k))) (allC g k).length (((allC g k).idxOf a : Nat) : Int)) a).length 0 N (by omega) (by simp only at hf8; omega)
      exact this
    · have e1 : fixV g k a = ([], false) := by unfold fixV; rw [if_neg h]
      rw [e1]
      obtain ⟨K, rfl⟩ := succ_of (show 0 < N by omega)
      simp only [Zq46_l0, br_f]
  rw [l0]
  try simp only []
  cases hok : (cwalkV isCh g k a b).2 with
  | false => rfl
  | true =>
    obtain ⟨⟨hk, pa, pb⟩, hl, hne⟩ := hwalk hok
    have ma := mem_allC hk hl pa
    have mb := mem_allC hk hl pb
    have hk5 := hk.2
    obtain ⟨q, rfl⟩ : ∃ q : Nat, k = (q : Int) := ⟨k.toNat, by omega⟩
    have hab : a.length = b.length := by have := pa.1; have := pb.1; omega
    simp only [Bool.not_true, br_f]
    have hd := differ_l1 (R := (Bool × Unit) × Unit) (N := N) (k0 := fun x6 x7 x8 x9 x10 o4 o5 o6 o7 => Zq46_l2 N (fun x11 x12 x13 x14 x15 o8 o9 o10 o11 o12 => ((Zq23 N (o8, o9) x11 x12 o12).bind fun r20 =>
        ((Zq23 N (o8, o9) x11 x13 o12).bind fun r21 =>
          ((Zq22 N (o8, o9) x11 r20.1.1 r21.1.1).bind fun r22 =>
            (br r22.1.2.1
              ((br x14
                ((br (ieq (tLen r22.1.1) (tLen o10))
                  ((br (ile x15 (IntKind.i64.wrap ((tLen o10) - 1)))
                    (some (((ile (tLen o11) (tLen o10)), ()), ()))
                    (some ((false, ()), ()))))
                  (some ((false, ()), ()))))
                (some ((false, ()), ()))))
              (some ((false, ()), ()))))))) N x6 x7 x8 x9 x10 0 o4 o5 o6 o7 []) (k := (q : Int)) (o4 := g.1) (a := a) (b := b) (x9 := (cwalkV (kemP g.1.toNat g.2) g (q : Int) a b).2) (o5 := g.2) (o6 := (cwalkV isCh g (q : Int) a b).1) (o7 := (cwalkV (kemP g.1.toNat g.2) g (q : Int) a b).1) (by omega) hab a.length 0 N 0 (by omega) (by omega) (by simp)
    rw [show ((0 : Nat) : Int) = 0 from rfl] at hd
    rw [hd]
    try simp only []
    have ht := turn_l2 (R := (Bool × Unit) × Unit) (N := N) (k0 := fun x11 x12 x13 x14 x15 o8 o9 o10 o11 o12 => ((Zq23 N (o8, o9) x11 x12 o12).bind fun r20 =>
        ((Zq23 N (o8, o9) x11 x13 o12).bind fun r21 =>
          ((Zq22 N (o8, o9) x11 r20.1.1 r21.1.1).bind fun r22 =>
            (br r22.1.2.1
              ((br x14
                ((br (ieq (tLen r22.1.1) (tLen o10))
                  ((br (ile x15 (IntKind.i64.wrap ((tLen o10) - 1)))
                    (some (((ile (tLen o11) (tLen o10)), ()), ()))
                    (some ((false, ()), ()))))
                  (some ((false, ()), ()))))
                (some ((false, ()), ()))))
              (some ((false, ()), ()))))))) (k := q) (a := a) (b := b) (x4 := (cwalkV (kemP g.1.toNat g.2) g (q : Int) a b).2) (x5 := ((apartL a b).length : Int)) (o8 := g.1) (o9 := g.2) (o10 := (cwalkV isCh g (q : Int) a b).1) (o11 := (cwalkV (kemP g.1.toNat g.2) g (q : Int) a b).1) (by omega) q 0 N [] (by omega) (by omega) (by simp)
    rw [show ((0 : Nat) : Int) = 0 from rfl] at ht
    rw [ht]
    simp only [show ((g.1, g.2) : Int × List (Int × Int)) = g from rfl]
    have ho := turn_ord (k := q)
    have htl := turnL_len q
    have hr := ord_ren (by omega) ho
    have ra : renR g (q : Int) a (turnL q) = (a.map (rdI (turnL q)), true) := by unfold renR; rw [if_pos ⟨⟨hk, pa⟩, ho⟩]
    have rb : renR g (q : Int) b (turnL q) = (b.map (rdI (turnL q)), true) := by unfold renR; rw [if_pos ⟨⟨hk, pb⟩, ho⟩]
    rw [(RenameColours_both (k := (q : Int)) (cs := a) (to := turnL q) hx (by omega) (by omega) hN).2, bind_some', (RenameColours_both (k := (q : Int)) (cs := b) (to := turnL q) hx (by omega) (by omega) hN).2, bind_some', ra, rb]
    simp only []
    rw [(Recolour_both (k := (q : Int)) (a := a.map (rdI (turnL q))) (b := b.map (rdI (turnL q))) hx (by rw [List.length_map]; omega) (by rw [List.length_map]; omega) hN).2, bind_some']
    obtain ⟨w1, w2⟩ := ren_way hk hl ho ma mb hne
    have hks : ∀ x ∈ allC g (q : Int), ∀ y ∈ allC g (q : Int), kemP g.1.toNat g.2 x y = true → kemP g.1.toNat g.2 y x = true := fun x hx y hy h => by rw [kemP_symm (allC_rows y hy) (allC_rows x hx)]; exact h
    obtain ⟨w3, w4⟩ := kem_way hk hl hks ma mb hne
    have c1 : cwalkV isCh g (q : Int) a b = (wayS (allC g (q : Int)) (stepsL isCh (allC g (q : Int))) a b, true) := by unfold cwalkV; rw [if_pos ⟨⟨hk, pa, pb⟩, hl⟩, decide_eq_true hne]
    have c2 : cwalkV isCh g (q : Int) (a.map (rdI (turnL q))) (b.map (rdI (turnL q))) = (wayS (allC g (q : Int)) (stepsL isCh (allC g (q : Int))) (a.map (rdI (turnL q))) (b.map (rdI (turnL q))), true) := by unfold cwalkV; rw [if_pos ⟨⟨hk, ren_proper hk.1 hr pa, ren_proper hk.1 hr pb⟩, hl⟩, decide_eq_true w1]
    have c3 : cwalkV (kemP g.1.toNat g.2) g (q : Int) a b = (wayS (allC g (q : Int)) (stepsL (kemP g.1.toNat g.2) (allC g (q : Int))) a b, true) := by unfold cwalkV; rw [if_pos ⟨⟨hk, pa, pb⟩, hl⟩, decide_eq_true w3]
    have hwl := way_wl (by omega) (stepsL_ok (p := isCh) (xs := allC g (q : Int))) ma mb hne
    have hap := (wl_apart (m := g.1.toNat) (fun x hx => allC_rows x hx) (in_nat (idx_lt mb)) hwl).2
    rw [idx_rd ma, idx_rd mb, apart_symm hab.symm] at hap
    have hpos := way_pos hne
    have hlen := wayS_len (by omega) (stepsL_ok (p := isCh) (xs := allC g (q : Int))) ma mb
    rw [c1, c2, c3]
    simp only [br_t]
    rw [tLen_n, tLen_n, tLen_n, ieq_t (by omega), br_t, wrap_ok (by omega) (by omega), ile_t (by omega), br_t, ile_t (by omega)]
theorem impl_IsCol {N : Nat} {g : Int × List (Int × Int)} {k : Int} {cs : List Int} (hx : g.2.length ≤ 1048576) (hc : cs.length ≤ 1048576) (hN : 1048577 ≤ N) :
    Zq17 N g k cs = some (((isColV g k cs).1, (isColV g k cs).2, ()), ()) := by
  unfold Zq17 isColV
  simp only [show ((g.1, g.2) : Int × List (Int × Int)) = g from rfl]
  rw [isColourCase_eq hx hN, bind_some']
  by_cases h : colCase g k
  · rw [decide_eq_true h]
    simp only [Bool.not_true, br_f]
    rw [impl_isColouring_eq h hx hc hN, bind_some', if_pos h]
  · rw [decide_eq_false h, if_neg h]
    rfl
theorem Recolouring_pure {N : Nat} (hN : 1048577 ≤ N) {code : List Int} (hw : ∀ y ∈ code, (Lit.int .u8 y).wf = true) : Zq46 N code = some ((true, ()), ()) := by
  unfold Zq46 Zq47
  rw [bind_some']
  simp only []
  rw [tLen_n]
  by_cases hb : 65536 < code.length
  · rw [ilt_t (by omega), br_t]
  · rw [ilt_f (by omega), br_f]
    have hco := code_ok hw (by omega)
    obtain ⟨g, k, a, b, d1, d2, d3, d4⟩ := DrawRec_ok (N := N) hco hN
    have hx : g.2.length ≤ 1048576 := by omega
    obtain ⟨code', v1, v2⟩ := vCut_ok (N := N) (n := 1) hco (by omega) (by omega)
    obtain ⟨h, m, cs, to, e1, e2, e3, e4⟩ := DrawRen_ok (N := N) v2 hN
    have hy : h.2.length ≤ 1048576 := by omega
    rw [d1, bind_some']
    simp only [show ((g.1, g.2) : Int × List (Int × Int)) = g from rfl]
    obtain ⟨r1, r2⟩ := Recolour_both (k := k) (a := a) (b := b) hx (by omega) (by omega) hN
    obtain ⟨k1, k2⟩ := KemWalk_both (k := k) (a := a) (b := b) hx (by omega) (by omega) hN
    obtain ⟨f1, f2⟩ := Fixed_both (k := k) (c := a) hx (by omega) hN
    obtain ⟨n1, n2⟩ := RenameColours_both (k := m) (cs := cs) (to := to) hy (by omega) (by omega) hN
    obtain ⟨t1, t2⟩ := cwalkV_ok isCh g k a b
    obtain ⟨u1, u2⟩ := cwalkV_ok (kemP g.1.toNat g.2) g k a b
    rw [r2, bind_some', r1, bind_some', k2, bind_some', k1, bind_some', f2, bind_some', f1, bind_some', Zq28_eq hx (by omega) hN, bind_some', Zq81_eq hx (by omega) hN, bind_some', v1, bind_some']
    simp only []
    rw [e1, bind_some']
    simp only [show ((h.1, h.2) : Int × List (Int × Int)) = h from rfl]
    rw [n2, bind_some', n1, bind_some']
    have hf8 := fixV_len g k a
    have hs8 := stillR_len g k a
    have hr8 := renR_len h m cs to
    have T1 : Zq51 N (cwalkV isCh g k a b).1 (cwalkV isCh g k a b).1 = some ((true, ()), ()) := by rw [vTable_eq (by omega) (fun x hx => by have := t2 x hx; omega) hN, decide_eq_true rfl]
    have T2 : Zq51 N (cwalkV (kemP g.1.toNat g.2) g k a b).1 (cwalkV (kemP g.1.toNat g.2) g k a b).1 = some ((true, ()), ()) := by rw [vTable_eq (by omega) (fun x hx => by have := u2 x hx; omega) hN, decide_eq_true rfl]
    have I1 : Zq50 N (fixV g k a).1 (fixV g k a).1 = some ((true, ()), ()) := by rw [vInts_eq (by omega) (by omega), decide_eq_true rfl]
    have I2 : Zq50 N (stillR g k a).1 (stillR g k a).1 = some ((true, ()), ()) := by rw [vInts_eq (by omega) (by omega), decide_eq_true rfl]
    have I3 : Zq50 N (renR h m cs to).1 (renR h m cs to).1 = some ((true, ()), ()) := by rw [vInts_eq (by omega) (by omega), decide_eq_true rfl]
    simp only [beq_self_eq_true, Bool.not_true, br_f, T1, T2, I1, I2, I3, bind_some']
    have hend := Rec_end (N := N) hN (g := g) (k := k) (a := a) (b := b) hx d3 d4
    cases htwo : (renR h m cs to).2 with
    | false =>
      rw [br_f]
      exact hend
    | true =>
      rw [br_t]
      have hq : (colCase h m ∧ proper h m cs) ∧ isOrd to m := by
        unfold renR at htwo
        split at htwo
        · assumption
        · cases htwo
      have hp2 : proper h m (renR h m cs to).1 := by
        unfold renR
        rw [if_pos hq]
        exact ren_proper hq.1.1.1 (ord_ren (by have := hq.1.1.2; omega) hq.2) hq.1.2
      have hi : isColV h m (renR h m cs to).1 = (true, true) := by unfold isColV; rw [if_pos hq.1.1, decide_eq_true hp2]
      rw [impl_IsCol (cs := (renR h m cs to).1) hy (by omega) hN, bind_some', hi]
      simp only [Bool.not_true, br_f]
      exact hend
theorem Recolouring_pureT : ∀ x : argsT (psOf [LU8]), WfA [LU8] x → ∃ k m, (Zq46_S k).f x = some ((true, ()), m) :=
  fun x h => ⟨1048577, (), Recolouring_pure (Nat.le_refl _) h.1.2⟩
end Go.Proofs.YtkffaahlpdlkoaaGreat
