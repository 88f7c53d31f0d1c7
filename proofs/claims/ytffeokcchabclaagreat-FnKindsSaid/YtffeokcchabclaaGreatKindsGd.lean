/- Statements on data alone. -/
import Derived.Test.YtffeokcchabclaaGreatPvPure
import Derived.Test.YtffeokcchabclaaGreatKindsGc
set_option linter.all false
set_option linter.all false
namespace Go.Proofs.YtffeokcchabclaaGreat
open Go Go.PV Classical
theorem Other_both {N : Nat} {g : Int × List (Int × Int)} {s : List Int} (hx : g.2.length ≤ 1048576) (hs : s.length ≤ 1048576) (hN : 1048577 ≤ N) : Zq63 N g s = some (((otherR g s).1, (otherR g s).2, ()), ()) ∧ Zq23 N g s = some (((otherR g s).1, (otherR g s).2, ()), ()) := by
  unfold Zq63 Zq23 Zq90 otherR
  simp only [show ((g.1, g.2) : Int × List (Int × Int)) = g from rfl]
  rw [l2Good_eq hx hN, bind_some', IsGraph_eq hx hN, bind_some']
  by_cases hg : goodG g
  · have hg1 := hg.1
    rw [decide_eq_true hg]
    simp only [Bool.not_true, br_f]
    rw [wrap_ok (by omega) (by omega), l1Rising_eq hs hN, bind_some', bind_some', isRising_eq hs (by omega) hN, bind_some']
    simp only []
    by_cases h2 : rising 0 (g.1 - 1) s
    · rw [decide_eq_true h2, if_pos ⟨hg, h2⟩]
      simp only [Bool.not_true, br_f]
      obtain ⟨A, hA, rfl⟩ := setCase_facts hg h2
      obtain ⟨m, hm⟩ : ∃ m : Nat, g.1 = (m : Int) := ⟨g.1.toNat, by omega⟩
      obtain ⟨g1, es⟩ := g
      simp only at hm hx hg1 hA hs ⊢
      subst hm
      simp only [Int.toNat_natCast] at hA hs ⊢
      have hm8 : m ≤ 8 := by omega
      have hf : 2 ^ m - 1 < 2 ^ m := by have := Nat.two_pow_pos m; omega
      obtain ⟨c, c1, c2, c3⟩ := less_set hm8 hf hA
      have e : setOf m c = setOf m (oth m A) := by
        rw [c3]
        refine asc_ext ((setOf_strict m _).filter _) (setOf_strict m _) fun z => ?_
        rw [mem_lone]
        constructor
        · rintro ⟨h1, h2⟩
          obtain ⟨i, hi, _, rfl⟩ := mem_setOf.1 h1
          refine mem_setN.2 ⟨hi, ?_⟩
          rw [oth_bit hi]
          cases hb : A.testBit i with
          | true => exact absurd (mem_setN.2 ⟨hi, hb⟩) h2
          | false => rfl
        · intro h
          obtain ⟨i, hi, hb, rfl⟩ := mem_setOf.1 h
          refine ⟨mem_setN.2 ⟨hi, by rw [Nat.testBit_two_pow_sub_one]; simpa using hi⟩, fun q => ?_⟩
          rw [oth_bit hi, (mem_setN.1 q).2] at hb
          cases hb
      constructor
      · unfold Zq97
        have i1 := loop_iter (L := fun K n o => Zq97_l0 N (fun o => some ((o, ()), ())) K (setOf m A) n (m : Int) es o) (k := fun o => some ((o, ()), ())) (m := m) (Inv := fun n o => o.length ≤ n) (step := fun n o => if ¬ (n : Int) ∈ setOf m A then o ++ [(n : Int)] else o) (fun K n o hn _ => by
          simp only [Zq97_l0, ilt_nf hn, br_f]) (fun K n o hn ho => by
          simp only [Zq97_l0, ilt_n hn, br_t]
          rw [l1Has_eq hs hN, bind_some', room_ok (by simp; omega), chk_t, wrap_succ (by omega), tApp_d]
          simp only []
          by_cases q : (n : Int) ∈ setOf m A
          · rw [decide_eq_true q, if_neg (fun z => z q)]
            rfl
          · rw [decide_eq_false q, if_pos q]
            rfl) (fun n o hn ho => by
          by_cases q : (n : Int) ∈ setOf m A
          · rw [if_neg (fun z => z q)]; omega
          · rw [if_pos q]; simp; omega) (K := N) (s := []) (by omega) (by simp)
        simp only [Int.natCast_zero] at i1
        rw [i1, iter_app, List.nil_append, bind_some']
      · unfold Zq5
        simp only []
        rw [ile_t (by omega), chk_t, all8 m hm8, bind_some', bagOf_set hm8 hA hN, bind_some']
        simp only []
        rw [c1, bag_list_eq hm8 c2 hN, bind_some', e, oth_list]
    · rw [decide_eq_false h2, if_neg fun q => h2 q.2]
      exact ⟨rfl, rfl⟩
  · rw [decide_eq_false hg, if_neg fun q => hg q.1]
    exact ⟨rfl, rfl⟩
noncomputable def cellsN (m : Nat) : List (List Int) := (List.range m).map fun i : Nat => [(i : Int)]
theorem cellsN_len (m : Nat) : (cellsN m).length = m := by simp [cellsN]
theorem cellsN_rd {m i : Nat} (h : i < m) : rdI (rdL (cellsN m) (i : Int)) 0 = (i : Int) := by
  rw [rdL_n (by rw [cellsN_len]; exact h)]
  simp [cellsN, rdI]
noncomputable def farP (es : List (Int × Int)) (a b : List Int) : Bool := !decide (nearG es (rdI a 0) (rdI b 0))
noncomputable def clE (m : Nat) (es : List (Int × Int)) : List (Int × Int) := stepsL (farP es) (cellsN m)
theorem clE_ok (m : Nat) (es : List (Int × Int)) : okSt m (clE m es) := by
  have := stepsL_ok (p := farP es) (xs := cellsN m)
  rwa [cellsN_len] at this
theorem clE_len {m : Nat} (hm : m ≤ 8) (es : List (Int × Int)) : (clE m es).length ≤ 64 := by
  have := stepsL_len (farP es) (cellsN m)
  rw [cellsN_len] at this
  exact Nat.le_trans this (Nat.mul_le_mul hm hm)
theorem mem_clE {m : Nat} {es : List (Int × Int)} {i j : Nat} : ((i : Int), (j : Int)) ∈ clE m es ↔ i < j ∧ j < m ∧ ¬ nearG es (i : Int) (j : Int) := by
  unfold clE
  rw [mem_stepsL, cellsN_len]
  constructor
  · rintro ⟨a, b, e, h1, h2, h3⟩
    have e1 : i = a := by have := congrArg Prod.fst e; simp at this; omega
    have e2 : j = b := by have := congrArg Prod.snd e; simp at this; omega
    subst e1 e2
    unfold farP at h3
    rw [cellsN_rd (by omega), cellsN_rd h2] at h3
    exact ⟨h1, h2, by simpa using h3⟩
  · rintro ⟨h1, h2, h3⟩
    refine ⟨i, j, rfl, h1, h2, ?_⟩
    unfold farP
    rw [cellsN_rd (by omega), cellsN_rd h2, decide_eq_false h3]
    rfl
noncomputable def cliqueR (g : Int × List (Int × Int)) : (Int × List (Int × Int)) × Bool := if goodG g then ((g.1, clE g.1.toNat g.2), true) else ((0, []), false)
theorem Clique_both {N : Nat} {g : Int × List (Int × Int)} (hx : g.2.length ≤ 1048576) (hN : 1048577 ≤ N) : Zq55 N g = some ((((cliqueR g).1.1, (cliqueR g).1.2), (cliqueR g).2, ()), ()) ∧ Zq4 N g = some ((((cliqueR g).1.1, (cliqueR g).1.2), (cliqueR g).2, ()), ()) := by
  unfold Zq55 Zq4 cliqueR
  simp only [show ((g.1, g.2) : Int × List (Int × Int)) = g from rfl]
  rw [l2Good_eq hx hN, bind_some', IsGraph_eq hx hN, bind_some']
  by_cases hg : goodG g
  · have hg1 := hg.1
    rw [decide_eq_true hg, if_pos hg]
    simp only [Bool.not_true, br_f]
    have hed : ∀ e ∈ g.2, e.1 < e.2 := fun e he => (goodG_edges hg e he).2.1
    obtain ⟨m, hm⟩ : ∃ m : Nat, g.1 = (m : Int) := ⟨g.1.toNat, by omega⟩
    obtain ⟨g1, es⟩ := g
    simp only at hm hx hg1 hed ⊢
    subst hm
    simp only [Int.toNat_natCast]
    have hm8 : m ≤ 8 := by omega
    have farn : ∀ i j : Nat, i < m → j < m → farP es (rdL (cellsN m) (i : Int)) (rdL (cellsN m) (j : Int)) = !decide (nearG es (i : Int) (j : Int)) := fun i j hi hj => by
      unfold farP
      rw [cellsN_rd hi, cellsN_rd hj]
    have inS : ∀ (d i j K : Nat) (o : List (Int × Int)) (k0 : Int → Int → List (Int × Int) → Int → Int → List (Int × Int) → Option ((((Int × List (Int × Int)) × Bool × Unit)) × Unit)), i < m → j + d = m → d < K → o.length ≤ 1000 + j → Zq55_l0_0 N k0 K (i : Int) (j : Int) (m : Int) es 0 (m : Int) o = k0 (i : Int) (m : Int) es 0 (m : Int) (o ++ ((List.range' j d).filter fun j : Nat => farP es (rdL (cellsN m) (i : Int)) (rdL (cellsN m) (j : Int))).map fun j : Nat => ((i : Int), (j : Int))) := by
      intro d
      induction d with
      | zero =>
        intro i j K o k0 hi hj hK ho
        obtain ⟨K, rfl⟩ := succ_of hK
        simp only [Zq55_l0_0, ilt_nf (show ¬ j < m by omega), br_f]
        simp
      | succ d ih =>
        intro i j K o k0 hi hj hK ho
        obtain ⟨K, rfl⟩ := succ_of hK
        simp only [Zq55_l0_0, ilt_n (show j < m by omega), br_t]
        rw [l2Near_eq (g := ((m : Int), es)) hx hN, bind_some', room_ok (by simp; omega), chk_t, wrap_succ (by omega), tApp_d, List.range'_succ]
        have f := farn i j hi (by omega)
        by_cases h : nearG es (i : Int) (j : Int)
        · rw [decide_eq_true h] at f ⊢
          simp only [Bool.not_true, br_f] at f ⊢
          rw [ih i (j + 1) K o k0 hi (by omega) (by omega) (by omega), List.filter_cons_of_neg (by rw [f]; simp)]
        · rw [decide_eq_false h] at f ⊢
          simp only [Bool.not_false, br_t] at f ⊢
          rw [ih i (j + 1) K _ k0 hi (by omega) (by omega) (by simp; omega), List.filter_cons_of_pos (by exact f), List.append_assoc]
          rfl
    have inI : ∀ (d i j K : Nat) (x2 x3 : Int) (o : List (Int × Int)) (k0 : Int → Int → Int → List (Int × Int) → Int → Int → List (Int × Int) → Option ((((Int × List (Int × Int)) × Bool × Unit)) × Unit)), i < m → j + d = m → d < K → o.length ≤ 1000 + j → Zq4_l0_0 N k0 K (i : Int) (j : Int) x2 x3 (m : Int) es 0 (m : Int) o = k0 x2 x3 (m : Int) es 0 (m : Int) (o ++ ((List.range' j d).filter fun j : Nat => farP es (rdL (cellsN m) (i : Int)) (rdL (cellsN m) (j : Int))).map fun j : Nat => ((i : Int), (j : Int))) := by
      intro d
      induction d with
      | zero =>
        intro i j K x2 x3 o k0 hi hj hK ho
        obtain ⟨K, rfl⟩ := succ_of hK
        simp only [Zq4_l0_0, ilt_nf (show ¬ j < m by omega), br_f]
        simp
      | succ d ih =>
        intro i j K x2 x3 o k0 hi hj hK ho
        obtain ⟨K, rfl⟩ := succ_of hK
        simp only [Zq4_l0_0, ilt_n (show j < m by omega), br_t]
        rw [Graph_has_eq (g := ((m : Int), es)) hed hx hN, bind_some', room_ok (by simp; omega), chk_t, wrap_succ (by omega), tApp_d, List.range'_succ]
        have f := farn i j hi (by omega)
        by_cases h : nearG es (i : Int) (j : Int)
        · rw [decide_eq_true h] at f ⊢
          simp only [Bool.not_true, br_f] at f ⊢
          rw [ih i (j + 1) K x2 x3 o k0 hi (by omega) (by omega) (by omega), List.filter_cons_of_neg (by rw [f]; simp)]
        · rw [decide_eq_false h] at f ⊢
          simp only [Bool.not_false, br_t] at f ⊢
          rw [ih i (j + 1) K x2 x3 _ k0 hi (by omega) (by omega) (by simp; omega), List.filter_cons_of_pos (by exact f), List.append_assoc]
          rfl
    have row : ∀ i, i < m → ((List.range' (i + 1) (m - (i + 1))).filter fun j : Nat => farP es (rdL (cellsN m) (i : Int)) (rdL (cellsN m) (j : Int))).map (fun j : Nat => ((i : Int), (j : Int))) = rowSteps (farP es) (cellsN m) i := fun i hi => by
      unfold rowSteps
      rw [cellsN_len]
    have e0 : clE m es = (List.range' 0 m).flatMap (rowSteps (farP es) (cellsN m)) := by
      unfold clE stepsL
      rw [cellsN_len]
    have bnd : ∀ (d n : Nat), ((List.range' n d).flatMap (rowSteps (farP es) (cellsN m))).length ≤ d * m := by
      intro d
      induction d with
      | zero => intro n; simp
      | succ d ih =>
        intro n
        rw [List.range'_succ, List.flatMap_cons, List.length_append, Nat.add_mul]
        have h1 := rowSteps_len (farP es) (cellsN m) n
        rw [cellsN_len] at h1
        have h2 := ih (n + 1)
        omega
    have outS : ∀ (d n K : Nat) (o : List (Int × Int)), n + d = m → d < K → o.length ≤ n * m → Zq55_l0 N (fun o o1 o2 => some (((o1, o2), true, ()), ())) K (n : Int) (m : Int) es 0 (m : Int) o = some ((((m : Int), o ++ (List.range' n d).flatMap (rowSteps (farP es) (cellsN m))), true, ()), ()) := by
      intro d
      induction d with
      | zero =>
        intro n K o hd hK ho
        obtain ⟨K, rfl⟩ := succ_of hK
        simp only [Zq55_l0, ilt_nf (show ¬ n < m by omega), br_f]
        simp
      | succ d ih =>
        intro n K o hd hK ho
        obtain ⟨K, rfl⟩ := succ_of hK
        have hmul : n * m ≤ 8 * 8 := Nat.mul_le_mul (by omega) hm8
        have h1 := rowSteps_len (farP es) (cellsN m) n
        rw [cellsN_len] at h1
        simp only [Zq55_l0, ilt_n (show n < m by omega), br_t]
        rw [wrap_succ (by omega), inS (m - (n + 1)) n (n + 1) N o _ (by omega) (by omega) (by omega) (by omega), row n (by omega), wrap_succ (by omega), ih (n + 1) K _ (by omega) (by omega) (by rw [List.length_append, Nat.add_mul]; omega), List.range'_succ, List.flatMap_cons, List.append_assoc]
    have outI : ∀ (d n K : Nat) (o : List (Int × Int)), n + d = m → d < K → o.length ≤ n * m → Zq4_l0 N (fun o o1 o2 => some (((o1, o2), true, ()), ())) K (m : Int) (n : Int) (m : Int) es 0 (m : Int) o = some ((((m : Int), o ++ (List.range' n d).flatMap (rowSteps (farP es) (cellsN m))), true, ()), ()) := by
      intro d
      induction d with
      | zero =>
        intro n K o hd hK ho
        obtain ⟨K, rfl⟩ := succ_of hK
        simp only [Zq4_l0, ilt_nf (show ¬ n < m by omega), br_f]
        simp
      | succ d ih =>
        intro n K o hd hK ho
        obtain ⟨K, rfl⟩ := succ_of hK
        have hmul : n * m ≤ 8 * 8 := Nat.mul_le_mul (by omega) hm8
        have h1 := rowSteps_len (farP es) (cellsN m) n
        rw [cellsN_len] at h1
        simp only [Zq4_l0, ilt_n (show n < m by omega), br_t]
        rw [wrap_succ (by omega), inI (m - (n + 1)) n (n + 1) N (m : Int) (n : Int) o _ (by omega) (by omega) (by omega) (by omega), row n (by omega), wrap_succ (by omega), ih (n + 1) K _ (by omega) (by omega) (by rw [List.length_append, Nat.add_mul]; omega), List.range'_succ, List.flatMap_cons, List.append_assoc]
    have r1 := outS m 0 N [] (by omega) (by omega) (by simp)
    have r2 := outI m 0 N [] (by omega) (by omega) (by simp)
    rw [show ((0 : Nat) : Int) = 0 from rfl, List.nil_append, ← e0] at r1 r2
    exact ⟨r1, r2⟩
  · rw [decide_eq_false hg, if_neg hg]
    exact ⟨rfl, rfl⟩
theorem clique_cover {m A : Nat} {es : List (Int × Int)} : hasK m es 2 (setOf m A) ↔ hasK m (clE m es) 1 (setOf m (oth m A)) := by
  unfold hasK
  rw [if_neg (by decide), if_pos rfl, if_pos rfl, clique_mem (p := fun x y => nearG es x y) (setOf_strict m A)]
  constructor
  · intro h e he
    obtain ⟨h1, h2, h3⟩ := (clE_ok m es).2 e he
    obtain ⟨i, hi⟩ : ∃ i : Nat, e.1 = (i : Int) := ⟨e.1.toNat, by omega⟩
    obtain ⟨j, hj⟩ : ∃ j : Nat, e.2 = (j : Int) := ⟨e.2.toNat, by omega⟩
    have hm : ((i : Int), (j : Int)) ∈ clE m es := by rw [← hi, ← hj]; exact he
    obtain ⟨q1, q2, q3⟩ := mem_clE.1 hm
    rw [hi, hj]
    by_cases b1 : A.testBit i = true
    · by_cases b2 : A.testBit j = true
      · exact absurd (nearG_symm.1 (h (j : Int) (mem_setN.2 ⟨q2, b2⟩) (i : Int) (mem_setN.2 ⟨by omega, b1⟩) (by omega))) q3
      · exact .inr (mem_setN.2 ⟨q2, by rw [oth_bit q2, Bool.eq_false_iff.2 b2]; rfl⟩)
    · exact .inl (mem_setN.2 ⟨by omega, by rw [oth_bit (by omega), Bool.eq_false_iff.2 b1]; rfl⟩)
  · intro h x hx y hy hxy
    obtain ⟨i, hi, b1, rfl⟩ := mem_setOf.1 hx
    obtain ⟨j, hj, b2, rfl⟩ := mem_setOf.1 hy
    refine Classical.byContradiction fun q => ?_
    have := h _ (mem_clE.2 ⟨show j < i by omega, hi, fun z => q (nearG_symm.1 z)⟩)
    rcases this with r | r
    · have := (mem_setN.1 r).2
      rw [oth_bit hj, b2] at this
      cases this
    · have := (mem_setN.1 r).2
      rw [oth_bit hi, b1] at this
      cases this
noncomputable def bI (kind : Int) (L : List (List Int)) : Nat → Nat
  | 0 => 0
  | n + 1 => if kind = 2 ∧ (rdL L (bI kind L n : Int)).length < (rdL L (n : Int)).length then n else bI kind L n
theorem bI_succ (kind : Int) (L : List (List Int)) (n : Nat) : bI kind L (n + 1) = if kind = 2 ∧ (rdL L (bI kind L n : Int)).length < (rdL L (n : Int)).length then n else bI kind L n := rfl
theorem bI_lt {kind : Int} {L : List (List Int)} (h : 0 < L.length) : ∀ n, n ≤ L.length → bI kind L n < L.length := by
  intro n
  induction n with
  | zero => intro _; exact h
  | succ n ih =>
    intro hn
    unfold bI
    split
    · omega
    · exact ih (by omega)
theorem bI_most {L : List (List Int)} : ∀ n, ∀ j : Nat, j < n → (rdL L (j : Int)).length ≤ (rdL L (bI 2 L n : Int)).length := by
  intro n
  induction n with
  | zero => intro j hj; omega
  | succ n ih =>
    intro j hj
    unfold bI
    by_cases q : (rdL L (bI 2 L n : Int)).length < (rdL L (n : Int)).length
    · rw [if_pos ⟨rfl, q⟩]
      by_cases e : j = n
      · rw [e]; exact Nat.le_refl _
      · have := ih j (by omega)
        omega
    · rw [if_neg fun z => q z.2]
      by_cases e : j = n
      · rw [e]; omega
      · exact ih j (by omega)
theorem bI_zero {kind : Int} {L : List (List Int)} (hk : kind ≠ 2) : ∀ n, bI kind L n = 0 := by
  intro n
  induction n with
  | zero => rfl
  | succ n ih =>
    unfold bI
    rw [if_neg fun q => hk q.1]
    exact ih
theorem kind_first {L : List (List Int)} (h : L.Pairwise sizeLt) {s : List Int} (hs : s ∈ L) : (rdL L 0).length ≤ s.length := by
  cases L with
  | nil => cases hs
  | cons a L =>
    have e : rdL (a :: L) 0 = a := rfl
    rw [e]
    rcases List.mem_cons.1 hs with rfl | hs
    · exact Nat.le_refl _
    · have := (List.pairwise_cons.1 h).1 s hs
      rcases this with q | q <;> omega
theorem kind_some {m : Nat} {es : List (Int × Int)} {kind : Int} (hg : goodG ((m : Int), es)) {L : List (List Int)} (hL : KindL m es kind L) : 0 < L.length := by
  by_cases hk : kind = 2
  · refine List.length_pos_of_mem ((hL.2.2 (setOf m 0)).2 ⟨⟨0, Nat.two_pow_pos m, rfl⟩, ?_⟩)
    have : setOf m 0 = [] := List.eq_nil_iff_forall_not_mem.2 fun z hz => by
      obtain ⟨i, _, hb, _⟩ := mem_setOf.1 hz
      simp at hb
    rw [this]
    unfold hasK
    rw [if_neg (by omega), if_pos hk]
    intro i j hi
    simp at hi
  · have hf : 2 ^ m - 1 < 2 ^ m := by have := Nat.two_pow_pos m; omega
    refine List.length_pos_of_mem ((hL.2.2 (setOf m (2 ^ m - 1))).2 ⟨⟨_, hf, rfl⟩, ?_⟩)
    have hall : ∀ i : Nat, i < m → (i : Int) ∈ setOf m (2 ^ m - 1) := fun i hi => mem_setN.2 ⟨hi, by rw [Nat.testBit_two_pow_sub_one]; simpa using hi⟩
    unfold hasK
    by_cases h1 : kind = 1
    · rw [if_pos h1]
      intro e he
      have := goodG_edges hg e he
      simp only at this
      obtain ⟨i, hi⟩ : ∃ i : Nat, e.1 = (i : Int) := ⟨e.1.toNat, by omega⟩
      rw [hi]
      exact .inl (hall i (by omega))
    · rw [if_neg h1, if_neg hk]
      exact fun x hx => .inl (hall x hx)
theorem Best_both {N : Nat} {g : Int × List (Int × Int)} {kind : Int} (hx : g.2.length ≤ 1048576) (hN : 1048577 ≤ N) : ∃ r : List Int × Bool, Zq54 N g kind = some ((r.1, r.2, ()), ()) ∧ Zq3 N g kind = some ((r.1, r.2, ()), ()) ∧ r.1.length ≤ 8 ∧ (r.2 = true ↔ kCase g kind) ∧ (∀ L, KindL g.1.toNat g.2 kind L → kCase g kind → r.1 = rdL L (bI kind L L.length : Int) ∧ 0 < L.length ∧ Zq92 N g kind = some ((r.1, ()), ()) ∧ Zq6 N g kind = some ((r.1, ()), ())) := by
  unfold Zq54 Zq3 Zq31
  simp only [show ((g.1, g.2) : Int × List (Int × Int)) = g from rfl]
  rw [l4Good_eq hx hN, bind_some', IsGraph_eq hx hN, bind_some']
  simp only [between_eq, bind_some']
  by_cases h : goodG g ∧ 1 ≤ kind ∧ kind ≤ 3
  · obtain ⟨hg, hk⟩ := h
    rw [decide_eq_true (show goodG g ∧ 1 ≤ kind ∧ kind ≤ 3 from ⟨hg, hk⟩), decide_eq_true hg, decide_eq_true hk]
    simp only [Bool.not_true, br_f]
    have hg1 := hg.1
    obtain ⟨m, hm⟩ : ∃ m : Nat, g.1 = (m : Int) := ⟨g.1.toNat, by omega⟩
    obtain ⟨g1, es⟩ := g
    simp only at hm hx hg1 ⊢
    subst hm
    simp only [Int.toNat_natCast]
    have hm8 : m ≤ 8 := by omega
    obtain ⟨L, l1, l2⟩ := l4Sets_KL (N := N) (kind := kind) hm8 hx hN
    have hl := l2.2.1
    have hp := kind_some hg l2
    have hlt := fun n hn => bI_lt (kind := kind) hp n hn
    have i1 : ∀ (d n K : Nat), n + d = L.length → d < K → Zq6_l0 N (fun best o => some (((rdL o best), ()), ())) K kind (bI kind L n : Int) (L.length : Int) (n : Int) L = some ((rdL L (bI kind L L.length : Int), ()), ()) := by
      intro d
      induction d with
      | zero =>
        intro n K hd hK
        obtain ⟨K, rfl⟩ := succ_of hK
        have : n = L.length := by omega
        subst this
        simp only [Zq6_l0, ilt_nf (Nat.lt_irrefl L.length), br_f]
      | succ d ih =>
        intro n K hd hK
        obtain ⟨K, rfl⟩ := succ_of hK
        have hn : n < L.length := by omega
        simp only [Zq6_l0, ilt_n hn, br_t, inb_n hn, chk_t]
        rw [wrap_succ (by omega), tLen_n, tLen_n]
        have nx := ih (n + 1) K (by omega) (by omega)
        rw [bI_succ] at nx
        by_cases q1 : kind = 2
        · rw [ieq_t q1, br_t]
          by_cases q2 : (rdL L (bI kind L n : Int)).length < (rdL L (n : Int)).length
          · rw [if_pos ⟨q1, q2⟩] at nx
            rw [ilt_t (by omega), br_t]
            exact nx
          · rw [if_neg fun z => q2 z.2] at nx
            rw [ilt_f (by omega), br_f]
            exact nx
        · rw [if_neg fun z => q1 z.1] at nx
          rw [ieq_f q1, br_f]
          exact nx
    have i2 : ∀ (d n K : Nat), n + d = L.length → d < K → Zq92_l0 N (fun best => some ((best, ()), ())) K kind L (rdL L (bI kind L n : Int)) (n : Int) = some ((rdL L (bI kind L L.length : Int), ()), ()) := by
      intro d
      induction d with
      | zero =>
        intro n K hd hK
        obtain ⟨K, rfl⟩ := succ_of hK
        have : n = L.length := by omega
        subst this
        simp only [Zq92_l0, ilt_lenf (Nat.lt_irrefl L.length), br_f]
      | succ d ih =>
        intro n K hd hK
        obtain ⟨K, rfl⟩ := succ_of hK
        have hn : n < L.length := by omega
        simp only [Zq92_l0, ilt_len hn, br_t, inb_n hn, chk_t]
        rw [wrap_succ (by omega), tLen_n, tLen_n]
        have nx := ih (n + 1) K (by omega) (by omega)
        rw [bI_succ] at nx
        by_cases q1 : kind = 2
        · rw [ieq_t q1, br_t]
          by_cases q2 : (rdL L (bI kind L n : Int)).length < (rdL L (n : Int)).length
          · rw [if_pos ⟨q1, q2⟩] at nx
            rw [ilt_t (by omega), br_t]
            exact nx
          · rw [if_neg fun z => q2 z.2] at nx
            rw [ilt_f (by omega), br_f]
            exact nx
        · rw [if_neg fun z => q1 z.1] at nx
          rw [ieq_f q1, br_f]
          exact nx
    have b1 : bI kind L 1 = 0 := by
      rw [bI_succ, if_neg fun z => by have := z.2; simp [bI] at this]
      rfl
    have r1 := i1 L.length 0 N (by omega) (by omega)
    have r2 := i2 (L.length - 1) 1 N (by omega) (by omega)
    rw [b1] at r2
    have hb : Zq6 N ((m : Int), es) kind = some ((rdL L (bI kind L L.length : Int), ()), ()) := by
      unfold Zq6
      simp only []
      rw [ofKind_eq hm8 hg hx l2 hN, bind_some']
      simp only []
      rw [show inb L 0 = true from inb_n (n := 0) hp, chk_t, tLen_n]
      exact r1
    have hs : Zq92 N ((m : Int), es) kind = some ((rdL L (bI kind L L.length : Int), ()), ()) := by
      unfold Zq92
      simp only []
      rw [l1, bind_some']
      simp only []
      rw [show inb L 0 = true from inb_n (n := 0) hp, chk_t]
      exact r2
    have hmem : rdL L (bI kind L L.length : Int) ∈ L := by
      rw [rdL_n (hlt L.length (Nat.le_refl _))]
      exact List.getElem_mem _
    refine ⟨(rdL L (bI kind L L.length : Int), true), ?_, ?_, ?_, ⟨fun _ => ⟨hg, hk⟩, fun _ => rfl⟩, fun L2 hL2 _ => ?_⟩
    · rw [hs, bind_some']
    · rw [hb, bind_some']
    · obtain ⟨⟨A, _, e⟩, _⟩ := (l2.2.2 _).1 hmem
      have := setOf_len m A
      simp only
      rw [e]
      omega
    · have e : L2 = L := by
        have hpm := (List.perm_ext_iff_of_nodup (size_nodup hL2.1) (size_nodup l2.1)).2 fun s => by rw [hL2.2.2, l2.2.2]
        exact hpm.eq_of_pairwise (fun a b _ _ h1 h2 => absurd (sizeLt_trans h1 h2) (sizeLt_irr a)) hL2.1 l2.1
      rw [e]
      exact ⟨rfl, hp, hs, hb⟩
  · rw [decide_eq_false h]
    refine ⟨([], false), rfl, ?_, by simp, ⟨(fun q => by cases q), fun q => absurd q h⟩, fun L _ q => absurd q h⟩
    by_cases hg : goodG g
    · rw [decide_eq_true hg, decide_eq_false fun q => h ⟨hg, q⟩]
      rfl
    · rw [decide_eq_false hg]
      rfl
theorem best_tight {m : Nat} {es : List (Int × Int)} {kind : Int} {L : List (List Int)} (hL : KindL m es kind L) (h0 : 0 < L.length) : rdL L (bI kind L L.length : Int) ∈ L.filter (tL m es kind) := by
  have hb := bI_lt (kind := kind) h0 L.length (Nat.le_refl _)
  have hmem : rdL L (bI kind L L.length : Int) ∈ L := by
    rw [rdL_n hb]
    exact List.getElem_mem hb
  obtain ⟨⟨A, hA, e⟩, hk⟩ := (hL.2.2 _).1 hmem
  refine List.mem_filter.2 ⟨hmem, ?_⟩
  rw [e, tL_set hA]
  refine decide_eq_true fun x hx hs hv => ?_
  have hm2 : setOf m (A ^^^ 2 ^ x) ∈ L := (hL.2.2 _).2 ⟨⟨_, xor_lt hA hx, rfl⟩, hv⟩
  by_cases hk2 : kind = 2
  · subst hk2
    have hb2 : A.testBit x = false := by simpa using hs
    have hc := card_out hx hb2
    obtain ⟨j, hj, ej⟩ := List.getElem_of_mem hm2
    have := bI_most (L := L) L.length j hj
    rw [e, rdL_n hj, ej] at this
    unfold card at hc
    omega
  · have hb2 : A.testBit x = true := by simpa [hk2] using hs
    have hc := card_in hx hb2
    rw [bI_zero hk2] at e
    have := kind_first hL.1 hm2
    rw [show rdL L 0 = setOf m A from e] at this
    unfold card at hc
    omega
theorem kind_ok {N : Nat} {code : List Int} {k : Nat} {c : List Int × (Int × Int)} (hco : codeOk code) (h : CurOk code k c) (hk : k ≤ 800000) : ∃ x c', Zq67 N c = some ((x, ()), (c', ())) ∧ CurOk code (k + 6) c' := by
  unfold Zq67
  obtain ⟨b, c1, a1, a2⟩ := one_ok (N := N) hco h (by omega) 24
  rw [a1, bind_some']
  simp only []
  cases b with
  | true =>
    obtain ⟨x, c2, b1, b2, _⟩ := among_ok (N := N) hco a2 (by omega) (l := [0, 4, -1]) (by simp)
    rw [br_t, b1, bind_some']
    exact ⟨x, c2, rfl, cur_mono b2 (by omega)⟩
  | false =>
    obtain ⟨x, c2, b1, b2, _⟩ := pick_ok (N := N) hco a2 (by omega) 3
    rw [br_f, b1, bind_some']
    exact ⟨_, c2, rfl, cur_mono b2 (by omega)⟩
theorem nodes_ok {N : Nat} {code : List Int} {k : Nat} {c : List Int × (Int × Int)} {g : Int × List (Int × Int)} (hco : codeOk code) (hN : 1048577 ≤ N) (h : CurOk code k c) (hk : k ≤ 800000) : ∃ s c', Zq69 N c g = some ((s, ()), (c', ())) ∧ CurOk code (k + 8) c' ∧ s.length ≤ 9 := by
  unfold Zq69
  rw [l1Least_eq, bind_some', l1Most_eq, bind_some']
  simp only []
  obtain ⟨m, hm, hm8⟩ : ∃ m : Nat, (if 0 < (if g.1 < 8 then g.1 else 8) then (if g.1 < 8 then g.1 else 8) else 0) = (m : Int) ∧ m ≤ 8 := by
    refine ⟨(if 0 < (if g.1 < 8 then g.1 else 8) then (if g.1 < 8 then g.1 else 8) else 0).toNat, ?_, ?_⟩ <;> split <;> split <;> omega
  rw [hm]
  obtain ⟨x, c1, a1, a2, a3, a4, a5⟩ := pick_ok (N := N) hco h (by omega) 256
  have a5 := a5 (by omega)
  obtain ⟨a, rfl⟩ : ∃ a : Nat, x = (a : Int) := ⟨x.toNat, by omega⟩
  rw [a1, bind_some']
  simp only []
  rw [l2Bits_set hm8 (by omega) hN, bind_some']
  simp only []
  have hl := setOf_len m a
  obtain ⟨b, c2, b1, b2⟩ := one_ok (N := N) hco a2 (by omega) 20
  rw [b1, bind_some']
  simp only []
  cases b with
  | true =>
    obtain ⟨y, c3, d1, d2, _⟩ := among_ok (N := N) hco b2 (by omega) (l := [-1, 0, 8]) (by simp)
    rw [br_t, d1, bind_some', room_ok (by simp; omega), chk_t]
    exact ⟨_, c3, rfl, cur_mono d2 (by omega), by rw [tApp_d]; simp; omega⟩
  | false =>
    rw [br_f]
    exact ⟨_, c2, rfl, cur_mono b2 (by omega), by omega⟩
theorem ofKind_ok {N : Nat} {code : List Int} {k : Nat} {c : List Int × (Int × Int)} {g : Int × List (Int × Int)} {kind : Int} (hco : codeOk code) (hN : 1048577 ≤ N) (h : CurOk code k c) (hk : k ≤ 700000) (hx : g.2.length ≤ 1048576) : ∃ s c', Zq70 N c g kind = some ((s, ()), (c', ())) ∧ CurOk code (k + 12) c' ∧ s.length ≤ 9 := by
  unfold Zq70
  simp only [show ((g.1, g.2) : Int × List (Int × Int)) = g from rfl]
  rw [l4Good_eq hx hN, bind_some']
  by_cases hg : goodG g ∧ 1 ≤ kind ∧ kind ≤ 3
  · rw [decide_eq_true hg]
    simp only [Bool.not_true, br_f]
    obtain ⟨b, c1, a1, a2⟩ := one_ok (N := N) hco h (by omega) 8
    rw [a1, bind_some']
    simp only []
    cases b with
    | true =>
      obtain ⟨s, c2, b1, b2, b3⟩ := nodes_ok (N := N) (g := g) hco hN a2 (by omega)
      rw [br_t, b1, bind_some']
      exact ⟨s, c2, rfl, cur_mono b2 (by omega), b3⟩
    | false =>
      rw [br_f]
      obtain ⟨m, hm⟩ : ∃ m : Nat, g.1 = (m : Int) := ⟨g.1.toNat, by have := hg.1.1; omega⟩
      obtain ⟨g1, es⟩ := g
      simp only at hm hx ⊢
      subst hm
      have hm8 : m ≤ 8 := by have := hg.1.1; simp only at this; omega
      obtain ⟨L, l1, l2⟩ := l4Sets_KL (N := N) (kind := kind) hm8 hx hN
      have hp := kind_some hg.1 l2
      rw [l1, bind_some']
      simp only []
      obtain ⟨x, c2, b1, b2, b3, b4, b5⟩ := pick_ok (N := N) hco a2 (by omega) (tLen L)
      have b5 := b5 (by rw [tLen_n]; omega)
      rw [tLen_n] at b5
      rw [b1, bind_some']
      simp only []
      obtain ⟨i, rfl⟩ : ∃ i : Nat, x = (i : Int) := ⟨x.toNat, by omega⟩
      have hi : i < L.length := by omega
      obtain ⟨⟨A, _, e⟩, _⟩ := (l2.2.2 _).1 (List.getElem_mem hi)
      have hl := setOf_len m A
      rw [inb_n hi, chk_t, rdL_n hi, e, l1Own_eq (by omega), bind_some']
      exact ⟨setOf m A, c2, rfl, cur_mono b2 (by omega), by omega⟩
  · rw [decide_eq_false hg]
    simp only [Bool.not_false, br_t]
    obtain ⟨s, c2, b1, b2, b3⟩ := nodes_ok (N := N) (g := g) hco hN h (by omega)
    rw [b1, bind_some']
    exact ⟨s, c2, rfl, cur_mono b2 (by omega), b3⟩
theorem bigG_ok {N : Nat} {code : List Int} {k : Nat} {c : List Int × (Int × Int)} (hco : codeOk code) (hN : 1048577 ≤ N) (h : CurOk code k c) (hk : k ≤ 90000) : ∃ (g : Int × List (Int × Int)) (c' : List Int × (Int × Int)), Zq66 N c = some (((g.1, g.2), ()), (c', ())) ∧ CurOk code (k + 200) c' ∧ g.2.length ≤ 100 := by
  unfold Zq66
  obtain ⟨g, c', e1, e2, e3⟩ := someGraph_ok (N := N) (most := 8) hco hN h hk (by omega)
  rw [e1, bind_some']
  exact ⟨g, c', rfl, e2, e3⟩
theorem DrawTight_ok {N : Nat} {code : List Int} (hco : codeOk code) (hN : 1048577 ≤ N) : ∃ (g : Int × List (Int × Int)) (kind : Int) (s : List Int), Zq57 N code = some (((g.1, g.2), kind, s, ()), ()) ∧ g.2.length ≤ 100 ∧ s.length ≤ 9 := by
  unfold Zq57
  obtain ⟨g, c1, a1, a2, a3⟩ := bigG_ok (N := N) hco hN cur0 (by omega)
  rw [a1, bind_some']
  simp only [show ((g.1, g.2) : Int × List (Int × Int)) = g from rfl]
  obtain ⟨kind, c2, b1, b2⟩ := kind_ok (N := N) hco a2 (by omega)
  rw [b1, bind_some']
  simp only []
  obtain ⟨s, c3, d1, d2, d3⟩ := ofKind_ok (N := N) (g := g) (kind := kind) hco hN b2 (by omega) (by omega)
  rw [d1, bind_some']
  simp only []
  obtain ⟨r, r1, _, r3, r4, _⟩ := Greedy_both (N := N) (g := g) (kind := kind) (s := s) (by omega) (by omega) hN
  rw [r1, bind_some']
  simp only []
  cases r.2 with
  | true =>
    rw [br_t]
    obtain ⟨b, c4, e1, e2⟩ := one_ok (N := N) hco d2 (by omega) 3
    rw [e1, bind_some']
    simp only []
    cases b with
    | true => rw [br_t]; exact ⟨g, kind, r.1, rfl, a3, by omega⟩
    | false => rw [br_f]; exact ⟨g, kind, s, rfl, a3, d3⟩
  | false => rw [br_f]; exact ⟨g, kind, s, rfl, a3, d3⟩
theorem DrawTights_ok {N : Nat} {code : List Int} (hco : codeOk code) (hN : 1048577 ≤ N) : ∃ (g : Int × List (Int × Int)) (kind : Int), Zq58 N code = some (((g.1, g.2), kind, ()), ()) ∧ g.2.length ≤ 100 := by
  unfold Zq58 Zq56
  obtain ⟨g, c1, a1, a2, a3⟩ := bigG_ok (N := N) hco hN cur0 (by omega)
  rw [a1, bind_some']
  simp only [show ((c1.1, (c1.2.1, c1.2.2)) : List Int × (Int × Int)) = c1 from rfl]
  obtain ⟨kind, c2, b1, b2⟩ := kind_ok (N := N) hco a2 (by omega)
  rw [b1, bind_some', bind_some']
  exact ⟨g, kind, rfl, a3⟩
theorem rHas_eq {N : Nat} {xs : List Int} {v : Int} (hx : xs.length ≤ 1048576) (hN : 1048577 ≤ N) : Zq40 N xs v = some ((decide (v ∈ xs), ()), ()) := by
  unfold Zq40
  have := loop_all_if (P := ∀ x ∈ xs, x ≠ v) (L := fun K i => Zq40_l0 N (fun x => some ((x, ()), ())) (fun (_ : Unit) => some ((false, ()), ())) K xs v i) (fun i => rdI xs i ≠ v) all_rdI (kt := some ((false, ()), ())) (kf := some ((true, ()), ())) (fun K n hn => ?_) (fun K n hn hp => ?_) (fun K n hn hp => ?_) (show xs.length < N by omega)
  · rw [show ((0 : Nat) : Int) = 0 from rfl] at this
    rw [this]
    by_cases h : v ∈ xs
    · rw [if_neg (fun h' => h' v h rfl), decide_eq_true h]
    · rw [if_pos (fun x hx (h' : x = v) => h (h' ▸ hx)), decide_eq_false h]
  · simp only [Zq40_l0, ilt_lenf hn, br_f]
  · simp only [Zq40_l0, ilt_len hn, br_t, inb_n hn, chk_t]
    rw [ieq_f hp, br_f, wrap_succ (by omega)]
  · simp only [Zq40_l0, ilt_len hn, br_t, inb_n hn, chk_t]
    rw [ieq_t (Decidable.not_not.1 hp), br_t]
theorem rIndex_in {N : Nat} {L : List (List Int)} {x : List Int} (hl : L.length ≤ 1048576) (hL : ∀ s ∈ L, s.length ≤ 1048576) (hN : 1048577 ≤ N) (h : x ∈ L) : ∃ i : Int, 0 ≤ i ∧ Zq41 N L x = some ((i, ()), ()) := by
  unfold Zq41
  have go : ∀ (d n K : Nat), n + d = L.length → d < K → x ∈ L.drop n → ∃ i : Int, 0 ≤ i ∧ Zq41_l0 N (fun x1 => some ((x1, ()), ())) (fun (_ : Unit) => some (((-1), ()), ())) K L x (n : Int) = some ((i, ()), ()) := by
    intro d
    induction d with
    | zero =>
      intro n K hd hK hm
      rw [List.drop_of_length_le (by omega)] at hm
      cases hm
    | succ d ih =>
      intro n K hd hK hm
      obtain ⟨K, rfl⟩ := succ_of hK
      have hn : n < L.length := by omega
      have hs := hL _ (List.getElem_mem hn)
      simp only [Zq41_l0, ilt_len hn, br_t, inb_n hn, chk_t]
      rw [rdL_n hn, rInts_eq (by omega) (by omega), bind_some']
      by_cases e : L[n] = x
      · rw [decide_eq_true e, br_t]
        exact ⟨(n : Int), by omega, rfl⟩
      · rw [decide_eq_false e, br_f, wrap_succ (by omega)]
        refine ih (n + 1) K (by omega) (by omega) ?_
        rw [List.drop_eq_getElem_cons hn] at hm
        rcases List.mem_cons.1 hm with q | q
        · exact absurd q.symm e
        · exact q
  have := go L.length 0 N (by omega) (by omega) (by simpa using h)
  simpa using this
theorem rGraph_self {N : Nat} {g : Int × List (Int × Int)} (hx : g.2.length ≤ 1048576) (hN : 1048577 ≤ N) : Zq39 N g g = some ((true, ()), ()) := by
  unfold Zq39
  rw [ieq_t rfl, br_t, rPairs_self hx hN, bind_some']
theorem kinds_l0 {R : Type} {N m A : Nat} {kind : Int} {b : Bool} {es : List (Int × Int)} {W : List Int} {k0 : Bool → Option R} {k1 : Unit → Option R} (hm : m ≤ 8) (hW : W.length ≤ 1048576) (h1 : ∀ n, n < m → b = true → shrB kind A n = true → (n : Int) ∉ W) (h2 : ∀ n, n < m → shrB kind A n = false → (n : Int) ∈ W) (hN : 1048577 ≤ N) :
    ∀ (d n K : Nat), n + d = m → d < K → Zq37_l0 N k0 k1 K kind (setOf m A) b (n : Int) (m : Int) es W = k1 () := by
  have hsl := setOf_len m A
  intro d
  induction d with
  | zero =>
    intro n K hd hK
    obtain ⟨K, rfl⟩ := succ_of hK
    simp only [Zq37_l0, ilt_nf (show ¬ n < m by omega), br_f]
  | succ d ih =>
    intro n K hd hK
    obtain ⟨K, rfl⟩ := succ_of hK
    have hn : n < m := by omega
    have nx := ih (n + 1) K (by omega) (by omega)
    simp only [Zq37_l0, ilt_n hn, br_t]
    rw [rHas_eq (by omega) hN, bind_some']
    simp only []
    rw [dec_mem hn, shr_spec, rHas_eq hW hN, wrap_succ (by omega)]
    simp only [bind_some']
    cases hs : shrB kind A n with
    | true =>
      simp only [Bool.not_true, br_f, br_t]
      cases b with
      | true =>
        rw [br_t, decide_eq_false (h1 n hn rfl hs), br_f]
        exact nx
      | false =>
        rw [br_f]
        exact nx
    | false =>
      simp only [Bool.not_false, br_f, br_t]
      rw [decide_eq_true (h2 n hn hs)]
      simp only [Bool.not_true, br_f]
      cases b <;> exact nx
theorem br_same {R : Type} (b : Bool) (x : Option R) : br b x x = x := by cases b <;> rfl
theorem has_one {g : Int × List (Int × Int)} {kind : Int} {s : List Int} : (hasV g kind s).1 = decide (ofK g kind s) := by
  unfold hasV
  by_cases h : kCase g kind ∧ rising 0 (g.1 - 1) s
  · rw [if_pos h]
    exact decide_eq_decide.2 ⟨fun q => ⟨h.1, h.2, q⟩, fun q => q.2.2⟩
  · rw [if_neg h]
    exact (decide_eq_false fun q : ofK g kind s => h ⟨q.1, q.2.1⟩).symm
theorem clique_has {g : Int × List (Int × Int)} {s : List Int} (h1 : (otherR g s).2 = true) (h2 : (cliqueR g).2 = true) : ∃ c, hasV g 2 s = (c, true) ∧ hasV (cliqueR g).1 1 (otherR g s).1 = (c, true) := by
  unfold otherR at h1
  split at h1
  case isFalse => cases h1
  case isTrue h =>
  obtain ⟨hg, hr⟩ := h
  obtain ⟨A, hA, rfl⟩ := setCase_facts hg hr
  have hg1 := hg.1
  have e1 : (otherR g (setOf g.1.toNat A)).1 = setOf g.1.toNat (oth g.1.toNat A) := by
    unfold otherR
    rw [if_pos ⟨hg, hr⟩]
    exact oth_list
  have e2 : (cliqueR g).1 = (g.1, clE g.1.toNat g.2) := by unfold cliqueR; rw [if_pos hg]
  rw [e1, e2]
  obtain ⟨m, hm⟩ : ∃ m : Nat, g.1 = (m : Int) := ⟨g.1.toNat, by omega⟩
  have hmn : g.1.toNat = m := by omega
  have hgc : goodG (g.1, clE g.1.toNat g.2) := by
    rw [hm]
    rw [show ((m : Int)).toNat = m from Int.toNat_natCast m]
    exact ⟨by simp only; omega, okSt_pair (clE_ok m g.2)⟩
  have hr2 : rising 0 (g.1 - 1) (setOf g.1.toNat (oth g.1.toNat A)) := by
    rw [hmn, hm]
    exact setOf_rising
  refine ⟨decide (hasK g.1.toNat g.2 2 (setOf g.1.toNat A)), ?_, ?_⟩
  · unfold hasV
    rw [if_pos ⟨⟨hg, by decide, by decide⟩, hr⟩]
  · unfold hasV
    rw [if_pos ⟨⟨hgc, by decide, by decide⟩, hr2⟩]
    simp only
    rw [decide_eq_decide.2 (clique_cover (m := g.1.toNat) (A := A) (es := g.2)).symm]
theorem Kinds_pure {N : Nat} (hN : 1048577 ≤ N) {code : List Int} (hw : ∀ y ∈ code, (Lit.int .u8 y).wf = true) : Zq37 N code = some ((true, ()), ()) := by
  unfold Zq37 Zq38
  rw [bind_some']
  simp only []
  rw [tLen_n]
  by_cases hb : 65536 < code.length
  · rw [ilt_t (by omega), br_t]
  · rw [ilt_f (by omega), br_f]
    have hco := code_ok hw (by omega)
    obtain ⟨g, kind, s, d1, d2, d3⟩ := DrawTight_ok (N := N) hco hN
    obtain ⟨h, k, e1, e2⟩ := DrawTights_ok (N := N) hco hN
    have hx : g.2.length ≤ 1048576 := by omega
    have hy : h.2.length ≤ 1048576 := by omega
    have hs : s.length ≤ 1048576 := by omega
    obtain ⟨t1, t2⟩ := IsTight_both (g := g) (kind := kind) (s := s) hx hs hN
    obtain ⟨a1, a2⟩ := Has_both (g := g) (kind := kind) (s := s) hx hs hN
    obtain ⟨W, w1, w2, w3, w4, w5⟩ := Ways_both (g := g) (kind := kind) (s := s) hx hs hN
    obtain ⟨G, g1, g2, g3, g4, g5⟩ := Greedy_both (g := g) (kind := kind) (s := s) hx hs hN
    obtain ⟨T, s1, s2, s3, s4, s5, s6⟩ := Tight_both (g := h) (kind := k) hy hN
    obtain ⟨B, b1, b2, b3, b4, b5⟩ := Best_both (g := h) (kind := k) hy hN
    obtain ⟨o1, o2⟩ := Other_both (g := g) (s := s) hx hs hN
    have o3 := otherR_len g s
    obtain ⟨c1, c2⟩ := Clique_both (g := g) hx hN
    have c3 : (cliqueR g).1.2.length ≤ 1048576 := by
      unfold cliqueR
      split
      · rename_i q
        have := clE_len (m := g.1.toNat) (by have := q.1; omega) g.2
        simp only
        omega
      · simp
    obtain ⟨_, p1⟩ := Has_both (g := g) (kind := 2) (s := s) hx hs hN
    obtain ⟨_, p2⟩ := Has_both (g := (cliqueR g).1) (kind := 1) (s := (otherR g s).1) c3 (by omega) hN
    obtain ⟨_, q1⟩ := IsTight_both (g := g) (kind := kind) (s := G.1) hx (by omega) hN
    have T1 : Zq44 N T.1 T.1 = some ((true, ()), ()) := by rw [rTable_eq (by omega) (fun x hx => by have := s4 x hx; omega) hN, decide_eq_true rfl]
    have ri : ∀ x : List Int, x.length ≤ 1048575 → Zq42 N x x = some ((true, ()), ()) := fun x hx => by rw [rInts_eq (by omega) (by omega), decide_eq_true rfl]
    have i1 := ri W.1 (by omega)
    have i2 := ri G.1 (by omega)
    have i3 := ri B.1 (by omega)
    have i4 := ri (otherR g s).1 (by omega)
    have i5 := rGraph_self (g := (cliqueR g).1) c3 hN
    have i6 : Zq42 N G.1 s = some ((decide (G.1 = s), ()), ()) := rInts_eq (by omega) (by omega)
    have hbt : B.2 = T.2 := by
      cases q1 : B.2 with
      | true => exact (s5.2 (b4.1 q1)).symm
      | false =>
        cases q2 : T.2 with
        | false => rfl
        | true => rw [b4.2 (s5.1 q2)] at q1; cases q1
    have idx : T.2 = true → ∃ i : Int, 0 ≤ i ∧ Zq41 N T.1 B.1 = some ((i, ()), ()) := fun q => by
      have hk := s5.1 q
      obtain ⟨L, l1, l2⟩ := s6 hk
      obtain ⟨q1, q2, _⟩ := b5 L l1 hk
      refine rIndex_in (by omega) (fun x hx => by have := s4 x hx; omega) hN ?_
      rw [l2, q1]
      exact best_tight l1 q2
    have eg : ((g.1, g.2) : Int × List (Int × Int)) = g := rfl
    have eh : ((h.1, h.2) : Int × List (Int × Int)) = h := rfl
    have ec : (((cliqueR g).1.1, (cliqueR g).1.2) : Int × List (Int × Int)) = (cliqueR g).1 := rfl
    -- the end, where the other graph has been asked
    obtain ⟨cc, hcc⟩ : ∃ cc : Bool, (otherR g s).2 = true → (cliqueR g).2 = true → hasV g 2 s = (cc, true) ∧ hasV (cliqueR g).1 1 (otherR g s).1 = (cc, true) := by
      by_cases q : (otherR g s).2 = true ∧ (cliqueR g).2 = true
      · obtain ⟨c, h1, h2⟩ := clique_has q.1 q.2
        exact ⟨c, fun _ _ => ⟨h1, h2⟩⟩
      · exact ⟨false, fun h1 h2 => absurd ⟨h1, h2⟩ q⟩
    by_cases hof : ofK g kind s
    · -- a set of the kind
      obtain ⟨A, hA, eA⟩ := ofK_set hof
      have hk := hof.2.2
      have hg := hof.1.1
      have hg1 := hg.1
      have tv : tightV' g kind s = (tL g.1.toNat g.2 kind s, true) := by unfold tightV'; rw [if_pos hof]
      have av : hasV g kind s = (true, true) := by
        unfold hasV
        rw [if_pos ⟨hof.1, hof.2.1⟩, decide_eq_true hk]
      have wv : W.2 = true := by rw [w4]; exact decide_eq_true hof
      have gv : G.2 = true := by rw [g4]; exact decide_eq_true hof
      have ov : (otherR g s).2 = true := by unfold otherR; rw [if_pos ⟨hg, hof.2.1⟩]
      have cv : (cliqueR g).2 = true := by unfold cliqueR; rw [if_pos hg]
      obtain ⟨h1, h2⟩ := hcc ov cv
      have hW := w5 A hA eA hof
      have hG := g5 A hA eA hof
      rw [eA] at hk
      have gf := grN_facts (vK_up g.1.toNat g.2 kind) (sg_lt hA) (vK_sg.2 hk) g.1.toNat (Nat.le_refl _)
      have gt := grN_tight (vK_up g.1.toNat g.2 kind) (sg_lt hA) (vK_sg.2 hk)
      have hGl : grM g.1.toNat g.2 kind g.1.toNat A < 2 ^ g.1.toNat := sg_lt gf.1
      have gt2 : hasK g.1.toNat g.2 kind (setOf g.1.toNat (grM g.1.toNat g.2 kind g.1.toNat A)) ∧ tightM g.1.toNat g.2 kind (grM g.1.toNat g.2 kind g.1.toNat A) := by
        refine tight_iff.1 ?_
        unfold grM
        rw [sg_inv]
        exact gt
      have hGr : rising 0 (g.1 - 1) (setOf g.1.toNat (grM g.1.toNat g.2 kind g.1.toNat A)) := by
        obtain ⟨m, hm⟩ : ∃ m : Nat, g.1 = (m : Int) := ⟨g.1.toNat, by omega⟩
        rw [hm]
        exact setOf_rising
      have qv : tightV' g kind G.1 = (true, true) := by
        unfold tightV'
        rw [hG, if_pos (show ofK g kind _ from ⟨hof.1, hGr, gt2.1⟩), tL_set hGl, decide_eq_true gt2.2]
      have same : tL g.1.toNat g.2 kind s = true → G.1 = s := fun q => by
        rw [eA, tL_set hA] at q
        have ht : tightV g.1.toNat (vK g.1.toNat g.2 kind) (sg kind g.1.toNat A) := tight_iff.2 ⟨hk, of_decide_eq_true q⟩
        rw [hG, eA]
        unfold grM
        rw [grN_same ht _ (Nat.le_refl _), sg_inv]
      have fin : ∀ {k0 : Bool → Option ((Bool × Unit) × Unit)} {k1 : Unit → Option ((Bool × Unit) × Unit)}, Zq37_l0 N k0 k1 N kind s (tL g.1.toNat g.2 kind s) 0 g.1 g.2 W.1 = k1 () := fun {k0 k1} => by
        obtain ⟨m, hm⟩ : ∃ m : Nat, g.1 = (m : Int) := ⟨g.1.toNat, by omega⟩
        have hmn : g.1.toNat = m := by omega
        rw [hW, eA, hmn, hm]
        rw [hmn] at hA hk
        have hwl := kwaysL_len m g.2 kind A
        have := kinds_l0 (N := N) (es := g.2) (b := tL m g.2 kind (setOf m A)) (W := kwaysL m g.2 kind A) (kind := kind) (A := A) (k0 := k0) (k1 := k1) (m := m) (by omega) (by omega) (fun n hn q1 q2 q3 => by
          rw [tL_set hA] at q1
          exact of_decide_eq_true q1 n hn q2 (mem_kways.1 q3).2) (fun n hn q2 => by
          refine mem_kways.2 ⟨hn, ?_⟩
          have hsb : (sg kind m A).testBit n = false := by
            rw [sg_bit hn]
            exact q2
          have := vK_up m g.2 kind _ _ (sg_lt hA) (xor_lt (sg_lt hA) hn) (sub_add hsb) (vK_sg.2 hk)
          rw [← sg_xor, vK_sg] at this
          exact this) hN m 0 N (by omega) (by omega)
        rw [show ((0 : Nat) : Int) = 0 from rfl] at this
        exact this
      rw [tv] at t1 t2
      rw [av] at a1 a2
      rw [wv] at w1 w2
      rw [gv] at g1 g2
      rw [ov] at o1 o2
      rw [cv] at c1 c2
      rw [h1] at p1
      rw [h2] at p2
      rw [qv] at q1
      rw [hbt] at b1 b2
      have i7 : tL g.1.toNat g.2 kind s = true → Zq42 N G.1 s = some ((true, ()), ()) := fun q => by rw [i6, decide_eq_true (same q)]
      have fin2 : ∀ {k0 : Bool → Option ((Bool × Unit) × Unit)} {k1 : Unit → Option ((Bool × Unit) × Unit)}, br (tL g.1.toNat g.2 kind s) ((Zq42 N G.1 s).bind fun r29 => br (!r29.1.1) (some ((false, ()), ())) (Zq37_l0 N k0 k1 N kind s (tL g.1.toNat g.2 kind s) 0 g.1 g.2 W.1)) (Zq37_l0 N k0 k1 N kind s (tL g.1.toNat g.2 kind s) 0 g.1 g.2 W.1) = k1 () := fun {k0 k1} => by
        rw [fin]
        cases q : tL g.1.toNat g.2 kind s with
        | true =>
          rw [br_t, i7 q, bind_some']
          rfl
        | false => rw [br_f]
      cases hT : T.2 with
      | true =>
        obtain ⟨i, i0, hi⟩ := idx hT
        rw [hT] at s1 s2 b1 b2
        have hil : ilt i 0 = false := ilt_f (by omega)
        simp only [d1, e1, t1, t2, a1, a2, w1, w2, g1, g2, s1, s2, b1, b2, o1, o2, c1, c2, p1, p2, q1, T1, i1, i2, i3, i4, i5, hi, hil, eg, eh, ec, bind_some', beq_self_eq_true, Bool.not_true, Bool.not_false, br_t, br_f, fin, i6, br_same]
        cases q : tL g.1.toNat g.2 kind s with
        | true =>
          rw [br_t, decide_eq_true (same q)]
          rfl
        | false => rw [br_f]
      | false =>
        rw [hT] at s1 s2 b1 b2
        simp only [d1, e1, t1, t2, a1, a2, w1, w2, g1, g2, s1, s2, b1, b2, o1, o2, c1, c2, p1, p2, q1, T1, i1, i2, i3, i4, i5, eg, eh, ec, bind_some', beq_self_eq_true, Bool.not_true, Bool.not_false, br_t, br_f, fin, i6, br_same]
        cases q : tL g.1.toNat g.2 kind s with
        | true =>
          rw [br_t, decide_eq_true (same q)]
          rfl
        | false => rw [br_f]
    · have tv : tightV' g kind s = (false, false) := by unfold tightV'; rw [if_neg hof]
      have av : (hasV g kind s).1 = false := by rw [has_one]; exact decide_eq_false hof
      have wv : W.2 = false := by rw [w4]; exact decide_eq_false hof
      have gv : G.2 = false := by rw [g4]; exact decide_eq_false hof
      rw [tv] at t1 t2
      rw [av] at a1 a2
      rw [wv] at w1 w2
      rw [gv] at g1 g2
      rw [hbt] at b1 b2
      have rest : ∀ (X Y : Option ((Bool × Unit) × Unit)), True := fun _ _ => trivial
      cases ho : (otherR g s).2 with
      | true =>
        cases hc : (cliqueR g).2 with
        | true =>
          obtain ⟨h1, h2⟩ := hcc ho hc
          rw [ho] at o1 o2
          rw [hc] at c1 c2
          rw [h1] at p1
          rw [h2] at p2
          cases hT : T.2 with
          | true =>
            obtain ⟨i, i0, hi⟩ := idx hT
            rw [hT] at s1 s2 b1 b2
            have hil : ilt i 0 = false := ilt_f (by omega)
            simp only [d1, e1, t1, t2, a1, a2, w1, w2, g1, g2, s1, s2, b1, b2, o1, o2, c1, c2, p1, p2, T1, i1, i2, i3, i4, i5, hi, hil, eg, eh, ec, bind_some', beq_self_eq_true, Bool.not_true, Bool.not_false, br_t, br_f, br_same]
          | false =>
            rw [hT] at s1 s2 b1 b2
            simp only [d1, e1, t1, t2, a1, a2, w1, w2, g1, g2, s1, s2, b1, b2, o1, o2, c1, c2, p1, p2, T1, i1, i2, i3, i4, i5, eg, eh, ec, bind_some', beq_self_eq_true, Bool.not_true, Bool.not_false, br_t, br_f, br_same]
        | false =>
          rw [ho] at o1 o2
          rw [hc] at c1 c2
          cases hT : T.2 with
          | true =>
            obtain ⟨i, i0, hi⟩ := idx hT
            rw [hT] at s1 s2 b1 b2
            have hil : ilt i 0 = false := ilt_f (by omega)
            simp only [d1, e1, t1, t2, a1, a2, w1, w2, g1, g2, s1, s2, b1, b2, o1, o2, c1, c2, T1, i1, i2, i3, i4, i5, hi, hil, eg, eh, ec, bind_some', beq_self_eq_true, Bool.not_true, Bool.not_false, br_t, br_f, br_same]
          | false =>
            rw [hT] at s1 s2 b1 b2
            simp only [d1, e1, t1, t2, a1, a2, w1, w2, g1, g2, s1, s2, b1, b2, o1, o2, c1, c2, T1, i1, i2, i3, i4, i5, eg, eh, ec, bind_some', beq_self_eq_true, Bool.not_true, Bool.not_false, br_t, br_f, br_same]
      | false =>
        rw [ho] at o1 o2
        cases hT : T.2 with
        | true =>
          obtain ⟨i, i0, hi⟩ := idx hT
          rw [hT] at s1 s2 b1 b2
          have hil : ilt i 0 = false := ilt_f (by omega)
          simp only [d1, e1, t1, t2, a1, a2, w1, w2, g1, g2, s1, s2, b1, b2, o1, o2, c1, c2, T1, i1, i2, i3, i4, i5, hi, hil, eg, eh, ec, bind_some', beq_self_eq_true, Bool.not_true, Bool.not_false, br_t, br_f, br_same]
        | false =>
          rw [hT] at s1 s2 b1 b2
          simp only [d1, e1, t1, t2, a1, a2, w1, w2, g1, g2, s1, s2, b1, b2, o1, o2, c1, c2, T1, i1, i2, i3, i4, i5, eg, eh, ec, bind_some', beq_self_eq_true, Bool.not_true, Bool.not_false, br_t, br_f, br_same]
theorem Kinds_pureT : ∀ x : argsT (psOf [LU8]), WfA [LU8] x → ∃ k m, (Zq37_S k).f x = some ((true, ()), m) :=
  fun x h => ⟨1048577, (), Kinds_pure (Nat.le_refl _) h.1.2⟩
end Go.Proofs.YtffeokcchabclaaGreat
