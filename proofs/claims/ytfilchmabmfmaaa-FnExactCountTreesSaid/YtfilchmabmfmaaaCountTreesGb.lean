/- Statements on data alone. -/
import Derived.Test.YtfilchmabmfmaaaPvPure
import Derived.Test.YtfilchmabmfmaaaCountTreesGa
set_option linter.all false
set_option linter.all false
namespace Go.Proofs.Ytfilchmabmfmaaa
open Go Go.PV Classical
noncomputable def lapU (m : Nat) (es : List (Int × Int)) (X a b : Nat) : Int := if a < X then lapM m es a b else 0
theorem lap_out {R : Type} {N m n : Nat} {es : List (Int × Int)} {k0 : Int → List Int → Option R} (hg : goodG ((m : Int), es)) (hx : es.length ≤ 1048576) (hn : n ≤ 7) (hN : 1048577 ≤ N) :
    ∀ (d X K : Nat) (o : List Int), X + d = n → d < K → ImpM n o (lapU m es X) → ∃ o', ImpM n o' (lapM m es) ∧ Zq3_l0 N k0 K (n : Int) (n : Int) (X : Int) (m : Int) es o = k0 (n : Int) o' := by
  intro d
  induction d with
  | zero =>
    intro X K o hd hK ho
    obtain ⟨K, rfl⟩ := succ_of hK
    have : X = n := by omega
    subst this
    simp only [Zq3_l0, ilt_nf (Nat.lt_irrefl X), br_f]
    exact ⟨o, impM_congr ho fun a b ha _ => by unfold lapU; rw [if_pos ha], rfl⟩
  | succ d ih =>
    intro X K o hd hK ho
    obtain ⟨K, rfl⟩ := succ_of hK
    have hX : X < n := by omega
    simp only [Zq3_l0, ilt_n hX, br_t]
    rw [neighbors_eq hg hx hN, bind_some']
    simp only []
    rw [c8 (show X < 8 by omega), chk_t, chk_t, ix8, inb_n (by have := ho.1; omega), chk_t, tLen_n]
    have e1 : lapM m es X X = ((nbr m es (X : Int)).length : Int) := by unfold lapM; rw [if_pos rfl]
    obtain ⟨o1, h1, h2⟩ := lap_in (N := N) (X := X) (x3 := (n : Int)) (x5 := (n : Int)) (x6 := (X : Int)) (k0 := fun x3 x4 x5 o3 o4 o5 => Zq3_l0 N k0 K x3 x4 (IntKind.i64.wrap (x5 + 1)) o3 o4 o5) hg hx hn hX hN n 0 N _ (by omega) (by omega) (impM_congr (impM_set (v := ((nbr m es (X : Int)).length : Int)) hn ho hX hX) fun a b _ _ => by
      unfold upM lapT lapU
      by_cases q0 : a = X ∧ b = X
      · obtain ⟨rfl, rfl⟩ := q0
        rw [if_pos ⟨rfl, rfl⟩, if_neg (Nat.lt_irrefl _), if_pos rfl, if_pos rfl, e1]
      · rw [if_neg q0]
        by_cases q1 : a < X
        · rw [if_pos q1, if_pos q1]
        · rw [if_neg q1, if_neg q1]
          by_cases q2 : a = X
          · rw [if_pos q2, if_neg (by omega), if_neg (by omega)]
          · rw [if_neg q2])
    rw [show ((0 : Nat) : Int) = 0 from rfl] at h2
    rw [h2, wrap_succ (by omega)]
    refine ih (X + 1) K o1 (by omega) (by omega) (impM_congr h1 fun a b _ hb => ?_)
    unfold lapT lapU
    by_cases q1 : a < X
    · rw [if_pos q1, if_pos (by omega)]
    · rw [if_neg q1]
      by_cases q2 : a = X
      · subst q2
        rw [if_pos rfl, if_pos (show a < a + 1 by omega)]
        by_cases q3 : b = a
        · rw [if_pos q3, q3]
        · rw [if_neg q3, if_pos hb]
      · rw [if_neg q2, if_neg (by omega)]
theorem ref_in {R : Type} {N m n X : Nat} {es : List (Int × Int)} {rows : List (List Int)} {k0 : Int → Int → List (Int × Int) → List (List Int) → List Int → Option R} (hx : es.length ≤ 1048576) (hm : n + 1 = m) (hn : n ≤ 7) (hN : 1048577 ≤ N) :
    ∀ (d Y K : Nat) (o : List Int), Y + d = n → d < K → o.length = n → (∀ b, b < n → b ≠ X → rdI o (b : Int) = if b < Y then lapM m es X b else 0) →
      ∃ o', o'.length = n ∧ (∀ b, b < n → b ≠ X → rdI o' (b : Int) = lapM m es X b) ∧ Zq22_l0_0 N k0 K (X : Int) (Y : Int) (m : Int) es rows o = k0 (X : Int) (m : Int) es rows o' := by
  classical
  intro d
  induction d with
  | zero =>
    intro Y K o hd hK ho h
    obtain ⟨K, rfl⟩ := succ_of hK
    simp only [Zq22_l0_0]
    rw [wrap_succ (by omega), ilt_nf (by omega), br_f]
    exact ⟨o, ho, fun b hb hne => by rw [h b hb hne, if_pos (by omega)], rfl⟩
  | succ d ih =>
    intro Y K o hd hK ho h
    obtain ⟨K, rfl⟩ := succ_of hK
    have hY : Y < n := by omega
    have hws : IntKind.i64.wrap ((Y : Int) + 1) = ((Y + 1 : Nat) : Int) := wrap_succ (by omega)
    simp only [Zq22_l0_0]
    rw [hws, ilt_n (by omega), br_t, l2Near_eq (g := ((m : Int), es)) hx hN, bind_some']
    simp only []
    by_cases q : nearG es (X : Int) (Y : Int)
    · rw [decide_eq_true q, br_t, inb_n (by omega), chk_t]
      refine ih (Y + 1) K _ (by omega) (by omega) (by simp [tSet, ho]) fun b hb hne => ?_
      rw [rdI_set (by omega) _ _ (Int.natCast_nonneg _)]
      by_cases e : b = Y
      · subst e
        rw [if_pos rfl, if_pos (by omega)]
        unfold lapM
        rw [if_neg (Ne.symm hne), if_pos q]
      · rw [if_neg (by omega), h b hb hne]
        by_cases q4 : b < Y
        · rw [if_pos q4, if_pos (by omega)]
        · rw [if_neg q4, if_neg (by omega)]
    · rw [decide_eq_false q, br_f]
      refine ih (Y + 1) K o (by omega) (by omega) ho fun b hb hne => ?_
      rw [h b hb hne]
      by_cases q4 : b < Y
      · rw [if_pos q4, if_pos (by omega)]
      · rw [if_neg q4]
        by_cases e : b = Y
        · subst e
          rw [if_pos (by omega)]
          unfold lapM
          rw [if_neg (Ne.symm hne), if_neg q]
        · rw [if_neg (by omega)]
theorem ref_out {R : Type} {N m n : Nat} {es : List (Int × Int)} {k0 : List (List Int) → Option R} (hx : es.length ≤ 1048576) (hm : n + 1 = m) (hn : n ≤ 7) (hN : 1048577 ≤ N) :
    ∀ (d X K : Nat) (rows : List (List Int)), X + d = n → d < K → rows.length = X → (∀ a, a < X → (rdL rows (a : Int)).length = n ∧ ∀ b, b < n → rdI (rdL rows (a : Int)) (b : Int) = lapM m es a b) →
      ∃ rows', SpcM n rows' (lapM m es) ∧ Zq22_l0 N k0 K (X : Int) (m : Int) es rows = k0 rows' := by
  classical
  intro d
  induction d with
  | zero =>
    intro X K rows hd hK hr h
    obtain ⟨K, rfl⟩ := succ_of hK
    have : X = n := by omega
    subst this
    simp only [Zq22_l0]
    rw [wrap_succ (by omega), ilt_nf (by omega), br_f]
    exact ⟨rows, ⟨hr, fun i hi => (h i hi).1, fun i j hi hj => (h i hi).2 j hj⟩, rfl⟩
  | succ d ih =>
    intro X K rows hd hK hr h
    obtain ⟨K, rfl⟩ := succ_of hK
    have hX : X < n := by omega
    have hws : IntKind.i64.wrap ((X : Int) + 1) = ((X + 1 : Nat) : Int) := wrap_succ (by omega)
    have hwm : IntKind.i64.wrap ((m : Int) - 1) = (n : Int) := by rw [wrap_ok (by omega) (by omega)]; omega
    simp only [Zq22_l0]
    rw [hws, ilt_n (by omega), br_t, hwm, ile_t (Int.natCast_nonneg _), ile_t (Int.le_refl _), show fits (n : Int) = true from Nat.ble_eq_true_of_le (by simp; omega)]
    simp only [Bool.and_self, chk_t]
    obtain ⟨o1, h1, h2, h3⟩ := ref_in (N := N) (X := X) (rows := rows) (es := es) (k0 := fun x1 o3 o4 o5 o6 => ((Zq27 N (o3, o4) x1).bind fun r1 =>
        (chk (inb o6 x1)
          (chk (room o5 [(tSet o6 x1 (tLen r1.1.1))])
          (Zq22_l0 N k0 K (IntKind.i64.wrap (x1 + 1)) o3 o4 (tApp o5 [(tSet o6 x1 (tLen r1.1.1))])))))) hx hm hn hN n 0 N (tRep (n : Int) (0 : Int)) (by omega) (by omega) (by simp [tRep]) (fun b hb _ => by
          rw [if_neg (by omega), rdI_n (by simp [tRep]; exact hb)]
          simp [tRep])
    rw [show ((0 : Nat) : Int) = 0 from rfl] at h3
    rw [h3, l2Neighbors_eq (by omega) hx hN, bind_some']
    simp only []
    rw [inb_n (by omega), chk_t, room_ok (by simp; omega), chk_t, hws, tLen_n]
    refine ih (X + 1) K _ (by omega) (by omega) (by simp [tApp_d, hr]) fun a ha => ?_
    have hrow : ∀ b, b < n → rdI (tSet o1 (X : Int) ((nbr m es (X : Int)).length : Int)) (b : Int) = lapM m es X b := fun b hb => by
      rw [rdI_set (by omega) _ _ (Int.natCast_nonneg _)]
      by_cases e : b = X
      · subst e
        rw [if_pos rfl]
        unfold lapM
        rw [if_pos rfl]
      · rw [if_neg (by omega)]
        exact h2 b hb e
    by_cases e : a = X
    · subst e
      have e1 : rdL (tApp rows [tSet o1 (a : Int) ((nbr m es (a : Int)).length : Int)]) (a : Int) = tSet o1 (a : Int) ((nbr m es (a : Int)).length : Int) := by
        rw [rdL_n (by simp [tApp_d, hr])]
        simp [tApp_d, hr]
      rw [e1]
      exact ⟨by simp [tSet, h1], hrow⟩
    · have e1 : rdL (tApp rows [tSet o1 (X : Int) ((nbr m es (X : Int)).length : Int)]) (a : Int) = rdL rows (a : Int) := by
        have q : a < rows.length := by omega
        rw [rdL_n (by simp [tApp_d]; omega), rdL_n q]
        simp only [tApp_d]
        exact List.getElem_append_left q
      rw [e1]
      exact h a (by omega)
theorem Trees_both {N : Nat} {g : Int × List (Int × Int)} (hx : g.2.length ≤ 1048576) (hN : 1048577 ≤ N) : ∃ v : Int × Bool, Zq22 N g = some ((v.1, v.2, ()), ()) ∧ Zq3 N g = some ((v.1, v.2, ()), ()) := by
  unfold Zq22 Zq3
  simp only [show ((g.1, g.2) : Int × List (Int × Int)) = g from rfl]
  rw [l7Some_eq hx hN, bind_some', IsGraph_eq hx hN, bind_some']
  by_cases hg : goodG g
  · rw [decide_eq_true hg]
    simp only [Bool.not_true, br_f]
    have hg1 := hg.1
    by_cases h0 : g.1 = 0
    · rw [ieq_t h0, br_t, decide_eq_false (fun q : goodG g ∧ 0 < g.1 => by omega)]
      exact ⟨(0, false), rfl, rfl⟩
    · rw [ieq_f h0, br_f, decide_eq_true (show goodG g ∧ 0 < g.1 from ⟨hg, by omega⟩)]
      simp only [Bool.not_true, br_f]
      obtain ⟨m, hm⟩ : ∃ m : Nat, g.1 = (m : Int) := ⟨g.1.toNat, by omega⟩
      obtain ⟨g1, es⟩ := g
      simp only at hm hx hg1 h0 ⊢
      subst hm
      obtain ⟨n, rfl⟩ : ∃ n : Nat, m = n + 1 := ⟨m - 1, by omega⟩
      have hn : n ≤ 7 := by omega
      have hwm : IntKind.i64.wrap (((n + 1 : Nat) : Int) - 1) = (n : Int) := by rw [wrap_ok (by omega) (by omega)]; omega
      rw [hwm, ieq_t (show tLen (tRep 64 (0 : Int)) = 64 from rfl), chk_t]
      obtain ⟨rows, r1, r2⟩ := ref_out (N := N) (m := n + 1) (n := n) (es := es) (k0 := fun o => ((Zq29 N o).bind fun r1 => some ((r1.1.1, true, ()), ()))) hx rfl hn hN n 0 N [] (by omega) (by omega) rfl (fun a ha => by omega)
      have hz : ImpM n [0, 0, 0, 0, 0, 0, 0, 0, 0, 0, 0, 0, 0, 0, 0, 0, 0, 0, 0, 0, 0, 0, 0, 0, 0, 0, 0, 0, 0, 0, 0, 0, 0, 0, 0, 0, 0, 0, 0, 0, 0, 0, 0, 0, 0, 0, 0, 0, 0, 0, 0, 0, 0, 0, 0, 0, 0, 0, 0, 0, 0, 0, 0, 0] (lapU (n + 1) es 0) := by
        refine ⟨rfl, fun i j hi hj => ?_⟩
        unfold lapU
        rw [if_neg (by omega)]
        have hr : ([0, 0, 0, 0, 0, 0, 0, 0, 0, 0, 0, 0, 0, 0, 0, 0, 0, 0, 0, 0, 0, 0, 0, 0, 0, 0, 0, 0, 0, 0, 0, 0, 0, 0, 0, 0, 0, 0, 0, 0, 0, 0, 0, 0, 0, 0, 0, 0, 0, 0, 0, 0, 0, 0, 0, 0, 0, 0, 0, 0, 0, 0, 0, 0] : List Int) = List.replicate 64 0 := rfl
        rw [hr, rdI_n (by simp; omega), List.getElem_replicate]
      obtain ⟨o, p1, p2⟩ := lap_out (N := N) (m := n + 1) (n := n) (es := es) (k0 := fun x o => Zq3_l1 N (fun x1 x2 => some ((x1, x2, ()), ())) (fun x3 => some ((x3, true, ()), ())) N x 1 x 0 o) hg hx hn hN n 0 N _ (by omega) (by omega) hz
      rw [show ((0 : Nat) : Int) = 0 from rfl] at r2 p2
      rw [r2, p2]
      obtain ⟨v, b1, b2⟩ := bar_main (N := N) hn hN n 0 N N (lapM (n + 1) es) 1 o rows (by omega) (by omega) (by omega) p1 r1 (lap_bar hg (by omega) rfl)
      rw [show ((0 : Nat) : Int) = 0 from rfl] at b1 b2
      unfold Zq29
      rw [b1, b2, bind_some']
      exact ⟨(v, true), rfl, rfl⟩
  · rw [decide_eq_false hg, decide_eq_false (fun q : goodG g ∧ 0 < g.1 => hg q.1)]
    exact ⟨(0, false), rfl, rfl⟩
theorem CountTrees_pure {g : Int × List (Int × Int)} (hx : g.2.length ≤ 9223372036854775807) : Zq11 1048577 g = some ((true, ()), ()) := by
  unfold Zq11
  have hN : 1048577 ≤ 1048577 := Nat.le_refl _
  obtain ⟨r, h1, h2⟩ := szGraph_eq (N := 1048577) hx
  simp only [h1, bind_some']
  by_cases h : 0 ≤ r
  · rw [ilt_f (by omega), br_f]
    have h3 := h2 h
    obtain ⟨v, e1, e2⟩ := Trees_both (N := 1048577) h3 hN
    simp only [toGraph_eq h3 hN, bind_some', e1, e2, ine_f (rfl : v.1 = v.1), eqGraph_eq h3 hN, beq_self_eq_true, decide_true, Bool.not_true, br_f]
  · rw [ilt_t (by omega), br_t]
theorem CountTrees_pureT : ∀ x : argsT (psOf [QILQII]), WfA [QILQII] x → ∃ k m, (Zq11_S k).f x = some ((true, ()), m) :=
  fun x h => ⟨1048577, (), CountTrees_pure (len_ok h.1.2.1)⟩
end Go.Proofs.Ytfilchmabmfmaaa
