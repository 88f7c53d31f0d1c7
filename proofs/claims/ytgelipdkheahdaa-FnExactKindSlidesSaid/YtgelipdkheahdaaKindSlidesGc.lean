/- Statements on data alone. -/
import Derived.Test.YtgelipdkheahdaaPvPure
import Derived.Test.YtgelipdkheahdaaKindSlidesGb
set_option linter.all false
set_option linter.all false
namespace Go.Proofs.Ytgelipdkheahdaa
open Go Go.PV Classical
def ExSt (m : Nat) (es : List (Int × Int)) (kind : Int) (k : Nat) (ys : List (List Int)) : Prop := lexSorted ys ∧ ∀ s, s ∈ ys ↔ (∃ a : Nat, a < 2 ^ m ∧ s = setOf m a) ∧ hasK m es kind s ∧ s.length = k
theorem lex_small {m : Nat} {ys : List (List Int)} (hs : lexSorted ys) (h : ∀ s ∈ ys, ∃ a : Nat, a < 2 ^ m ∧ s = setOf m a) : ys.length ≤ 2 ^ m := by
  have := nodup_leL (lex_nodup hs) (b := masksL m fun _ => true) fun x hx => mem_masksL.2 ⟨h x hx, rfl⟩
  exact Nat.le_trans this (masksL_len ..)
theorem l4Ex_eq {N m : Nat} {es : List (Int × Int)} {kind : Int} {k : Nat} {near : Bool} (hm : m ≤ 8) (hx : es.length ≤ 1048576) (hN : 1048577 ≤ N) : ∃ ys, ExSt m es kind k ys ∧ spec_l4Exchange N ((m : Int), es) kind (k : Int) near = some (((ys, stepsL (exP es near) ys), ()), ()) := by
  have h256 := pow256 hm
  obtain ⟨L, l1, l2, l3, l4⟩ := l4Sets_eq (kind := kind) hm hx hN
  have hLr : ∀ x ∈ L.filter (fun s => decide (s.length = k)), x.length ≤ 1048576 := fun x hx => by
    obtain ⟨⟨a, _, rfl⟩, _⟩ := (l4 x).1 (List.mem_filter.1 hx).1
    have := setOf_len m a
    omega
  have hLl := List.length_filter_le (fun s : List Int => decide (s.length = k)) L
  obtain ⟨ys, y1, y2, y3⟩ := l2Sorted_eq (N := N) (xs := L.filter fun s => decide (s.length = k)) (by omega) hLr hN
  have hst : ExSt m es kind k ys := ⟨y2, fun s => by rw [y3 s, List.mem_filter, l4 s, decide_eq_true_eq, and_assoc]⟩
  have hsm := lex_small y2 fun s hs => ((hst.2 s).1 hs).1
  refine ⟨ys, hst, ?_⟩
  unfold spec_l4Exchange
  simp only []
  rw [l1, bind_some']
  simp only []
  rw [filt_rows (by omega) hN, y1, bind_some']
  simp only []
  refine ex_loop hx (fun a ha => hLr a ((y3 a).1 ha)) (fun a ha b hb => ?_) (by omega) hN
  obtain ⟨⟨A, _, rfl⟩, _, h1⟩ := (hst.2 a).1 ha
  obtain ⟨⟨B, _, rfl⟩, _, h2⟩ := (hst.2 b).1 hb
  exact lone_len (setOf_nodup m A) (setOf_nodup m B) (by omega)
theorem exactly_eq {N m : Nat} {es : List (Int × Int)} {kind : Int} {k : Nat} {ys : List (List Int)} (hm : m ≤ 8) (hg : goodG ((m : Int), es)) (hx : es.length ≤ 1048576) (hst : ExSt m es kind k ys) (hN : 1048577 ≤ N) : impl_Graph_exactly N ((m : Int), es) kind (k : Int) = some ((ys, ()), ()) := by
  unfold impl_Graph_exactly
  simp only []
  rw [sets_eq (p := fun s => decide (hasK m es kind s ∧ s.length = k)) hm (fun a ha => ?_) hst.1 (fun s => by rw [hst.2 s, decide_eq_true_eq]) hN, bind_some']
  unfold impl_Graph_exactly_c1
  rw [bag_size_eq hm ha, bind_some']
  simp only []
  by_cases h1 : (setOf m a).length = k
  · rw [ieq_t (by omega), br_t, hasKind_eq hm ha hg hx hN, bind_some', bind_some']
    congr 1
    exact decide_eq_decide.2 ⟨fun h => ⟨h, h1⟩, fun h => h.1⟩
  · rw [ieq_f (by omega), br_f, decide_eq_false (fun h => h1 h.2)]
    rfl
def thrCase (g : Int × List (Int × Int)) (kind k : Int) : Prop := goodG g ∧ (1 ≤ kind ∧ kind ≤ 3) ∧ 0 ≤ k ∧ k ≤ g.1
theorem l4K_eq {N : Nat} {g : Int × List (Int × Int)} {kind k : Int} (hx : g.2.length ≤ 1048576) (hN : 1048577 ≤ N) : spec_l4K N g kind k = some ((decide (thrCase g kind k), ()), ()) := by
  unfold spec_l4K spec_l4Good spec_l4Kind thrCase
  simp only [show ((g.1, g.2) : Int × List (Int × Int)) = g from rfl, l2Good_eq hx hN, l1In_eq, bind_some']
  by_cases h : goodG g
  · rw [decide_eq_true h, br_t, bind_some']
    by_cases h2 : 1 ≤ kind ∧ kind ≤ 3
    · rw [decide_eq_true h2, br_t]; simp [h, h2]
    · rw [decide_eq_false h2, br_f]; simp [h2]
  · rw [decide_eq_false h, br_f, bind_some', br_f]; simp [h]
theorem isThr_eq {N : Nat} {g : Int × List (Int × Int)} {kind k : Int} (hx : g.2.length ≤ 1048576) (hN : 1048577 ≤ N) : impl_isThreshold N g kind k = some ((decide (thrCase g kind k), ()), ()) := by
  unfold impl_isThreshold impl_isKind thrCase
  simp only [show ((g.1, g.2) : Int × List (Int × Int)) = g from rfl, IsGraph_eq hx hN, between_eq, bind_some']
  by_cases h : goodG g
  · rw [decide_eq_true h, br_t]
    by_cases h2 : 1 ≤ kind ∧ kind ≤ 3
    · rw [decide_eq_true h2, br_t]; simp [h, h2]
    · rw [decide_eq_false h2, br_f]; simp [h2]
  · rw [decide_eq_false h, br_f]; simp [h]
theorem exSp_ok {m : Nat} {es : List (Int × Int)} {kind : Int} {k : Nat} {ys : List (List Int)} {p : List Int → List Int → Bool} (hm : m ≤ 8) (h : ∀ s ∈ ys, ∃ a : Nat, a < 2 ^ m ∧ s = setOf m a) (hs : lexSorted ys) : okSp (ys, stepsL p ys) := by
  have h256 := pow256 hm
  have h1 := lex_small hs h
  have h2 := stepsL_len p ys
  have h3 : ys.length * ys.length ≤ 256 * 256 := Nat.mul_le_mul (by omega) (by omega)
  exact ⟨by simp only []; omega, fun r hr => by obtain ⟨a, _, rfl⟩ := h r hr; have := setOf_len m a; omega, by simp only []; omega, by simp only []; omega⟩
theorem KindSl_both {N : Nat} {g : Int × List (Int × Int)} {kind k : Int} (hx : g.2.length ≤ 1048576) (hN : 1048577 ≤ N) : ∃ v : (List (List Int) × List (Int × Int)) × Bool, okSp v.1 ∧ spec_KindSlides N g kind k = some ((v.1, v.2, ()), ()) ∧ impl_KindSlides N g kind k = some ((v.1, v.2, ()), ()) := by
  unfold spec_KindSlides impl_KindSlides
  simp only [show ((g.1, g.2) : Int × List (Int × Int)) = g from rfl]
  rw [l4K_eq hx hN, isThr_eq hx hN, bind_some', bind_some']
  by_cases h : thrCase g kind k
  · rw [decide_eq_true h]
    simp only [Bool.not_true, br_f]
    obtain ⟨hg, hk, hk2⟩ := h
    have hg1 := hg.1
    obtain ⟨m, hm⟩ : ∃ m : Nat, g.1 = (m : Int) := ⟨g.1.toNat, by omega⟩
    obtain ⟨c, hc⟩ : ∃ c : Nat, k = (c : Int) := ⟨k.toNat, by omega⟩
    obtain ⟨g1, es⟩ := g
    simp only [] at hm hx hg1
    subst hm hc
    have hed : ∀ e ∈ es, e.1 < e.2 := fun e he => (goodG_edges hg e he).2.1
    obtain ⟨ys, y1, y2⟩ := l4Ex_eq (near := true) (kind := kind) (k := c) (m := m) (by omega) hx hN
    have y3 := exactly_eq (by omega) hg hx y1 hN
    have hin : ∀ s ∈ ys, ∃ a : Nat, a < 2 ^ m ∧ s = setOf m a := fun s hs => ((y1.2 s).1 hs).1
    have hsm := lex_small y1.1 hin
    have h256 := pow256 (m := m) (by omega)
    refine ⟨((ys, stepsL (exP es true) ys), true), exSp_ok (es := es) (kind := kind) (k := c) (by omega) hin y1.1, ?_, ?_⟩
    · rw [y2, bind_some']
    · rw [y3, bind_some']
      simp only []
      rw [spaceOf_g (xs := ys) (p := exP es true) (SortFunc_rows (by omega) (fun x hx => by obtain ⟨a, _, rfl⟩ := hin x hx; have := setOf_len m a; omega) (lex_nodup y1.1) y1.1 (fun _ => Iff.rfl) hN) y1.1 (by omega) (fun a ha b hb _ => ?_) hN, bind_some']
      obtain ⟨⟨A, hA, rfl⟩, _, h1⟩ := (y1.2 a).1 ha
      obtain ⟨⟨B, hB, rfl⟩, _, h2⟩ := (y1.2 b).1 hb
      show (impl_Graph_isSlide N _ _ _).bind _ = _
      rw [isSlide_eq (by omega) hed hx hA hB (by omega) hN]
      rfl
  · rw [decide_eq_false h]
    exact ⟨(([], []), false), ⟨Nat.zero_le _, by simp, Nat.zero_le _, Nat.zero_le _⟩, rfl, rfl⟩
theorem KindSlides_pure {g : Int × List (Int × Int)} {kind k : Int} (hx : g.2.length ≤ 9223372036854775807) : laws_FnExactKindSlides 1048577 g kind k = some ((true, ()), ()) := by
  unfold laws_FnExactKindSlides
  have hN : 1048577 ≤ 1048577 := Nat.le_refl _
  obtain ⟨r, h1, h2⟩ := szGraph_eq (N := 1048577) hx
  simp only [h1, bind_some']
  by_cases h : 0 ≤ r
  · rw [ilt_f (by omega), br_f]
    have h3 := h2 h
    obtain ⟨sp, g0, g1, g2⟩ := KindSl_both (N := 1048577) (kind := kind) (k := k) h3 hN
    obtain ⟨v, y, m0, m1, m2⟩ := markSpace_eq g0 hN
    have k0 : (0 : Int) ≤ 1 ∧ (1 : Int) ≤ 1152921504606846976 := by omega
    obtain ⟨g', hmk⟩ := markGraph_eq (N := 1048577) k0 h3 hN
    simp only [toGraph_eq h3 hN, bind_some', g1, g2, eqSpace_self g0 hN, eqGraph_eq h3 hN, decide_true, Bool.not_true, br_f, hmk, ilt_f (show ¬ 1 + 2 * (g.2.length : Int) < 0 by omega), m1, m2, ilt_f (show ¬ v < 0 by omega), ine_f (rfl : v = v)]
    simp [br_ite]
  · rw [ilt_t (by omega), br_t]
theorem KindSlides_pureT : ∀ x : argsT (psOf [QILQII, I, I]), WfA [QILQII, I, I] x → ∃ k m, (laws_FnExactKindSlides_S k).f x = some ((true, ()), m) :=
  fun x h => ⟨1048577, (), KindSlides_pure (len_ok h.1.2.1)⟩
end Go.Proofs.Ytgelipdkheahdaa
