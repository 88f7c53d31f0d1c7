/- Statements on data alone. -/
import Derived.Test.YtffeokcchabclaaPvPure
import Derived.Test.YtffeokcchabclaaTightSetsGb
set_option linter.all false
set_option linter.all false
namespace Go.Proofs.Ytffeokcchabclaa
open Go Go.PV Classical
noncomputable def tL (m : Nat) (es : List (Int × Int)) (kind : Int) (s : List Int) : Bool := decide (∃ A, A < 2 ^ m ∧ s = setOf m A ∧ tightM m es kind A)
theorem tL_set {m A : Nat} {es : List (Int × Int)} {kind : Int} (hA : A < 2 ^ m) : tL m es kind (setOf m A) = decide (tightM m es kind A) := by
  unfold tL
  refine decide_eq_decide.2 ⟨fun ⟨B, hB, e, h⟩ => ?_, fun h => ⟨A, hA, rfl, h⟩⟩
  rw [setOf_inj hA hB e]
  exact h
theorem idx_find (g : List Int → Bool) (x : List Int) : ∀ (l : List (List Int)) (i : Nat), Lib.idxByFrom (fun _ y => g y) x l i = if l.any g = true then findAt g l i else -1 := by
  intro l
  induction l with
  | nil => intro i; rfl
  | cons y l ih =>
    intro i
    simp only [Lib.idxByFrom, List.any_cons, findAt_cons]
    rw [ih]
    by_cases h : g y = true
    · simp [h]
    · simp [h]
theorem IndexFunc_idx {N : Nat} {xs : List (List Int)} {f : List Int → Option Bool} {g : List Int → Bool} (hf : ∀ x ∈ xs, f x = some (g x)) (hx : xs.length ≤ 1099511627776) (hN : xs.length < N) : Zq47 N xs f = some ((idxR (fun x => (f x).getD false) xs, ()), ()) := by
  unfold Zq47
  have := IndexFunc_LLI_LI_l0_eq N (fun x => some ((x, ()), ())) (fun _ => some (((-1 : Int), ()), ())) xs f g hf hx xs.length 0 N (by omega) (by omega)
  simp only [Int.natCast_zero, List.drop_zero] at this
  rw [tLen_n, this]
  have e : idxR (fun x => (f x).getD false) xs = if xs.any g = true then findAt g xs 0 else -1 := by
    rw [← idx_find g []]
    unfold idxR Lib.idxBy
    have key : ∀ (l : List (List Int)) (i : Nat), (∀ x ∈ l, f x = some (g x)) → Lib.idxByFrom (fun _ y => (f y).getD false) [] l i = Lib.idxByFrom (fun _ y => g y) [] l i := by
      intro l
      induction l with
      | nil => intro i _; rfl
      | cons y l ih =>
        intro i h
        simp only [Lib.idxByFrom]
        have e : (f y).getD false = g y := by rw [h y (List.mem_cons_self ..)]; rfl
        have e2 := ih (i + 1) fun x hx => h x (List.mem_cons_of_mem _ hx)
        by_cases q : g y = true
        · rw [if_pos (e.trans q), if_pos q]
        · rw [if_neg (fun z => q (e.symm.trans z)), if_neg q]
          exact e2
    exact key xs 0 hf
  rw [e]
  split <;> rfl
theorem Delete_eq {N : Nat} {xs : List (List Int)} {f : List Int → Option Bool} {g : List Int → Bool} (hf : ∀ x ∈ xs, f x = some (g x)) (hx : xs.length ≤ 1048576) (hN : 1048577 ≤ N) : Zq46 N xs f = some ((xs.filter fun x => !g x, ()), ()) := by
  unfold Zq46 delF
  rw [if_pos ⟨fun x h => ⟨_, hf x h⟩, IndexFunc_idx hf (by omega) (by omega), by omega⟩]
  congr 3
  refine List.filter_congr fun x h => ?_
  rw [hf x h]
  rfl
theorem tight_eq {N m : Nat} {es : List (Int × Int)} {kind : Int} {L : List (List Int)} (hm : m ≤ 8) (hg : goodG ((m : Int), es)) (hx : es.length ≤ 1048576) (hL : KindL m es kind L) (hN : 1048577 ≤ N) : Zq13 N ((m : Int), es) kind = some ((L.filter (tL m es kind), ()), ()) := by
  unfold Zq13
  simp only []
  have hl := hL.2.1
  rw [ofKind_eq hm hg hx hL hN, bind_some']
  simp only []
  rw [Delete_eq (g := fun s => !tL m es kind s) (fun s hs => ?_) (by omega) hN, bind_some']
  · simp only [Bool.not_not]
  · obtain ⟨⟨A, hA, rfl⟩, _⟩ := (hL.2.2 s).1 hs
    unfold Zq14
    rw [bagOf_set hm hA hN, bind_some']
    simp only []
    rw [isTight_eq hm hA hg hx hN, bind_some', bind_some', tL_set hA]
theorem l4Sets_KL {N m : Nat} {es : List (Int × Int)} {kind : Int} (hm : m ≤ 8) (hx : es.length ≤ 1048576) (hN : 1048577 ≤ N) : ∃ L, Zq68 N ((m : Int), es) kind = some ((L, ()), ()) ∧ KindL m es kind L := by
  obtain ⟨L, h1, h2, h3, h4⟩ := l4Sets_eq (N := N) (kind := kind) hm hx hN
  exact ⟨L, h1, h2, h3, h4⟩
theorem spec_tight_l0 {R : Type} {N m : Nat} {es : List (Int × Int)} {kind : Int} {L : List (List Int)} {k0 : List (List Int) → Option R} (hm : m ≤ 8) (hx : es.length ≤ 1048576) (hL : KindL m es kind L) (hN : 1048577 ≤ N) :
    ∀ (d n K : Nat) (o : List (List Int)), n + d = L.length → d < K → o = (L.take n).filter (tL m es kind) → Zq52_l0 N k0 K kind L (n : Int) (m : Int) es o = k0 (L.filter (tL m es kind)) := by
  have hl := hL.2.1
  intro d
  induction d with
  | zero =>
    intro n K o hd hK e
    obtain ⟨K, rfl⟩ := succ_of hK
    simp only [Zq52_l0, ilt_lenf (show ¬ n < L.length by omega), br_f]
    rw [e, List.take_of_length_le (by omega)]
  | succ d ih =>
    intro n K o hd hK e
    obtain ⟨K, rfl⟩ := succ_of hK
    have hn : n < L.length := by omega
    have hol : o.length ≤ n := by
      rw [e]
      exact Nat.le_trans (List.length_filter_le ..) (by rw [List.length_take]; omega)
    obtain ⟨⟨A, hA, eA⟩, _⟩ := (hL.2.2 _).1 (List.getElem_mem hn)
    have tk : L.take (n + 1) = L.take n ++ [setOf m A] := by rw [List.take_add_one, List.getElem?_eq_getElem hn, eA]; rfl
    simp only [Zq52_l0, ilt_len hn, br_t, inb_n hn, chk_t]
    rw [rdL_n hn, eA, l4Tight_eq hm hA hx hN, bind_some', room_ok (by simp; omega), chk_t, wrap_succ (by omega), tApp_d, ← tL_set (es := es) (kind := kind) hA]
    simp only []
    cases ht : tL m es kind (setOf m A) with
    | true =>
      rw [br_t]
      refine ih (n + 1) K _ (by omega) (by omega) ?_
      rw [tk, List.filter_append, List.filter_cons_of_pos ht, e]
      rfl
    | false =>
      rw [br_f]
      refine ih (n + 1) K _ (by omega) (by omega) ?_
      rw [tk, List.filter_append, List.filter_cons_of_neg (by rw [ht]; simp), e]
      simp
def kCase (g : Int × List (Int × Int)) (kind : Int) : Prop := goodG g ∧ 1 ≤ kind ∧ kind ≤ 3
theorem Tight_both {N : Nat} {g : Int × List (Int × Int)} {kind : Int} (hx : g.2.length ≤ 1048576) (hN : 1048577 ≤ N) : ∃ r : List (List Int) × Bool, Zq52 N g kind = some ((r.1, r.2, ()), ()) ∧ Zq16 N g kind = some ((r.1, r.2, ()), ()) ∧ r.1.length ≤ 2304 ∧ (∀ s ∈ r.1, s.length ≤ 8) ∧ (r.2 = true ↔ kCase g kind) ∧ (kCase g kind → ∃ L, KindL g.1.toNat g.2 kind L ∧ r.1 = L.filter (tL g.1.toNat g.2 kind)) := by
  unfold Zq52 Zq16 Zq23
  simp only [show ((g.1, g.2) : Int × List (Int × Int)) = g from rfl]
  rw [l4Good_eq hx hN, IsGraph_eq hx hN, bind_some', bind_some', between_eq, bind_some', bind_some']
  by_cases hg : goodG g
  · by_cases hk : 1 ≤ kind ∧ kind ≤ 3
    · rw [decide_eq_true (show goodG g ∧ 1 ≤ kind ∧ kind ≤ 3 from ⟨hg, hk⟩), decide_eq_true hg, decide_eq_true hk]
      simp only [Bool.not_true, br_f]
      obtain ⟨m, hm⟩ : ∃ m : Nat, g.1 = (m : Int) := ⟨g.1.toNat, by have := hg.1; omega⟩
      obtain ⟨g1, es⟩ := g
      simp only at hm hx ⊢
      subst hm
      have hm8 : m ≤ 8 := by have := hg.1; simp only at this; omega
      obtain ⟨L, l1, l2⟩ := l4Sets_KL (N := N) (kind := kind) hm8 hx hN
      have hl := l2.2.1
      have := spec_tight_l0 (N := N) (k0 := fun o3 => some ((o3, true, ()), ())) hm8 hx l2 hN L.length 0 N [] (by omega) (by omega) (by simp)
      rw [show ((0 : Nat) : Int) = 0 from rfl] at this
      refine ⟨(L.filter (tL m es kind), true), ?_, ?_, ?_, ?_, ⟨fun _ => ⟨hg, hk⟩, fun _ => rfl⟩, fun _ => ⟨L, l2, rfl⟩⟩
      · rw [l1, bind_some']
        exact this
      · rw [tight_eq hm8 hg hx l2 hN, bind_some']
      · exact Nat.le_trans (List.length_filter_le ..) hl
      · intro s hs
        obtain ⟨⟨A, _, rfl⟩, _⟩ := (l2.2.2 s).1 (List.mem_filter.1 hs).1
        have := setOf_len m A
        omega
    · rw [decide_eq_false (fun q : goodG g ∧ 1 ≤ kind ∧ kind ≤ 3 => hk q.2), decide_eq_true hg, decide_eq_false hk]
      exact ⟨([], false), rfl, rfl, by simp, by simp, ⟨(fun q => by cases q), fun q => absurd q.2 hk⟩, fun q => absurd q.2 hk⟩
  · rw [decide_eq_false (fun q : goodG g ∧ 1 ≤ kind ∧ kind ≤ 3 => hg q.1), decide_eq_false hg]
    exact ⟨([], false), rfl, rfl, by simp, by simp, ⟨(fun q => by cases q), fun q => absurd q.1 hg⟩, fun q => absurd q.1 hg⟩
theorem TightSets_pure {g : Int × List (Int × Int)} {k : Int} (hx : g.2.length ≤ 9223372036854775807) : Zq26 1048577 g k = some ((true, ()), ()) := by
  unfold Zq26
  have hN : 1048577 ≤ 1048577 := Nat.le_refl _
  obtain ⟨r, h1, h2⟩ := szGraph_eq (N := 1048577) hx
  simp only [h1, bind_some']
  by_cases h : 0 ≤ r
  · rw [ilt_f (by omega), br_f]
    have h3 := h2 h
    obtain ⟨v, s1, s2, c1, c2, _⟩ := Tight_both (N := 1048577) (kind := k) h3 hN
    have k0 : (0 : Int) ≤ 1 ∧ (1 : Int) ≤ 1152921504606846976 := by omega
    have c3 : ∀ x ∈ v.1, x.length ≤ 1048576 := fun x hx => by have := c2 x hx; omega
    have c4 := sumL_le c3
    obtain ⟨g', hmk⟩ := markGraph_eq (N := 1048577) k0 h3 hN
    simp only [toGraph_eq h3 hN, bind_some', s1, s2, eqGraph_eq h3 hN, eqIntSS_eq (show v.1.length ≤ 1048576 by omega) c3 hN, decide_true, Bool.not_true, br_f, hmk, ilt_f (show ¬ 1 + 2 * (g.2.length : Int) < 0 by omega),
      markIntSS_eq k0 (show v.1.length ≤ 1048576 by omega) c3 hN, heldIntSS_eq k0 (show v.1.length ≤ 1048576 by omega) c3 hN, ilt_f (show ¬ 1 + sumL v.1 < 0 by omega), ine_f (rfl : 1 + sumL v.1 = 1 + sumL v.1)]
    simp [br_ite]
  · rw [ilt_t (by omega), br_t]
theorem TightSets_pureT : ∀ x : argsT (psOf [QILQII, I]), WfA [QILQII, I] x → ∃ k m, (Zq26_S k).f x = some ((true, ()), m) :=
  fun x h => ⟨1048577, (), TightSets_pure (len_ok h.1.2.1)⟩
end Go.Proofs.Ytffeokcchabclaa
