/- Statements on data alone. -/
import Derived.Test.YtffeokcchabclaaGreatPvPure
import Derived.Test.YtffeokcchabclaaGreatThresholdsGe
set_option linter.all false
set_option linter.all false
namespace Go.Proofs.YtffeokcchabclaaGreat
open Go Go.PV Classical
theorem isTight_eq {N m A : Nat} {es : List (Int × Int)} {kind : Int} (hm : m ≤ 8) (hA : A < 2 ^ m) (hg : goodG ((m : Int), es)) (hx : es.length ≤ 1048576) (hN : 1048577 ≤ N) : Zq10 N ((m : Int), es) kind (A : Int) = some ((decide (tightM m es kind A), ()), ()) := by
  have h256 := pow256 hm
  unfold Zq10
  have := loop_all_if (P := tightM m es kind A) (m := m) (L := fun K i => Zq10_l0 N (fun x => some ((x, ()), ())) (fun (_ : Unit) => some ((true, ()), ())) K kind (A : Int) (m : Int) (i : Int) (m : Int) es) (fun x => (A.testBit x != decide (kind = 2)) = true → ¬ hasK m es kind (setOf m (A ^^^ 2 ^ x))) Iff.rfl (kt := some ((true, ()), ())) (kf := some ((false, ()), ())) (fun K n hn => ?_) (fun K n hn hp => ?_) (fun K n hn hp => ?_) (show m < N by omega)
  · rw [show ((0 : Nat) : Int) = 0 from rfl] at this
    simp only []
    rw [this]
    by_cases h : tightM m es kind A <;> simp [h]
  · simp only [Zq10_l0, ilt_nf hn, br_f]
  · simp only [Zq10_l0, ilt_n hn, br_t]
    rw [bag_has_eq (by omega) (by omega), bind_some']
    simp only []
    rw [shr_impl, ile_t (by omega), chk_t, turn_eq hm hA hn, hasKind_eq hm (xor_lt hA hn) hg hx hN, bind_some', wrap_succ (by omega)]
    simp only []
    cases hs : shrB kind A n with
    | true => rw [br_t, decide_eq_false (hp hs), br_f]
    | false => rw [br_f]
  · have hs : shrB kind A n = true := Classical.byContradiction fun q => hp fun q2 => absurd q2 q
    have hk : hasK m es kind (setOf m (A ^^^ 2 ^ n)) := Classical.byContradiction fun q => hp fun _ => q
    simp only [Zq10_l0, ilt_n hn, br_t]
    rw [bag_has_eq (by omega) (by omega), bind_some']
    simp only []
    rw [shr_impl, hs, br_t, ile_t (by omega), chk_t, turn_eq hm hA hn, hasKind_eq hm (xor_lt hA hn) hg hx hN, bind_some', decide_eq_true hk, br_t]
theorem l4Tight_eq {N m A : Nat} {es : List (Int × Int)} {kind : Int} (hm : m ≤ 8) (hA : A < 2 ^ m) (hx : es.length ≤ 1048576) (hN : 1048577 ≤ N) : Zq131 N ((m : Int), es) kind (setOf m A) = some ((decide (tightM m es kind A), ()), ()) := by
  have h256 := pow256 hm
  have hsl := setOf_len m A
  unfold Zq131
  have := loop_all_if (P := tightM m es kind A) (m := m) (L := fun K i => Zq131_l0 N (fun x => some ((x, ()), ())) (fun (_ : Unit) => some ((true, ()), ())) K kind (setOf m A) (i : Int) (m : Int) es) (fun x => (A.testBit x != decide (kind = 2)) = true → ¬ hasK m es kind (setOf m (A ^^^ 2 ^ x))) Iff.rfl (kt := some ((true, ()), ())) (kf := some ((false, ()), ())) (fun K n hn => ?_) (fun K n hn hp => ?_) (fun K n hn hp => ?_) (show m < N by omega)
  · rw [show ((0 : Nat) : Int) = 0 from rfl] at this
    simp only []
    rw [this]
    by_cases h : tightM m es kind A <;> simp [h]
  · simp only [Zq131_l0, ilt_nf hn, br_f]
  · have hs2 := setOf_len m (A ^^^ 2 ^ n)
    simp only [Zq131_l0, ilt_n hn, br_t]
    rw [l1Has_eq (by omega) hN, bind_some']
    simp only []
    rw [dec_mem hn, shr_spec, l4Turned_eq hm hA hn hN, bind_some']
    simp only []
    rw [l4Has_eq hm hx (by omega) hN, bind_some', wrap_succ (by omega)]
    simp only []
    cases hs : shrB kind A n with
    | true => rw [br_t, decide_eq_false (hp hs), br_f]
    | false => rw [br_f]
  · have hs : shrB kind A n = true := Classical.byContradiction fun q => hp fun q2 => absurd q2 q
    have hk : hasK m es kind (setOf m (A ^^^ 2 ^ n)) := Classical.byContradiction fun q => hp fun _ => q
    have hs2 := setOf_len m (A ^^^ 2 ^ n)
    simp only [Zq131_l0, ilt_n hn, br_t]
    rw [l1Has_eq (by omega) hN, bind_some']
    simp only []
    rw [dec_mem hn, shr_spec, hs, br_t, l4Turned_eq hm hA hn hN, bind_some']
    simp only []
    rw [l4Has_eq hm hx (by omega) hN, bind_some', decide_eq_true hk, br_t]
def KindL (m : Nat) (es : List (Int × Int)) (kind : Int) (L : List (List Int)) : Prop := L.Pairwise sizeLt ∧ L.length ≤ 2304 ∧ ∀ s, s ∈ L ↔ (∃ a : Nat, a < 2 ^ m ∧ s = setOf m a) ∧ hasK m es kind s
noncomputable def cmpS (a b : List Int) : Int := if a.length < b.length then -1 else if b.length < a.length then 1 else lexC a b
theorem compareSets_eq {N : Nat} {a b : List Int} (ha : a.length ≤ 1048576) (hb : b.length ≤ 1048576) (hN : 1048577 ≤ N) : Zq40 N a b = some ((cmpS a b, ()), ()) := by
  unfold Zq40 cmpS
  rw [compare_eq, bind_some', Compare_lex ha hb hN, bind_some']
  simp only []
  rw [Or2_eq hN, bind_some', tLen_n, tLen_n]
  congr 3
  by_cases h1 : a.length < b.length
  · rw [if_pos (show (a.length : Int) < b.length by omega), if_pos h1]
    simp
  · rw [if_neg (show ¬ (a.length : Int) < b.length by omega), if_neg h1]
    by_cases h2 : b.length < a.length
    · rw [if_pos (show (b.length : Int) < a.length by omega), if_pos h2]
      simp
    · rw [if_neg (show ¬ (b.length : Int) < a.length by omega), if_neg h2]
      simp
theorem cmpS_lt {a b : List Int} : cmpS a b < 0 ↔ sizeLt a b := by
  unfold cmpS sizeLt
  by_cases h1 : a.length < b.length
  · rw [if_pos h1]
    simp [h1]
  · rw [if_neg h1]
    by_cases h2 : b.length < a.length
    · rw [if_pos h2]
      constructor
      · intro q; omega
      · rintro (q | q) <;> omega
    · rw [if_neg h2]
      constructor
      · intro q; exact .inr ⟨by omega, q⟩
      · rintro (q | q)
        · omega
        · exact q.2
theorem sizeLt_irr (a : List Int) : ¬ sizeLt a a := by
  rintro (q | q)
  · omega
  · have := q.2
    rw [lexC_self] at this
    omega
theorem sizeLt_trans {a b c : List Int} (h1 : sizeLt a b) (h2 : sizeLt b c) : sizeLt a c := by
  rcases h1 with h1 | ⟨h1, h3⟩
  · rcases h2 with h2 | ⟨h2, _⟩
    · exact .inl (by omega)
    · exact .inl (by omega)
  · rcases h2 with h2 | ⟨h2, h4⟩
    · exact .inl (by omega)
    · exact .inr ⟨by omega, lexC_trans h3 h4⟩
theorem sizeLt_tot {a b : List Int} (h1 : ¬ sizeLt a b) (h2 : a ≠ b) : sizeLt b a := by
  by_cases q : b.length < a.length
  · exact .inl q
  · by_cases q2 : a.length < b.length
    · exact absurd (.inl q2) h1
    · exact .inr ⟨by omega, lexC_flip (fun q3 => h1 (.inr ⟨by omega, q3⟩)) h2⟩
theorem size_nodup {L : List (List Int)} (h : L.Pairwise sizeLt) : L.Nodup := h.imp fun {a b} hab e => by subst e; exact sizeLt_irr _ hab
theorem SortFunc_sets {N : Nat} {xs ys : List (List Int)} (hx : xs.length ≤ 1048576) (hl : ∀ x ∈ xs, x.length ≤ 1048576) (hn : xs.Nodup) (hs : ys.Pairwise sizeLt) (hm : ∀ s, s ∈ ys ↔ s ∈ xs) (hN : 1048577 ≤ N) :
    Zq77 N xs () = some ((), (ys, ())) := by
  have hc : ∀ a ∈ xs, ∀ b ∈ xs, (Zq40 N a b).map (fun z => z.1.1) = some (cmpS a b) := fun a ha b hb => by rw [compareSets_eq (hl a ha) (hl b hb) hN]; rfl
  have hv : ∀ a ∈ xs, ∀ b ∈ xs, cmpV (fun a b => (Zq40 N a b).map fun z => z.1.1) a b = cmpS a b := fun a ha b hb => by
    show ((Zq40 N a b).map fun z => z.1.1).getD 0 = _
    rw [hc a ha b hb]
    rfl
  unfold Zq77
  refine sortF_eq ⟨⟨by omega, fun a ha b hb => ⟨_, hc a ha b hb⟩, fun a ha => ?_, fun a ha b hb c hc' h1 h2 => ?_, fun a ha b hb c hc' h1 h2 => ?_, fun a ha b hb h1 h2 => ?_⟩, (List.perm_ext_iff_of_nodup (size_nodup hs) hn).2 hm, ?_⟩
  · rw [hv a ha a ha, cmpS_lt]
    exact sizeLt_irr a
  · rw [hv a ha b hb, cmpS_lt] at h1
    rw [hv b hb c hc', cmpS_lt] at h2
    rw [hv a ha c hc', cmpS_lt]
    exact sizeLt_trans h1 h2
  · rw [hv a ha b hb, cmpS_lt] at h1
    rw [hv b hb c hc', cmpS_lt] at h2
    rw [hv a ha c hc', cmpS_lt]
    intro h3
    by_cases e : a = b
    · exact h2 (e ▸ h3)
    · exact h2 (sizeLt_trans (sizeLt_tot h1 e) h3)
  · rw [hv a ha b hb, cmpS_lt] at h1
    rw [hv b hb a ha, cmpS_lt] at h2
    exact Classical.byContradiction fun e => h2 (sizeLt_tot h1 e)
  · refine hs.imp_of_mem fun {a b} ha hb hab => ?_
    rw [hv b ((hm b).1 hb) a ((hm a).1 ha), cmpS_lt]
    exact fun q => sizeLt_irr _ (sizeLt_trans hab q)
theorem ofKind_eq {N m : Nat} {es : List (Int × Int)} {kind : Int} {L : List (List Int)} (hm : m ≤ 8) (hg : goodG ((m : Int), es)) (hx : es.length ≤ 1048576) (hL : KindL m es kind L) (hN : 1048577 ≤ N) : Zq12 N ((m : Int), es) kind = some ((L, ()), ()) := by
  have h256 := pow256 hm
  unfold Zq12
  simp only []
  have hl1 := hL.2.1
  obtain ⟨ys, _, y1, y2⟩ := l2Sorted_eq (N := N) (xs := L) (by omega) (fun s hs => by
    obtain ⟨⟨a, _, rfl⟩, _⟩ := (hL.2.2 s).1 hs
    have := setOf_len m a
    omega) hN
  have hy : ∀ s, s ∈ ys ↔ (∃ a : Nat, a < 2 ^ m ∧ s = setOf m a) ∧ decide (hasK m es kind s) = true := fun s => by rw [y2, hL.2.2, decide_eq_true_eq]
  have hlen : ∀ s ∈ ys, s.length ≤ 1048576 := fun s hs => by
    obtain ⟨⟨a, _, rfl⟩, _⟩ := (hy s).1 hs
    have := setOf_len m a
    omega
  rw [sets_eq (p := fun s => decide (hasK m es kind s)) hm (fun a ha => ?_) y1 hy hN, bind_some']
  · simp only []
    have hsz := lex_small (m := m) y1 (fun s hs => ((hy s).1 hs).1)
    rw [SortFunc_sets (ys := L) (by omega) hlen (lex_nodup y1) hL.1 (fun s => (y2 s).symm) hN, bind_some']
  · unfold Zq13
    rw [hasKind_eq hm ha hg hx hN, bind_some', bind_some']
noncomputable def tL (m : Nat) (es : List (Int × Int)) (kind : Int) (s : List Int) : Bool := decide (∃ A, A < 2 ^ m ∧ s = setOf m A ∧ tightM m es kind A)
theorem tL_set {m A : Nat} {es : List (Int × Int)} {kind : Int} (hA : A < 2 ^ m) : tL m es kind (setOf m A) = decide (tightM m es kind A) := by
  unfold tL
  refine decide_eq_decide.2 ⟨fun ⟨B, hB, e, h⟩ => ?_, fun h => ⟨A, hA, rfl, h⟩⟩
  rw [setOf_inj hA hB e]
  exact h
theorem idx_find (g : List Int → Bool) (x : List Int) : ∀ (l : List (List Int)) (i : Nat), Lib.idxByFrom (fun _ y => g y) x l i = if l.any g = true then findAt g l i else -1 := by
  intro l
  induction l with
  | nil => intro i; rfl
  | cons y l ih =>
    intro i
    simp only [Lib.idxByFrom, List.any_cons, findAt_cons]
    rw [ih]
    by_cases h : g y = true
    · simp [h]
    · simp [h]
theorem IndexFunc_idx {N : Nat} {xs : List (List Int)} {f : List Int → Option Bool} {g : List Int → Bool} (hf : ∀ x ∈ xs, f x = some (g x)) (hx : xs.length ≤ 1099511627776) (hN : xs.length < N) : Zq73 N xs f = some ((idxR (fun x => (f x).getD false) xs, ()), ()) := by
  unfold Zq73
  have := IndexFunc_LLI_LI_l0_eq N (fun x => some ((x, ()), ())) (fun _ => some (((-1 : Int), ()), ())) xs f g hf hx xs.length 0 N (by omega) (by omega)
  simp only [Int.natCast_zero, List.drop_zero] at this
  rw [tLen_n, this]
  have e : idxR (fun x => (f x).getD false) xs = if xs.any g = true then findAt g xs 0 else -1 := by
    rw [← idx_find g []]
    unfold idxR Lib.idxBy
    have key : ∀ (l : List (List Int)) (i : Nat), (∀ x ∈ l, f x = some (g x)) → Lib.idxByFrom (fun _ y => (f y).getD false) [] l i = Lib.idxByFrom (fun _ y => g y) [] l i := by
      intro l
      induction l with
      | nil => intro i _; rfl
      | cons y l ih =>
        intro i h
        simp only [Lib.idxByFrom]
        have e : (f y).getD false = g y := by rw [h y (List.mem_cons_self ..)]; rfl
        have e2 := ih (i + 1) fun x hx => h x (List.mem_cons_of_mem _ hx)
        by_cases q : g y = true
        · rw [if_pos (e.trans q), if_pos q]
        · rw [if_neg (fun z => q (e.symm.trans z)), if_neg q]
          exact e2
    exact key xs 0 hf
  rw [e]
  split <;> rfl
theorem Delete_eq {N : Nat} {xs : List (List Int)} {f : List Int → Option Bool} {g : List Int → Bool} (hf : ∀ x ∈ xs, f x = some (g x)) (hx : xs.length ≤ 1048576) (hN : 1048577 ≤ N) : Zq71 N xs f = some ((xs.filter fun x => !g x, ()), ()) := by
  unfold Zq71 delF
  rw [if_pos ⟨fun x h => ⟨_, hf x h⟩, IndexFunc_idx hf (by omega) (by omega), by omega⟩]
  congr 3
  refine List.filter_congr fun x h => ?_
  rw [hf x h]
  rfl
theorem tight_eq {N m : Nat} {es : List (Int × Int)} {kind : Int} {L : List (List Int)} (hm : m ≤ 8) (hg : goodG ((m : Int), es)) (hx : es.length ≤ 1048576) (hL : KindL m es kind L) (hN : 1048577 ≤ N) : Zq18 N ((m : Int), es) kind = some ((L.filter (tL m es kind), ()), ()) := by
  unfold Zq18
  simp only []
  have hl := hL.2.1
  rw [ofKind_eq hm hg hx hL hN, bind_some']
  simp only []
  rw [Delete_eq (g := fun s => !tL m es kind s) (fun s hs => ?_) (by omega) hN, bind_some']
  · simp only [Bool.not_not]
  · obtain ⟨⟨A, hA, rfl⟩, _⟩ := (hL.2.2 s).1 hs
    unfold Zq19
    rw [bagOf_set hm hA hN, bind_some']
    simp only []
    rw [isTight_eq hm hA hg hx hN, bind_some', bind_some', tL_set hA]
theorem l4Sets_KL {N m : Nat} {es : List (Int × Int)} {kind : Int} (hm : m ≤ 8) (hx : es.length ≤ 1048576) (hN : 1048577 ≤ N) : ∃ L, Zq129 N ((m : Int), es) kind = some ((L, ()), ()) ∧ KindL m es kind L := by
  obtain ⟨L, h1, h2, h3, h4⟩ := l4Sets_eq (N := N) (kind := kind) hm hx hN
  exact ⟨L, h1, h2, h3, h4⟩
theorem spec_tight_l0 {R : Type} {N m : Nat} {es : List (Int × Int)} {kind : Int} {L : List (List Int)} {k0 : List (List Int) → Option R} (hm : m ≤ 8) (hx : es.length ≤ 1048576) (hL : KindL m es kind L) (hN : 1048577 ≤ N) :
    ∀ (d n K : Nat) (o : List (List Int)), n + d = L.length → d < K → o = (L.take n).filter (tL m es kind) → Zq87_l0 N k0 K kind L (n : Int) (m : Int) es o = k0 (L.filter (tL m es kind)) := by
  have hl := hL.2.1
  intro d
  induction d with
  | zero =>
    intro n K o hd hK e
    obtain ⟨K, rfl⟩ := succ_of hK
    simp only [Zq87_l0, ilt_lenf (show ¬ n < L.length by omega), br_f]
    rw [e, List.take_of_length_le (by omega)]
  | succ d ih =>
    intro n K o hd hK e
    obtain ⟨K, rfl⟩ := succ_of hK
    have hn : n < L.length := by omega
    have hol : o.length ≤ n := by
      rw [e]
      exact Nat.le_trans (List.length_filter_le ..) (by rw [List.length_take]; omega)
    obtain ⟨⟨A, hA, eA⟩, _⟩ := (hL.2.2 _).1 (List.getElem_mem hn)
    have tk : L.take (n + 1) = L.take n ++ [setOf m A] := by rw [List.take_add_one, List.getElem?_eq_getElem hn, eA]; rfl
    simp only [Zq87_l0, ilt_len hn, br_t, inb_n hn, chk_t]
    rw [rdL_n hn, eA, l4Tight_eq hm hA hx hN, bind_some', room_ok (by simp; omega), chk_t, wrap_succ (by omega), tApp_d, ← tL_set (es := es) (kind := kind) hA]
    simp only []
    cases ht : tL m es kind (setOf m A) with
    | true =>
      rw [br_t]
      refine ih (n + 1) K _ (by omega) (by omega) ?_
      rw [tk, List.filter_append, List.filter_cons_of_pos ht, e]
      rfl
    | false =>
      rw [br_f]
      refine ih (n + 1) K _ (by omega) (by omega) ?_
      rw [tk, List.filter_append, List.filter_cons_of_neg (by rw [ht]; simp), e]
      simp
theorem setCase_facts {g : Int × List (Int × Int)} (hg : goodG g) {s : List Int} (h : rising 0 (g.1 - 1) s) : ∃ A, A < 2 ^ g.1.toNat ∧ s = setOf g.1.toNat A := by
  obtain ⟨m, hm⟩ : ∃ m : Nat, g.1 = (m : Int) := ⟨g.1.toNat, by have := hg.1; omega⟩
  rw [hm] at h
  rw [hm, show ((m : Int)).toNat = m from Int.toNat_natCast m]
  exact rising_set (by have := hg.1; omega) h
theorem setOf_rising {m A : Nat} : rising 0 ((m : Int) - 1) (setOf m A) := by
  intro i hi
  have h1 := setOf_in (m := m) (a := A) _ (List.getElem_mem hi)
  refine ⟨?_, fun h0 => ?_⟩
  · rw [rdI_n hi]
    have := h1.1
    have := h1.2
    omega
  · rw [rdI_n hi, rdI_n (show i - 1 < (setOf m A).length by omega)]
    exact List.pairwise_iff_getElem.1 (setOf_strict m A) (i - 1) i (by omega) hi (by omega)
noncomputable def bI (kind : Int) (L : List (List Int)) : Nat → Nat
  | 0 => 0
  | n + 1 => if kind = 2 ∧ (rdL L (bI kind L n : Int)).length < (rdL L (n : Int)).length then n else bI kind L n
theorem bI_succ (kind : Int) (L : List (List Int)) (n : Nat) : bI kind L (n + 1) = if kind = 2 ∧ (rdL L (bI kind L n : Int)).length < (rdL L (n : Int)).length then n else bI kind L n := rfl
theorem bI_lt {kind : Int} {L : List (List Int)} (h : 0 < L.length) : ∀ n, n ≤ L.length → bI kind L n < L.length := by
  intro n
  induction n with
  | zero => intro _; exact h
  | succ n ih =>
    intro hn
    unfold bI
    split
    · omega
    · exact ih (by omega)
theorem bI_most {L : List (List Int)} : ∀ n, ∀ j : Nat, j < n → (rdL L (j : Int)).length ≤ (rdL L (bI 2 L n : Int)).length := by
  intro n
  induction n with
  | zero => intro j hj; omega
  | succ n ih =>
    intro j hj
    unfold bI
    by_cases q : (rdL L (bI 2 L n : Int)).length < (rdL L (n : Int)).length
    · rw [if_pos ⟨rfl, q⟩]
      by_cases e : j = n
      · rw [e]; exact Nat.le_refl _
      · have := ih j (by omega)
        omega
    · rw [if_neg fun z => q z.2]
      by_cases e : j = n
      · rw [e]; omega
      · exact ih j (by omega)
theorem bI_zero {kind : Int} {L : List (List Int)} (hk : kind ≠ 2) : ∀ n, bI kind L n = 0 := by
  intro n
  induction n with
  | zero => rfl
  | succ n ih =>
    unfold bI
    rw [if_neg fun q => hk q.1]
    exact ih
theorem kind_first {L : List (List Int)} (h : L.Pairwise sizeLt) {s : List Int} (hs : s ∈ L) : (rdL L 0).length ≤ s.length := by
  cases L with
  | nil => cases hs
  | cons a L =>
    have e : rdL (a :: L) 0 = a := rfl
    rw [e]
    rcases List.mem_cons.1 hs with rfl | hs
    · exact Nat.le_refl _
    · have := (List.pairwise_cons.1 h).1 s hs
      rcases this with q | q <;> omega
theorem kind_last {L : List (List Int)} (h : L.Pairwise sizeLt) {s : List Int} (hs : s ∈ L) : s.length ≤ (rdL L ((L.length - 1 : Nat) : Int)).length := by
  obtain ⟨i, hi, rfl⟩ := List.getElem_of_mem hs
  rw [rdL_n (by omega)]
  by_cases e : i = L.length - 1
  · subst e; exact Nat.le_refl _
  · have := List.pairwise_iff_getElem.1 h i (L.length - 1) hi (by omega) (by omega)
    rcases this with q | q <;> omega
theorem kind_some {m : Nat} {es : List (Int × Int)} {kind : Int} (hg : goodG ((m : Int), es)) {L : List (List Int)} (hL : KindL m es kind L) : 0 < L.length := by
  by_cases hk : kind = 2
  · refine List.length_pos_of_mem ((hL.2.2 (setOf m 0)).2 ⟨⟨0, Nat.two_pow_pos m, rfl⟩, ?_⟩)
    have : setOf m 0 = [] := List.eq_nil_iff_forall_not_mem.2 fun z hz => by
      obtain ⟨i, _, hb, _⟩ := mem_setOf.1 hz
      simp at hb
    rw [this]
    unfold hasK
    rw [if_neg (by omega), if_pos hk]
    intro i j hi
    simp at hi
  · have hf : 2 ^ m - 1 < 2 ^ m := by have := Nat.two_pow_pos m; omega
    refine List.length_pos_of_mem ((hL.2.2 (setOf m (2 ^ m - 1))).2 ⟨⟨_, hf, rfl⟩, ?_⟩)
    have hall : ∀ i : Nat, i < m → (i : Int) ∈ setOf m (2 ^ m - 1) := fun i hi => mem_setN.2 ⟨hi, by rw [Nat.testBit_two_pow_sub_one]; simpa using hi⟩
    unfold hasK
    by_cases h1 : kind = 1
    · rw [if_pos h1]
      intro e he
      have := goodG_edges hg e he
      simp only at this
      obtain ⟨i, hi⟩ : ∃ i : Nat, e.1 = (i : Int) := ⟨e.1.toNat, by omega⟩
      rw [hi]
      exact .inl (hall i (by omega))
    · rw [if_neg h1, if_neg hk]
      exact fun x hx => .inl (hall x hx)
theorem best_tight {m : Nat} {es : List (Int × Int)} {kind : Int} {L : List (List Int)} (hL : KindL m es kind L) (h0 : 0 < L.length) : rdL L (bI kind L L.length : Int) ∈ L.filter (tL m es kind) := by
  have hb := bI_lt (kind := kind) h0 L.length (Nat.le_refl _)
  have hmem : rdL L (bI kind L L.length : Int) ∈ L := by
    rw [rdL_n hb]
    exact List.getElem_mem hb
  obtain ⟨⟨A, hA, e⟩, hk⟩ := (hL.2.2 _).1 hmem
  refine List.mem_filter.2 ⟨hmem, ?_⟩
  rw [e, tL_set hA]
  refine decide_eq_true fun x hx hs hv => ?_
  have hm2 : setOf m (A ^^^ 2 ^ x) ∈ L := (hL.2.2 _).2 ⟨⟨_, xor_lt hA hx, rfl⟩, hv⟩
  by_cases hk2 : kind = 2
  · subst hk2
    have hb2 : A.testBit x = false := by simpa using hs
    have hc := card_out hx hb2
    obtain ⟨j, hj, ej⟩ := List.getElem_of_mem hm2
    have := bI_most (L := L) L.length j hj
    rw [e, rdL_n hj, ej] at this
    unfold card at hc
    omega
  · have hb2 : A.testBit x = true := by simpa [hk2] using hs
    have hc := card_in hx hb2
    rw [bI_zero hk2] at e
    have := kind_first hL.1 hm2
    rw [show rdL L 0 = setOf m A from e] at this
    unfold card at hc
    omega
theorem kind_ok {N : Nat} {code : List Int} {k : Nat} {c : List Int × (Int × Int)} (hco : codeOk code) (h : CurOk code k c) (hk : k ≤ 800000) : ∃ x c', Zq91 N c = some ((x, ()), (c', ())) ∧ CurOk code (k + 6) c' := by
  unfold Zq91
  obtain ⟨b, c1, a1, a2⟩ := one_ok (N := N) hco h (by omega) 24
  rw [a1, bind_some']
  simp only []
  cases b with
  | true =>
    obtain ⟨x, c2, b1, b2, _⟩ := among_ok (N := N) hco a2 (by omega) (l := [0, 4, -1]) (by simp)
    rw [br_t, b1, bind_some']
    exact ⟨x, c2, rfl, cur_mono b2 (by omega)⟩
  | false =>
    obtain ⟨x, c2, b1, b2, _⟩ := pick_ok (N := N) hco a2 (by omega) 3
    rw [br_f, b1, bind_some']
    exact ⟨_, c2, rfl, cur_mono b2 (by omega)⟩
theorem nodes_ok {N : Nat} {code : List Int} {k : Nat} {c : List Int × (Int × Int)} {g : Int × List (Int × Int)} (hco : codeOk code) (hN : 1048577 ≤ N) (h : CurOk code k c) (hk : k ≤ 800000) : ∃ s c', Zq93 N c g = some ((s, ()), (c', ())) ∧ CurOk code (k + 8) c' ∧ s.length ≤ 9 := by
  unfold Zq93
  rw [l1Least_eq, bind_some', l1Most_eq, bind_some']
  simp only []
  obtain ⟨m, hm, hm8⟩ : ∃ m : Nat, (if 0 < (if g.1 < 8 then g.1 else 8) then (if g.1 < 8 then g.1 else 8) else 0) = (m : Int) ∧ m ≤ 8 := by
    refine ⟨(if 0 < (if g.1 < 8 then g.1 else 8) then (if g.1 < 8 then g.1 else 8) else 0).toNat, ?_, ?_⟩ <;> split <;> split <;> omega
  rw [hm]
  obtain ⟨x, c1, a1, a2, a3, a4, a5⟩ := pick_ok (N := N) hco h (by omega) 256
  have a5 := a5 (by omega)
  obtain ⟨a, rfl⟩ : ∃ a : Nat, x = (a : Int) := ⟨x.toNat, by omega⟩
  rw [a1, bind_some']
  simp only []
  rw [l2Bits_set hm8 (by omega) hN, bind_some']
  simp only []
  have hl := setOf_len m a
  obtain ⟨b, c2, b1, b2⟩ := one_ok (N := N) hco a2 (by omega) 20
  rw [b1, bind_some']
  simp only []
  cases b with
  | true =>
    obtain ⟨y, c3, d1, d2, _⟩ := among_ok (N := N) hco b2 (by omega) (l := [-1, 0, 8]) (by simp)
    rw [br_t, d1, bind_some', room_ok (by simp; omega), chk_t]
    exact ⟨_, c3, rfl, cur_mono d2 (by omega), by rw [tApp_d]; simp; omega⟩
  | false =>
    rw [br_f]
    exact ⟨_, c2, rfl, cur_mono b2 (by omega), by omega⟩
theorem ofKind_ok {N : Nat} {code : List Int} {k : Nat} {c : List Int × (Int × Int)} {g : Int × List (Int × Int)} {kind : Int} (hco : codeOk code) (hN : 1048577 ≤ N) (h : CurOk code k c) (hk : k ≤ 700000) (hx : g.2.length ≤ 1048576) : ∃ s c', Zq94 N c g kind = some ((s, ()), (c', ())) ∧ CurOk code (k + 12) c' ∧ s.length ≤ 9 := by
  unfold Zq94
  simp only [show ((g.1, g.2) : Int × List (Int × Int)) = g from rfl]
  rw [l4Good_eq hx hN, bind_some']
  by_cases hg : goodG g ∧ 1 ≤ kind ∧ kind ≤ 3
  · rw [decide_eq_true hg]
    simp only [Bool.not_true, br_f]
    obtain ⟨b, c1, a1, a2⟩ := one_ok (N := N) hco h (by omega) 8
    rw [a1, bind_some']
    simp only []
    cases b with
    | true =>
      obtain ⟨s, c2, b1, b2, b3⟩ := nodes_ok (N := N) (g := g) hco hN a2 (by omega)
      rw [br_t, b1, bind_some']
      exact ⟨s, c2, rfl, cur_mono b2 (by omega), b3⟩
    | false =>
      rw [br_f]
      obtain ⟨m, hm⟩ : ∃ m : Nat, g.1 = (m : Int) := ⟨g.1.toNat, by have := hg.1.1; omega⟩
      obtain ⟨g1, es⟩ := g
      simp only at hm hx ⊢
      subst hm
      have hm8 : m ≤ 8 := by have := hg.1.1; simp only at this; omega
      obtain ⟨L, l1, l2⟩ := l4Sets_KL (N := N) (kind := kind) hm8 hx hN
      have hp := kind_some hg.1 l2
      rw [l1, bind_some']
      simp only []
      obtain ⟨x, c2, b1, b2, b3, b4, b5⟩ := pick_ok (N := N) hco a2 (by omega) (tLen L)
      have b5 := b5 (by rw [tLen_n]; omega)
      rw [tLen_n] at b5
      rw [b1, bind_some']
      simp only []
      obtain ⟨i, rfl⟩ : ∃ i : Nat, x = (i : Int) := ⟨x.toNat, by omega⟩
      have hi : i < L.length := by omega
      obtain ⟨⟨A, _, e⟩, _⟩ := (l2.2.2 _).1 (List.getElem_mem hi)
      have hl := setOf_len m A
      rw [inb_n hi, chk_t, rdL_n hi, e, l1Own_eq (by omega), bind_some']
      exact ⟨setOf m A, c2, rfl, cur_mono b2 (by omega), by omega⟩
  · rw [decide_eq_false hg]
    simp only [Bool.not_false, br_t]
    obtain ⟨s, c2, b1, b2, b3⟩ := nodes_ok (N := N) (g := g) hco hN h (by omega)
    rw [b1, bind_some']
    exact ⟨s, c2, rfl, cur_mono b2 (by omega), b3⟩
theorem bigG_ok {N : Nat} {code : List Int} {k : Nat} {c : List Int × (Int × Int)} (hco : codeOk code) (hN : 1048577 ≤ N) (h : CurOk code k c) (hk : k ≤ 90000) : ∃ (g : Int × List (Int × Int)) (c' : List Int × (Int × Int)), Zq90 N c = some (((g.1, g.2), ()), (c', ())) ∧ CurOk code (k + 200) c' ∧ g.2.length ≤ 100 := by
  unfold Zq90
  obtain ⟨g, c', e1, e2, e3⟩ := someGraph_ok (N := N) (most := 8) hco hN h hk (by omega)
  rw [e1, bind_some']
  exact ⟨g, c', rfl, e2, e3⟩
theorem br_same {R : Type} (b : Bool) (x : Option R) : br b x x = x := by cases b <;> rfl
theorem thr_nbs {m A : Nat} {ys : List (List Int)} (hA : A < 2 ^ m) (h : ∀ s ∈ ys, ∃ a : Nat, a < 2 ^ m ∧ s = setOf m a) : ∀ b ∈ ys, addP (setOf m A) b = true → b ∈ (List.range m).map fun x => setOf m (A ^^^ 2 ^ x) := fun b hb hp => by
  obtain ⟨B, hB, rfl⟩ := h b hb
  obtain ⟨x, hx, rfl⟩ := (addP_iff hA hB).1 hp
  exact List.mem_map.2 ⟨x, List.mem_range.2 hx, rfl⟩
theorem thr_steps {m : Nat} {ys : List (List Int)} (hm : m ≤ 8) (h : ∀ s ∈ ys, ∃ a : Nat, a < 2 ^ m ∧ s = setOf m a) (hs : lexSorted ys) : ys.length ≤ 256 ∧ (stepsL addP ys).length ≤ 6000 := by
  have h256 := pow256 hm
  have h1 := lex_small hs h
  have := steps_half (p := addP) (xs := ys) (B := 8) (fun a _ b _ => addP_symm) fun i hi => by
    obtain ⟨A, hA, e⟩ := h (rdL ys (i : Int)) (by rw [rdL_n hi]; exact List.getElem_mem hi)
    refine Nat.le_trans (numP_le (p := fun b => addP (rdL ys (i : Int)) b) (lex_nodup hs) (L := (List.range m).map fun x => setOf m (A ^^^ 2 ^ x)) fun b hb hp => thr_nbs hA h b hb (by rw [← e]; exact hp)) ?_
    simpa using hm
  omega
theorem thr_rows {m : Nat} {ys : List (List Int)} (hm : m ≤ 8) (h : ∀ s ∈ ys, ∃ a : Nat, a < 2 ^ m ∧ s = setOf m a) : ∀ x ∈ ys, x.length ≤ 24 ∧ ∀ z ∈ x, -99 ≤ z ∧ z ≤ 99 := fun x hx => by
  obtain ⟨A, _, rfl⟩ := h x hx
  have := setOf_len m A
  refine ⟨by omega, fun z hz => ?_⟩
  obtain ⟨i, hi, _, rfl⟩ := mem_setOf.1 hz
  omega
theorem Thr_st {N : Nat} {g : Int × List (Int × Int)} {kind k : Int} (hx : g.2.length ≤ 1048576) (hN : 1048577 ≤ N) (h : thrCase g kind k) : ∃ ys, ThSt g.1.toNat g.2 kind k ys ∧ okSp (ys, stepsL addP ys) ∧ Zq85 N g kind k = some (((ys, stepsL addP ys), true, ()), ()) ∧ Zq31 N g kind k = some (((ys, stepsL addP ys), true, ()), ()) := by
  unfold Zq85 Zq31
  simp only [show ((g.1, g.2) : Int × List (Int × Int)) = g from rfl]
  rw [l4K_eq hx hN, isThr_eq hx hN, bind_some', bind_some', decide_eq_true h]
  simp only [Bool.not_true, br_f]
  obtain ⟨hg, hk, hk2⟩ := h
  have hg1 := hg.1
  obtain ⟨m, hm⟩ : ∃ m : Nat, g.1 = (m : Int) := ⟨g.1.toNat, by omega⟩
  obtain ⟨g1, es⟩ := g
  simp only [] at hm hx hg1
  subst hm
  obtain ⟨ys, y1, y2⟩ := l4Thr_eq (kind := kind) (k := k) (m := m) (by omega) hx hN
  have y3 := threshold_eq (by omega) hg hx y1 hN
  have hin : ∀ s ∈ ys, ∃ a : Nat, a < 2 ^ m ∧ s = setOf m a := fun s hs => ((y1.2 s).1 hs).1
  refine ⟨ys, y1, exSp_ok (es := es) (kind := kind) (k := 0) (by omega) hin y1.1, ?_, ?_⟩
  · rw [y2, bind_some']
  · rw [y3, bind_some']
theorem ThSt_same {m : Nat} {es : List (Int × Int)} {kind k : Int} {xs ys : List (List Int)} (h1 : ThSt m es kind k xs) (h2 : ThSt m es kind k ys) : xs = ys := lex_ext h1.1 h2.1 fun s => by rw [h1.2, h2.2]
theorem ThrOf_more {N : Nat} {g : Int × List (Int × Int)} {kind : Int} {a b : List Int} (hx : g.2.length ≤ 1048576) (ha : a.length ≤ 1048576) (hb : b.length ≤ 1048576) (hN : 1048577 ≤ N) :
    ∃ (k : Int) (w : List (List Int)) (ok : Bool), Zq84 N g kind a b = some ((k, ok, ()), ()) ∧ Zq30 N g kind a b = some ((k, ok, ()), ()) ∧ Zq86 N g kind a b = some ((w, ok, ()), ()) ∧ Zq32 N g kind a b = some ((w, ok, ()), ()) ∧
      w.length ≤ 256 ∧ (∀ x ∈ w, x.length ≤ 8) ∧ (ok = true → ofK g kind a ∧ ofK g kind b ∧ passT g kind a b k w) := by
  unfold Zq84 Zq30 Zq86 Zq32
  simp only [show ((g.1, g.2) : Int × List (Int × Int)) = g from rfl]
  simp only [l4One_eq hx ha hN, isOfKind_eq hx ha hN, l4One_eq hx hb hN, isOfKind_eq hx hb hN, bind_some']
  by_cases h1 : ofK g kind a
  · rw [decide_eq_true h1]
    simp only [Bool.not_true, br_f]
    by_cases h2 : ofK g kind b
    · rw [decide_eq_true h2]
      simp only [Bool.not_true, br_f]
      obtain ⟨k, w, e1, e2, e3, e4, e5⟩ := Thr_pass hx h1 h2 hN
      simp only [e1, e2, bind_some']
      exact ⟨k, w, true, rfl, rfl, rfl, rfl, e3, e4, fun _ => ⟨h1, h2, e5⟩⟩
    · rw [decide_eq_false h2]
      exact ⟨0, [], false, rfl, rfl, rfl, rfl, by simp, by simp, fun q => by cases q⟩
  · rw [decide_eq_false h1]
    exact ⟨0, [], false, rfl, rfl, rfl, rfl, by simp, by simp, fun q => by cases q⟩
theorem Best_core {N m : Nat} {es : List (Int × Int)} {kind : Int} {L : List (List Int)} (hm8 : m ≤ 8) (hg : goodG ((m : Int), es)) (hx : es.length ≤ 1048576) (l1 : Zq129 N ((m : Int), es) kind = some ((L, ()), ())) (l2 : KindL m es kind L) (hN : 1048577 ≤ N) :
    Zq120 N ((m : Int), es) kind = some ((rdL L (bI kind L L.length : Int), ()), ()) ∧ Zq5 N ((m : Int), es) kind = some ((rdL L (bI kind L L.length : Int), ()), ()) ∧ 0 < L.length := by
  have hl := l2.2.1
  have hp := kind_some hg l2
  have hlt := fun n hn => bI_lt (kind := kind) hp n hn
  have i1 : ∀ (d n K : Nat), n + d = L.length → d < K → Zq5_l0 N (fun best o => some (((rdL o best), ()), ())) K kind (bI kind L n : Int) (L.length : Int) (n : Int) L = some ((rdL L (bI kind L L.length : Int), ()), ()) := by
    intro d
    induction d with
    | zero =>
      intro n K hd hK
      obtain ⟨K, rfl⟩ := succ_of hK
      have : n = L.length := by omega
      subst this
      simp only [Zq5_l0, ilt_nf (Nat.lt_irrefl L.length), br_f]
    | succ d ih =>
      intro n K hd hK
      obtain ⟨K, rfl⟩ := succ_of hK
      have hn : n < L.length := by omega
      simp only [Zq5_l0, ilt_n hn, br_t, inb_n hn, chk_t]
      rw [wrap_succ (by omega), tLen_n, tLen_n]
      have nx := ih (n + 1) K (by omega) (by omega)
      rw [bI_succ] at nx
      by_cases q1 : kind = 2
      · rw [ieq_t q1, br_t]
        by_cases q2 : (rdL L (bI kind L n : Int)).length < (rdL L (n : Int)).length
        · rw [if_pos ⟨q1, q2⟩] at nx
          rw [ilt_t (by omega), br_t]
          exact nx
        · rw [if_neg fun z => q2 z.2] at nx
          rw [ilt_f (by omega), br_f]
          exact nx
      · rw [if_neg fun z => q1 z.1] at nx
        rw [ieq_f q1, br_f]
        exact nx
  have i2 : ∀ (d n K : Nat), n + d = L.length → d < K → Zq120_l0 N (fun best => some ((best, ()), ())) K kind L (rdL L (bI kind L n : Int)) (n : Int) = some ((rdL L (bI kind L L.length : Int), ()), ()) := by
    intro d
    induction d with
    | zero =>
      intro n K hd hK
      obtain ⟨K, rfl⟩ := succ_of hK
      have : n = L.length := by omega
      subst this
      simp only [Zq120_l0, ilt_lenf (Nat.lt_irrefl L.length), br_f]
    | succ d ih =>
      intro n K hd hK
      obtain ⟨K, rfl⟩ := succ_of hK
      have hn : n < L.length := by omega
      simp only [Zq120_l0, ilt_len hn, br_t, inb_n hn, chk_t]
      rw [wrap_succ (by omega), tLen_n, tLen_n]
      have nx := ih (n + 1) K (by omega) (by omega)
      rw [bI_succ] at nx
      by_cases q1 : kind = 2
      · rw [ieq_t q1, br_t]
        by_cases q2 : (rdL L (bI kind L n : Int)).length < (rdL L (n : Int)).length
        · rw [if_pos ⟨q1, q2⟩] at nx
          rw [ilt_t (by omega), br_t]
          exact nx
        · rw [if_neg fun z => q2 z.2] at nx
          rw [ilt_f (by omega), br_f]
          exact nx
      · rw [if_neg fun z => q1 z.1] at nx
        rw [ieq_f q1, br_f]
        exact nx
  have b1 : bI kind L 1 = 0 := by
    rw [bI_succ, if_neg fun z => by have := z.2; simp [bI] at this]
    rfl
  have r1 := i1 L.length 0 N (by omega) (by omega)
  have r2 := i2 (L.length - 1) 1 N (by omega) (by omega)
  rw [b1] at r2
  have hb : Zq5 N ((m : Int), es) kind = some ((rdL L (bI kind L L.length : Int), ()), ()) := by
    unfold Zq5
    simp only []
    rw [ofKind_eq hm8 hg hx l2 hN, bind_some']
    simp only []
    rw [show inb L 0 = true from inb_n (n := 0) hp, chk_t, tLen_n]
    exact r1
  have hs : Zq120 N ((m : Int), es) kind = some ((rdL L (bI kind L L.length : Int), ()), ()) := by
    unfold Zq120
    simp only []
    rw [l1, bind_some']
    simp only []
    rw [show inb L 0 = true from inb_n (n := 0) hp, chk_t]
    exact r2
  exact ⟨hs, hb, hp⟩
theorem Tight_core {N m : Nat} {es : List (Int × Int)} {kind : Int} {L : List (List Int)} (hm8 : m ≤ 8) (hg : goodG ((m : Int), es)) (hk : 1 ≤ kind ∧ kind ≤ 3) (hx : es.length ≤ 1048576) (l1 : Zq129 N ((m : Int), es) kind = some ((L, ()), ())) (l2 : KindL m es kind L) (hN : 1048577 ≤ N) :
    Zq87 N ((m : Int), es) kind = some ((L.filter (tL m es kind), true, ()), ()) := by
  unfold Zq87
  simp only []
  rw [l4Good_eq hx hN, bind_some', decide_eq_true (show goodG ((m : Int), es) ∧ 1 ≤ kind ∧ kind ≤ 3 from ⟨hg, hk⟩)]
  simp only [Bool.not_true, br_f]
  have hl := l2.2.1
  have := spec_tight_l0 (N := N) (k0 := fun o3 => some ((o3, true, ()), ())) hm8 hx l2 hN L.length 0 N [] (by omega) (by omega) (by simp)
  rw [show ((0 : Nat) : Int) = 0 from rfl] at this
  rw [l1, bind_some']
  exact this
theorem Wide_both {N : Nat} {g : Int × List (Int × Int)} {kind : Int} (hx : g.2.length ≤ 1048576) (hN : 1048577 ≤ N) : ∃ v : Int × Bool, Zq88 N g kind = some ((v.1, v.2, ()), ()) ∧ Zq33 N g kind = some ((v.1, v.2, ()), ()) ∧
    (v.2 = true → thrCase g kind v.1 ∧ ∀ ys, ThSt g.1.toNat g.2 kind v.1 ys → cntN (nbL ys.length (stepsL addP ys)) ys.length ≤ 1) := by
  unfold Zq88 Zq33 Zq42
  simp only [show ((g.1, g.2) : Int × List (Int × Int)) = g from rfl]
  rw [l4Good_eq hx hN, bind_some', IsGraph_eq hx hN, bind_some']
  simp only [between_eq, bind_some']
  by_cases h : goodG g ∧ 1 ≤ kind ∧ kind ≤ 3
  · obtain ⟨hg, hk⟩ := h
    rw [decide_eq_true (show goodG g ∧ 1 ≤ kind ∧ kind ≤ 3 from ⟨hg, hk⟩), decide_eq_true hg, decide_eq_true hk]
    simp only [Bool.not_true, br_f]
    have hg1 := hg.1
    obtain ⟨m, hm⟩ : ∃ m : Nat, g.1 = (m : Int) := ⟨g.1.toNat, by omega⟩
    obtain ⟨g1, es⟩ := g
    simp only at hm hx hg1 ⊢
    subst hm
    simp only [Int.toNat_natCast]
    have hm8 : m ≤ 8 := by omega
    obtain ⟨L, l0, l1⟩ := l4Sets_KL (N := N) (kind := kind) hm8 hx hN
    obtain ⟨b8, b9, b7⟩ := Best_core hm8 hg hx l0 l1 hN
    have s1 := Tight_core hm8 hg hk hx l0 l1 hN
    have ht := tight_eq hm8 hg hx l1 hN
    have hbt := best_tight l1 b7
    rw [s1, b8, ht, b9, bind_some', bind_some', bind_some', bind_some']
    simp only []
    have hts : (L.filter (tL m es kind)).Pairwise sizeLt := l1.1.filter _
    have htl : (L.filter (tL m es kind)).length ≤ 2304 := Nat.le_trans (List.length_filter_le ..) l1.2.1
    have s4 : ∀ s ∈ L.filter (tL m es kind), s.length ≤ 8 := fun s hs => by
      obtain ⟨⟨A, _, rfl⟩, _⟩ := (l1.2.2 s).1 (List.mem_filter.1 hs).1
      have := setOf_len m A
      omega
    have hmT : ∀ A, A < 2 ^ m → hasK m es kind (setOf m A) → tightM m es kind A → setOf m A ∈ L.filter (tL m es kind) := fun A hA h1 h2 => List.mem_filter.2 ⟨(l1.2.2 _).2 ⟨⟨A, hA, rfl⟩, h1⟩, by rw [tL_set hA]; exact decide_eq_true h2⟩
    have hBL := (l1.2.2 _).1 (List.mem_filter.1 hbt).1
    generalize L.filter (tL m es kind) = T at hts htl s4 hmT hbt ⊢
    generalize rdL L (bI kind L L.length : Int) = B at hbt hBL ⊢
    have htp : 0 < T.length := List.length_pos_of_mem hbt
    obtain ⟨⟨Bn, hBn, eB⟩, vB⟩ := hBL
    rw [eB] at vB
    have hBl := setOf_len m Bn
    have hBl2 : B.length ≤ 8 := by rw [eB]; omega
    have hfl : (rdL T 0).length ≤ 8 := s4 _ (by rw [show (0 : Int) = ((0 : Nat) : Int) from rfl, rdL_n htp]; exact List.getElem_mem htp)
    have hll : (rdL T ((T.length - 1 : Nat) : Int)).length ≤ 8 := s4 _ (by rw [rdL_n (by omega)]; exact List.getElem_mem _)
    by_cases h2 : kind = 2
    · have hwa : IntKind.i64.wrap (((rdL T 0).length : Int) + (B.length : Int)) = ((rdL T 0).length : Int) + (B.length : Int) := wrap_ok (by omega) (by omega)
      rw [ieq_t h2, br_t, br_t, show inb T 0 = true from inb_n (n := 0) htp, chk_t, chk_t, tLen_n, tLen_n, hwa, wrap_ok (by omega) (by omega), l1Most_eq, bind_some']
      refine ⟨(_, true), rfl, rfl, fun _ => ⟨⟨hg, hk, ?_⟩, fun ys hys => ?_⟩⟩
      · simp only
        have := kind_first hts hbt
        rw [eB] at this
        rw [eB]
        split <;> omega
      · simp only at hys
        have hin : ∀ s ∈ ys, ∃ a : Nat, a < 2 ^ m ∧ s = setOf m a := fun s hs => ((hys.2 s).1 hs).1
        have hn := (thr_steps hm8 hin hys.1).1
        rw [eB] at hys
        have hcB : card m (sg kind m Bn) = m - (setOf m Bn).length := by rw [card_sg, if_pos h2]; rfl
        refine wide_one (bd := min m ((m - (rdL T 0).length) + (m - (setOf m Bn).length))) (Γ := m - (rdL T 0).length) ?_ hys (by omega) hBn vB (by rw [hcB]; omega) (fun A hA h3 h4 => ?_) (by rw [hcB]; omega)
        · rw [if_pos h2]
          have := kind_first hts hbt
          rw [eB] at this
          split <;> omega
        · have := kind_first hts (hmT A hA h3 h4)
          rw [card_sg, if_pos h2]
          unfold card
          omega
    · have hw1 : IntKind.i64.wrap (tLen T - 1) = ((T.length - 1 : Nat) : Int) := by
        rw [tLen_n, wrap_ok (by omega) (by omega)]
        omega
      rw [ieq_f h2, br_f, br_f, hw1, inb_n (by omega), chk_t, chk_t, tLen_n, tLen_n, wrap_ok (by omega) (by omega), l1Least_eq, bind_some']
      refine ⟨(_, true), rfl, rfl, fun _ => ⟨⟨hg, hk, ?_⟩, fun ys hys => ?_⟩⟩
      · simp only
        split <;> omega
      · simp only at hys
        have hin : ∀ s ∈ ys, ∃ a : Nat, a < 2 ^ m ∧ s = setOf m a := fun s hs => ((hys.2 s).1 hs).1
        have hn := (thr_steps hm8 hin hys.1).1
        rw [eB] at hys
        have hcB : card m (sg kind m Bn) = (setOf m Bn).length := by rw [card_sg, if_neg h2]; rfl
        refine wide_one (bd := min m ((rdL T ((T.length - 1 : Nat) : Int)).length + (setOf m Bn).length)) (Γ := (rdL T ((T.length - 1 : Nat) : Int)).length) ?_ hys (by omega) hBn vB (by rw [hcB]; omega) (fun A hA h3 h4 => ?_) (by rw [hcB]; omega)
        · rw [if_neg h2]
          split <;> omega
        · have := kind_last hts (hmT A hA h3 h4)
          rw [card_sg, if_neg h2]
          exact this
  · rw [decide_eq_false h]
    refine ⟨(0, false), rfl, ?_, fun q => by cases q⟩
    by_cases hg : goodG g
    · rw [decide_eq_true hg, decide_eq_false fun q => h ⟨hg, q⟩]
      rfl
    · rw [decide_eq_false hg]
      rfl
theorem HasK_in {N m A : Nat} {es : List (Int × Int)} {kind : Int} (hm : m ≤ 8) (hg : goodG ((m : Int), es)) (hk : 1 ≤ kind ∧ kind ≤ 3) (hx : es.length ≤ 1048576) (hA : A < 2 ^ m) (hv : hasK m es kind (setOf m A)) (hN : 1048577 ≤ N) : Zq20 N ((m : Int), es) kind (setOf m A) = some ((true, true, ()), ()) := by
  have hl := setOf_len m A
  unfold Zq20 Zq46 Zq42
  simp only []
  rw [IsGraph_eq hx hN, bind_some', decide_eq_true hg]
  simp only [between_eq, bind_some']
  rw [decide_eq_true hk]
  simp only [br_t]
  rw [isRising_eq (by omega) (by omega) hN, bind_some', decide_eq_true (setOf_rising (m := m) (A := A)), bind_some']
  simp only [Bool.not_true, br_f]
  rw [bagOf_set hm hA hN, bind_some']
  simp only []
  rw [hasKind_eq hm hA hg hx hN, bind_some', decide_eq_true hv]
theorem FirstWay_of {N : Nat} {xs : List (List Int)} {st : List (Int × Int)} {i j : Nat} (h1 : xs.length ≤ 300) (h2 : st.length ≤ 6000) (hs : ∀ x ∈ xs, x.length ≤ 24 ∧ ∀ z ∈ x, -99 ≤ z ∧ z ≤ 99) (hl : lexSorted xs) (h : okSt xs.length st) (hi : i < xs.length) (hj : j < xs.length) (hN : 1048577 ≤ N) :
    Zq3 N (xs, st) (i : Int) (j : Int) = some ((wayI xs st i j, decide (wayI xs st i j ≠ []), ()), ()) := by
  unfold Zq3 Zq26
  simp only []
  rw [isSpace_ok h1 h2 hs hl h hN, bind_some']
  simp only [between_eq, bind_some', Bool.not_true, br_f]
  rw [tLen_n, wrap_ok (by omega) (by omega), decide_eq_true (show 0 ≤ (i : Int) ∧ (i : Int) ≤ (xs.length : Int) - 1 by omega), decide_eq_true (show 0 ≤ (j : Int) ∧ (j : Int) ≤ (xs.length : Int) - 1 by omega)]
  simp only [Bool.not_true, br_f]
  rw [firstWay_eq (by omega) (by omega) h hi hj hN, bind_some']
theorem thr_loop0 {R : Type} {N m : Nat} {es : List (Int × Int)} {kind k by' : Int} {a b : List Int} {w : List (List Int)} {k0 : Bool → Option R} {k1 : Int → List Int → List Int → Int → Int → Int → List (Int × Int) → Option R} (hm : m ≤ 8) (hg : goodG ((m : Int), es)) (hk : 1 ≤ kind ∧ kind ≤ 3) (hx : es.length ≤ 1048576) (hw : w.length ≤ 256) (hkk : 0 ≤ k ∧ k ≤ (m : Int)) (hby : by' = if kind = 2 then -1 else 1)
    (hall : ∀ s ∈ w, (∃ A, A < 2 ^ m ∧ s = setOf m A) ∧ hasK m es kind s ∧ fitsP kind s.length k) (hN : 1048577 ≤ N) :
    ∀ (d n K : Nat), n + d = w.length → d < K → Zq55_l0 N k0 k1 K kind a b k by' (n : Int) (m : Int) es w = k1 kind a b k by' (m : Int) es := by
  intro d
  induction d with
  | zero =>
    intro n K hd hK
    obtain ⟨K, rfl⟩ := succ_of hK
    simp only [Zq55_l0, ilt_lenf (show ¬ n < w.length by omega), br_f]
  | succ d ih =>
    intro n K hd hK
    obtain ⟨K, rfl⟩ := succ_of hK
    have hn : n < w.length := by omega
    have nx := ih (n + 1) K (by omega) (by omega)
    obtain ⟨⟨A, hA, e⟩, hv, hf⟩ := hall _ (List.getElem_mem hn)
    have hl := setOf_len m A
    simp only [Zq55_l0, ilt_len hn, br_t, inb_n hn, chk_t]
    rw [rdL_n hn, e]
    rw [e] at hv hf
    rw [HasK_in hm hg hk hx hA hv hN, bind_some']
    simp only [Bool.not_true, br_f]
    rw [tLen_n, wrap_succ (by omega)]
    have hlt : ilt (IntKind.i64.wrap (by' * k)) (IntKind.i64.wrap (by' * ((setOf m A).length : Int))) = false := by
      unfold fitsP at hf
      by_cases q : kind = 2
      · rw [if_pos q] at hf hby
        subst hby
        rw [wrap_ok (by omega) (by omega), wrap_ok (by omega) (by omega)]
        exact ilt_f (by omega)
      · rw [if_neg q] at hf hby
        subst hby
        rw [wrap_ok (by omega) (by omega), wrap_ok (by omega) (by omega)]
        exact ilt_f (by omega)
    rw [hlt, br_f]
    exact nx
theorem thr_tail {N : Nat} {g : Int × List (Int × Int)} {kind k by' : Int} {a b : List Int} {w : List (List Int)} (hx : g.2.length ≤ 1048576) (ha : ofK g kind a) (hb : ofK g kind b) (hp : passT g kind a b k w) (hby : by' = if kind = 2 then -1 else 1) (hN : 1048577 ≤ N) :
    (br (ile 0 (IntKind.i64.wrap (k - by')))
      ((br (ile (IntKind.i64.wrap (k - by')) g.1)
        ((br (ile (IntKind.i64.wrap (by' * (tLen a))) (IntKind.i64.wrap (by' * (IntKind.i64.wrap (k - by')))))
          ((br (ile (IntKind.i64.wrap (by' * (tLen b))) (IntKind.i64.wrap (by' * (IntKind.i64.wrap (k - by')))))
            (((Zq31 N (g.1, g.2) kind (IntKind.i64.wrap (k - by'))).bind fun r14 =>
              ((Zq85 N (g.1, g.2) kind (IntKind.i64.wrap (k - by'))).bind fun r15 =>
                (br (!r14.1.2.1)
                  (some ((false, ()), ()))
                  ((br (!r15.1.2.1)
                    (some ((false, ()), ()))
                    (((Zq59 N (r14.1.1.1, r14.1.1.2) (r15.1.1.1, r15.1.1.2)).bind fun r16 =>
                      (br (!r16.1.1)
                        (some ((false, ()), ()))
                        (((Zq24 N (r14.1.1.1, r14.1.1.2) a).bind fun r17 =>
                          ((Zq24 N (r14.1.1.1, r14.1.1.2) b).bind fun r18 =>
                            ((Zq3 N (r14.1.1.1, r14.1.1.2) r17.1.1 r18.1.1).bind fun r19 =>
                              (br r17.1.2.1
                                ((br r18.1.2.1
                                  (some (((!r19.1.2.1), ()), ()))
                                  (some ((false, ()), ()))))
                                (some ((false, ()), ()))))))))))))))))
            (some ((true, ()), ()))))
          (some ((true, ()), ()))))
        (some ((true, ()), ()))))
      (some ((true, ()), ()))) = (some ((true, ()), ()) : Option ((Bool × Unit) × Unit)) := by
  simp only [show ((g.1, g.2) : Int × List (Int × Int)) = g from rfl]
  obtain ⟨⟨hg, hk⟩, ha2, ha3⟩ := ha
  obtain ⟨_, hb2, hb3⟩ := hb
  obtain ⟨hkk, _, hq⟩ := hp
  have hg1 := hg.1
  obtain ⟨A, hA, eA⟩ := setCase_facts hg ha2
  obtain ⟨B, hB, eB⟩ := setCase_facts hg hb2
  have hla := setOf_len g.1.toNat A
  have hlb := setOf_len g.1.toNat B
  rw [← eA] at hla
  rw [← eB] at hlb
  have hbb : by' = -1 ∨ by' = 1 := by rw [hby]; split <;> simp
  have w1 : IntKind.i64.wrap (k - by') = k - by' := by rcases hbb with e | e <;> (subst e; exact wrap_ok (by omega) (by omega))
  have w2 : IntKind.i64.wrap (by' * (k - by')) = by' * (k - by') := by rcases hbb with e | e <;> (rw [e]; exact wrap_ok (by omega) (by omega))
  have w3 : IntKind.i64.wrap (by' * (a.length : Int)) = by' * (a.length : Int) := by rcases hbb with e | e <;> (rw [e]; exact wrap_ok (by omega) (by omega))
  have w4 : IntKind.i64.wrap (by' * (b.length : Int)) = by' * (b.length : Int) := by rcases hbb with e | e <;> (rw [e]; exact wrap_ok (by omega) (by omega))
  rw [tLen_n, tLen_n, w1, w2, w3, w4]
  by_cases c1 : 0 ≤ k - by'
  · rw [ile_t c1, br_t]
    by_cases c2 : k - by' ≤ g.1
    · rw [ile_t c2, br_t]
      by_cases c3 : by' * (a.length : Int) ≤ by' * (k - by')
      · rw [ile_t c3, br_t]
        by_cases c4 : by' * (b.length : Int) ≤ by' * (k - by')
        · rw [ile_t c4, br_t]
          rcases hq with e | ⟨zs, z1, z2, z3, z4⟩
          · exfalso
            by_cases q : kind = 2
            · rw [if_pos q] at e hby
              subst hby
              omega
            · rw [if_neg q] at e hby
              subst hby
              omega
          · rw [← hby] at z1
            obtain ⟨ys, y1, y2, y3, y4⟩ := Thr_st hx hN (show thrCase g kind (k - by') from ⟨hg, hk, c1, c2⟩)
            have e := ThSt_same y1 z1
            subst e
            have hin : ∀ s ∈ ys, ∃ a : Nat, a < 2 ^ g.1.toNat ∧ s = setOf g.1.toNat a := fun s hs => ((y1.2 s).1 hs).1
            have hst := thr_steps (by omega) hin y1.1
            have hrw := thr_rows (by omega) hin
            have hw0 : wayI ys (stepsL addP ys) (ys.idxOf a) (ys.idxOf b) = [] := by
              unfold wayS at z4
              exact List.map_eq_nil_iff.1 z4
            rw [y4, bind_some', y3, bind_some']
            simp only [Bool.not_true, br_f]
            rw [rSpace_self y2 hN, bind_some']
            simp only [Bool.not_true, br_f]
            rw [placeOf_in (by omega) (by omega) hrw y1.1 stepsL_ok z2 hN, placeOf_in (by omega) (by omega) hrw y1.1 stepsL_ok z3 hN, bind_some', bind_some']
            simp only []
            rw [FirstWay_of (by omega) (by omega) hrw y1.1 stepsL_ok (idx_lt z2) (idx_lt z3) hN, bind_some', hw0]
            simp [br_t]
        · rw [ile_f c4, br_f]
      · rw [ile_f c3, br_f]
    · rw [ile_f c2, br_f]
  · rw [ile_f c1, br_f]
theorem DrawThr_ok {N : Nat} {code : List Int} (hco : codeOk code) (hN : 1048577 ≤ N) : ∃ (g : Int × List (Int × Int)) (kind : Int) (a b : List Int), Zq81 N code = some (((g.1, g.2), kind, a, b, ()), ()) ∧ g.2.length ≤ 100 ∧ a.length ≤ 9 ∧ b.length ≤ 9 := by
  unfold Zq81
  obtain ⟨g, c1, a1, a2, a3⟩ := someGraph_ok (N := N) (most := 5) hco hN cur0 (by omega) (by omega)
  rw [a1, bind_some']
  simp only []
  obtain ⟨p, c2, b1, b2⟩ := one_ok (N := N) hco a2 (by omega) 8
  rw [b1, bind_some']
  simp only []
  have rest : ∀ (g : Int × List (Int × Int)) (k : Nat) (c : List Int × (Int × Int)), CurOk code k c → k ≤ 1000 → g.2.length ≤ 100 → ∃ (kind : Int) (a b : List Int), ((Zq91 N c).bind fun r3 =>
          ((Zq94 N (r3.2.1.1, (r3.2.1.2.1, r3.2.1.2.2)) g r3.1.1).bind fun r4 =>
            ((Zq94 N r4.2.1 g r3.1.1).bind fun r5 =>
              some (((g.1, g.2), r3.1.1, r4.1.1, r5.1.1, ()), ())))) = some (((g.1, g.2), kind, a, b, ()), ()) ∧ a.length ≤ 9 ∧ b.length ≤ 9 := by
    intro g k c hc hk hx
    obtain ⟨kind, c3, d1, d2⟩ := kind_ok (N := N) hco hc (by omega)
    rw [d1, bind_some']
    simp only [show ((c3.1, (c3.2.1, c3.2.2)) : List Int × (Int × Int)) = c3 from rfl]
    obtain ⟨a, c4, e1, e2, e3⟩ := ofKind_ok (N := N) (g := g) (kind := kind) hco hN d2 (by omega) (by omega)
    rw [e1, bind_some']
    simp only []
    obtain ⟨b, c5, f1, f2, f3⟩ := ofKind_ok (N := N) (g := g) (kind := kind) hco hN e2 (by omega) (by omega)
    rw [f1, bind_some']
    exact ⟨kind, a, b, rfl, e3, f3⟩
  cases p with
  | true =>
    obtain ⟨h, c3, d1, d2, d3⟩ := bigG_ok (N := N) hco hN b2 (by omega)
    rw [br_t, d1, bind_some']
    obtain ⟨kind, a, b, e1, e2, e3⟩ := rest h _ c3 d2 (by omega) d3
    exact ⟨h, kind, a, b, e1, d3, e2, e3⟩
  | false =>
    rw [br_f]
    obtain ⟨kind, a, b, e1, e2, e3⟩ := rest g _ c2 b2 (by omega) a3
    exact ⟨g, kind, a, b, e1, a3, e2, e3⟩
theorem DrawWide_ok {N : Nat} {code : List Int} (hco : codeOk code) (hN : 1048577 ≤ N) : ∃ (g : Int × List (Int × Int)) (kind : Int), Zq82 N code = some (((g.1, g.2), kind, ()), ()) ∧ g.2.length ≤ 100 := by
  unfold Zq82 Zq80
  obtain ⟨g, c1, a1, a2, a3⟩ := bigG_ok (N := N) hco hN cur0 (by omega)
  rw [a1, bind_some']
  simp only [show ((c1.1, (c1.2.1, c1.2.2)) : List Int × (Int × Int)) = c1 from rfl]
  obtain ⟨kind, c2, b1, b2⟩ := kind_ok (N := N) hco a2 (by omega)
  rw [b1, bind_some', bind_some']
  exact ⟨g, kind, rfl, a3⟩
theorem Thresholds_pure {N : Nat} (hN : 1048577 ≤ N) {code : List Int} (hw : ∀ y ∈ code, (Lit.int .u8 y).wf = true) : Zq55 N code = some ((true, ()), ()) := by
  unfold Zq55 Zq56
  rw [bind_some']
  simp only []
  rw [tLen_n]
  by_cases hb : 65536 < code.length
  · rw [ilt_t (by omega), br_t]
  · rw [ilt_f (by omega), br_f]
    have hco := code_ok hw (by omega)
    obtain ⟨g, kind, a, b, d1, d2, d3, d4⟩ := DrawThr_ok (N := N) hco hN
    obtain ⟨h, srt, e1, e2⟩ := DrawWide_ok (N := N) hco hN
    have hx : g.2.length ≤ 1048576 := by omega
    have hy : h.2.length ≤ 1048576 := by omega
    obtain ⟨k, w, ok, t1, t2, t3, t4, t5, t6, t7⟩ := ThrOf_more (g := g) (kind := kind) (a := a) (b := b) hx (by omega) (by omega) hN
    obtain ⟨⟨wd, two⟩, s1, s2, s3⟩ := Wide_both (g := h) (kind := srt) hy hN
    rw [d1, bind_some']
    simp only [show ((g.1, g.2) : Int × List (Int × Int)) = g from rfl, show ((h.1, h.2) : Int × List (Int × Int)) = h from rfl, t1, t2, t3, t4, e1, s1, s2, bind_some']
    rw [ine_f rfl, br_f, rTable_eq (by omega) (fun x hx => by have := t6 x hx; omega) hN, bind_some']
    simp only [beq_self_eq_true, Bool.not_true, decide_true, br_f]
    rw [ine_f rfl, br_f]
    have part : two = true → h.1 < 7 → ∃ (ys : List (List Int)) (pb : List (List Int)), okSp (ys, stepsL addP ys) ∧ Zq85 N h srt wd = some (((ys, stepsL addP ys), true, ()), ()) ∧ Zq31 N h srt wd = some (((ys, stepsL addP ys), true, ()), ()) ∧ Zq23 N (ys, stepsL addP ys) = some ((pb, true, ()), ()) ∧ pb.length ≤ 1 := by
      intro q1 q2
      obtain ⟨z1, z2⟩ := s3 q1
      obtain ⟨ys, y1, y2, y3, y4⟩ := Thr_st hy hN z1
      have hin : ∀ s ∈ ys, ∃ a : Nat, a < 2 ^ h.1.toNat ∧ s = setOf h.1.toNat a := fun s hs => ((y1.2 s).1 hs).1
      have hst := thr_steps (by omega) hin y1.1
      have hrw := thr_rows (by omega) hin
      obtain ⟨pb, p1, p2⟩ := partsOf_cnt (st := stepsL addP ys) (by omega) (by omega) hrw y1.1 stepsL_ok hN
      exact ⟨ys, pb, y2, y3, y4, p1, by rw [p2]; exact z2 ys y1⟩
    have tail : ok = true → ∀ (k0 : Bool → Option ((Bool × Unit) × Unit)) (k1 : Int → List Int → List Int → Int → Int → Int → List (Int × Int) → Option ((Bool × Unit) × Unit)) (by' : Int), by' = (if kind = 2 then -1 else 1) → Zq55_l0 N k0 k1 N kind a b k by' 0 g.1 g.2 w = k1 kind a b k by' g.1 g.2 := by
      intro q k0 k1 by' hby
      obtain ⟨⟨⟨hg, hk⟩, _, _⟩, _, hkk, ⟨ys, y1, y2, y3, y4, _⟩, _⟩ := t7 q
      have hg1 := hg.1
      obtain ⟨m, hm⟩ : ∃ m : Nat, g.1 = (m : Int) := ⟨g.1.toNat, by omega⟩
      have hmn : g.1.toNat = m := by omega
      rw [hmn] at y1
      have hin : ∀ s ∈ ys, ∃ a : Nat, a < 2 ^ m ∧ s = setOf m a := fun s hs => ((y1.2 s).1 hs).1
      have hst := thr_steps (by omega) hin y1.1
      have := thr_loop0 (N := N) (m := m) (es := g.2) (kind := kind) (k := k) (by' := by') (a := a) (b := b) (w := w) (k0 := k0) (k1 := k1) (by omega) (by rw [← hm]; exact hg) hk hx (by omega) (by omega) hby (fun s hs => (y1.2 s).1 (wayS_in (by omega) stepsL_ok y2 y3 s (by rw [← y4]; exact hs))) hN w.length 0 N (by omega) (by omega)
      rw [hm]
      exact this
    cases ok with
    | false =>
      simp only [Bool.not_false, br_t]
      cases two with
      | false => rw [br_f]
      | true =>
        rw [br_t]
        by_cases h7 : h.1 < 7
        · obtain ⟨ys, pb, y1, y2, y3, y4, y5⟩ := part rfl h7
          rw [ilt_t h7, br_t, y3, y2, bind_some', bind_some']
          simp only [Bool.not_true, br_f]
          rw [rSpace_self y1 hN, bind_some']
          simp only [Bool.not_true, br_f]
          rw [y4, bind_some']
          simp only [Bool.not_true, br_f]
          rw [tLen_n, ilt_f (by omega), br_f]
        · rw [ilt_f h7, br_f]
    | true =>
      obtain ⟨ha, hb2, hp⟩ := t7 rfl
      have tt := fun by' hby => thr_tail (N := N) (by' := by') hx ha hb2 hp hby hN
      have tl := tail rfl
      simp only [Bool.not_true, br_f]
      have fin : ∀ (x y : Option ((Bool × Unit) × Unit)), (kind = 2 → x = some ((true, ()), ())) → (kind ≠ 2 → y = some ((true, ()), ())) → br (ieq kind 2) x y = some ((true, ()), ()) := by
        intro x y hx hy
        by_cases q : kind = 2
        · rw [ieq_t q, br_t, hx q]
        · rw [ieq_f q, br_f, hy q]
      cases two with
      | false =>
        rw [br_f]
        refine fin _ _ (fun q => ?_) (fun q => ?_)
        · rw [tl _ _ (-1) (by rw [if_pos q])]
          exact tt (-1) (by rw [if_pos q])
        · rw [tl _ _ 1 (by rw [if_neg q])]
          exact tt 1 (by rw [if_neg q])
      | true =>
        rw [br_t]
        by_cases h7 : h.1 < 7
        · obtain ⟨ys, pb, y1, y2, y3, y4, y5⟩ := part rfl h7
          rw [ilt_t h7, br_t, y3, y2, bind_some', bind_some']
          simp only [Bool.not_true, br_f]
          rw [rSpace_self y1 hN, bind_some']
          simp only [Bool.not_true, br_f]
          rw [y4, bind_some']
          simp only [Bool.not_true, br_f]
          rw [tLen_n, ilt_f (by omega), br_f]
          refine fin _ _ (fun q => ?_) (fun q => ?_)
          · rw [tl _ _ (-1) (by rw [if_pos q])]
            exact tt (-1) (by rw [if_pos q])
          · rw [tl _ _ 1 (by rw [if_neg q])]
            exact tt 1 (by rw [if_neg q])
        · rw [ilt_f h7, br_f]
          refine fin _ _ (fun q => ?_) (fun q => ?_)
          · rw [tl _ _ (-1) (by rw [if_pos q])]
            exact tt (-1) (by rw [if_pos q])
          · rw [tl _ _ 1 (by rw [if_neg q])]
            exact tt 1 (by rw [if_neg q])
theorem Thresholds_pureT : ∀ x : argsT (psOf [LU8]), WfA [LU8] x → ∃ k m, (Zq55_S k).f x = some ((true, ()), m) :=
  fun x h => ⟨1048577, (), Thresholds_pure (Nat.le_refl _) h.1.2⟩
end Go.Proofs.YtffeokcchabclaaGreat
