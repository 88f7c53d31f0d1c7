/- Statements on data alone. -/
import Derived.Test.YtbnjcjpnpidhmaaGreatPvPure
import Derived.Test.YtbnjcjpnpidhmaaGreatColouringsLawGc
set_option linter.all false
set_option linter.all false
namespace Go.Proofs.YtbnjcjpnpidhmaaGreat
open Go Go.PV Classical
theorem impl_KemSp {N : Nat} {g : Int × List (Int × Int)} {k : Int} (hx : g.2.length ≤ 1048576) (hN : 1048577 ≤ N) : impl_KempeSpace N g k = some (((kemSpV g k).1, (kemSpV g k).2, ()), ()) := by
  unfold impl_KempeSpace kemSpV
  simp only [show ((g.1, g.2) : Int × List (Int × Int)) = g from rfl]
  rw [colourings_eq hx hN, bind_some']
  unfold colsR
  by_cases h : colCase g k ∧ (allC g k).length ≤ 300
  · rw [if_pos h, if_pos h]
    obtain ⟨s1, s2⟩ := allC_sorted g k
    have hr := allC_rows (g := g) (k := k)
    have hgg := h.1.1
    have hg := h.1.1.1
    have hst := kemSteps_le h.1 h.2
    have hr8 : ∀ x ∈ allC g k, x.length ≤ 8 := fun x hx => by have := hr x hx; omega
    have eg : (((g.1.toNat : Nat) : Int), g.2) = g := by rw [show ((g.1.toNat : Nat) : Int) = g.1 by omega]
    simp only [Bool.not_true, br_f]
    rw [spaceOf_ne (p := kemP g.1.toNat g.2) s1 (fun x hx => by have := hr8 x hx; omega) (by omega) (fun a ha b hb hne => ?_) hN, bind_some']
    · simp only []
      rw [orNone_eq (by simp only []; omega) (by simp only []; omega), bind_some']
    · have := impl_kem (N := N) (m := g.1.toNat) (es := g.2) (by omega) (by rw [eg]; exact hgg) hx (hr a ha) (hr b hb) hne hN
      rwa [eg] at this
  · rw [if_neg h, if_neg h]
    rfl
def pairsUp (o : List (Int × Int)) : Prop := o.Pairwise edgeLt
theorem edgeLt_trans {a b c : Int × Int} (h1 : edgeLt a b) (h2 : edgeLt b c) : edgeLt a c := by unfold edgeLt at *; omega
theorem edgeLt_tot {a b : Int × Int} (h : ¬ edgeLt a b) (hne : a ≠ b) : edgeLt b a := by
  unfold edgeLt at *
  by_cases h1 : a.1 = b.1
  · by_cases h2 : a.2 = b.2
    · exact absurd (Prod.ext h1 h2) hne
    · omega
  · omega
theorem putPair_eq {N : Nat} {o : List (Int × Int)} {e : Int × Int} (ho : pairsUp o) (hl : o.length ≤ 1048576) (hN : 1048577 ≤ N) : ∃ o', spec_l2PutPair N o e = some ((o', ()), ()) ∧ pairsUp o' ∧ (∀ f, f ∈ o' ↔ f ∈ o ∨ f = e) ∧ o'.length ≤ o.length + 1 := by
  unfold pairsUp at ho
  have find : ∀ (k K : Nat) (k0 : Int → List (Int × Int) → Int → Int → Option ((List (Int × Int) × Unit) × Unit)), k < K → k ≤ o.length → (∀ j (h : j < o.length), k ≤ j → edgeLt e o[j]) →
      ∃ k2 : Nat, k2 ≤ o.length ∧ (∀ j (h : j < o.length), j < k2 → ¬ edgeLt e o[j]) ∧ (∀ j (h : j < o.length), k2 ≤ j → edgeLt e o[j]) ∧ spec_l2PutPair_l0 N k0 K (k : Int) o e.1 e.2 = k0 (k2 : Int) o e.1 e.2 := by
    intro k
    induction k with
    | zero =>
      intro K k0 hK hk h
      obtain ⟨K, rfl⟩ := succ_of hK
      refine ⟨0, hk, fun j h1 h2 => absurd h2 (Nat.not_lt_zero j), h, ?_⟩
      simp only [spec_l2PutPair_l0, Int.natCast_zero]
      rw [ilt_f (by decide), br_f]
    | succ k ih =>
      intro K k0 hK hk h
      obtain ⟨K, rfl⟩ := succ_of hK
      have hko : k < o.length := by omega
      simp only [spec_l2PutPair_l0]
      rw [ilt_t (by omega), br_t, wrap_pred (by omega) (by omega), show k + 1 - 1 = k by omega, inb_n hko, chk_t, rdP_n hko, l2Edge_eq, bind_some']
      simp only [show ((e.1, e.2) : Int × Int) = e from rfl]
      by_cases hc : edgeLt e o[k]
      · rw [decide_eq_true hc, br_t]
        exact ih K k0 (by omega) (by omega) fun j hj hkj => by
          by_cases he : j = k
          · subst he; exact hc
          · exact h j hj (by omega)
      · rw [decide_eq_false hc, br_f]
        refine ⟨k + 1, hk, fun j hj hjk => ?_, h, rfl⟩
        by_cases he : j = k
        · subst he; exact hc
        · have := List.pairwise_iff_getElem.1 ho j k hj hko (by omega)
          exact fun h2 => hc (edgeLt_trans h2 this)
  unfold spec_l2PutPair
  obtain ⟨k, k1, k2, k3, k4⟩ := find o.length N (fun kv o o1 o2 => (br (ilt 0 kv)
    ((chk (inb o (IntKind.i64.wrap (kv - 1)))
      (br (ieq ((rdP o (IntKind.i64.wrap (kv - 1))).1) o1 && ieq ((rdP o (IntKind.i64.wrap (kv - 1))).2) o2)
      (some ((o, ()), ()))
      ((chk (ile 0 0 && ile 0 kv && ile kv (tLen o))
        (chk (room (α := (Int × Int)) (β := (Int × Int)) [] (tCut o 0 kv))
        (chk (room (tApp [] (tCut o 0 kv)) [(o1, o2)])
        (chk (ile 0 kv && ile kv (tLen o) && ile (tLen o) (tLen o))
        (chk (room (tApp (tApp [] (tCut o 0 kv)) [(o1, o2)]) (tCut o kv (tLen o)))
        (some (((tApp (tApp (tApp [] (tCut o 0 kv)) [(o1, o2)]) (tCut o kv (tLen o))), ()), ())))))))))))
    ((chk (ile 0 0 && ile 0 kv && ile kv (tLen o))
      (chk (room (α := (Int × Int)) (β := (Int × Int)) [] (tCut o 0 kv))
      (chk (room (tApp [] (tCut o 0 kv)) [(o1, o2)])
      (chk (ile 0 kv && ile kv (tLen o) && ile (tLen o) (tLen o))
      (chk (room (tApp (tApp [] (tCut o 0 kv)) [(o1, o2)]) (tCut o kv (tLen o)))
      (some (((tApp (tApp (tApp [] (tCut o 0 kv)) [(o1, o2)]) (tCut o kv (tLen o))), ()), ())))))))))) (by omega) (Nat.le_refl _) (fun j hj h => by omega)
  rw [tLen_n, k4]
  have hcut0 : tCut o 0 (k : Int) = o.take k := by have := tCut_n o 0 k; simpa using this
  have hcutk : tCut o (k : Int) (tLen o) = o.drop k := by rw [tLen_n, tCut_n, List.take_of_length_le (Nat.le_refl _)]
  have h1 : (ile 0 0 && ile 0 (k : Int) && ile (k : Int) (tLen o)) = true := by rw [ile_t (Int.le_refl _), ile_t (by omega), tLen_n, ile_t (by omega)]; rfl
  have h2 : (ile 0 (k : Int) && ile (k : Int) (tLen o) && ile (tLen o) (tLen o)) = true := by rw [ile_t (by omega), tLen_n, ile_t (by omega), ile_t (Int.le_refl _)]; rfl
  have r1 : room (α := Int × Int) (β := Int × Int) [] (o.take k) = true := room_ok (by rw [List.length_take, List.length_nil]; omega)
  have r2 : room (tApp [] (o.take k)) [(e.1, e.2)] = true := room_ok (by simp only [tApp, List.nil_append, List.length_take, List.length_singleton]; omega)
  have r3 : room (tApp (tApp [] (o.take k)) [(e.1, e.2)]) (o.drop k) = true := room_ok (by simp only [tApp, List.nil_append, List.length_append, List.length_take, List.length_drop, List.length_singleton]; omega)
  have ee : tApp (tApp (tApp [] (o.take k)) [(e.1, e.2)]) (o.drop k) = o.take k ++ e :: o.drop k := by simp [tApp]
  have hput : (∀ j (h : j < o.length), j < k → o[j] ≠ e) → pairsUp (o.take k ++ e :: o.drop k) ∧ (∀ f, f ∈ o.take k ++ e :: o.drop k ↔ f ∈ o ∨ f = e) ∧ (o.take k ++ e :: o.drop k).length ≤ o.length + 1 := by
    intro hne
    refine ⟨List.pairwise_append.2 ⟨ho.sublist (List.take_sublist ..), List.pairwise_cons.2 ⟨fun y hy => ?_, ho.sublist (List.drop_sublist ..)⟩, fun a ha b hb => ?_⟩, fun s => ?_, by simp; omega⟩
    · obtain ⟨j, hj, rfl⟩ := List.getElem_of_mem hy
      rw [List.getElem_drop]
      exact k3 _ (by simp at hj; omega) (by omega)
    · obtain ⟨j, hj, rfl⟩ := List.getElem_of_mem ha
      have hj' : j < k ∧ j < o.length := by simp at hj; omega
      rw [List.getElem_take]
      have hax : edgeLt o[j] e := edgeLt_tot (k2 j hj'.2 hj'.1) (fun q => hne j hj'.2 hj'.1 q.symm)
      rcases List.mem_cons.1 hb with rfl | hb
      · exact hax
      · obtain ⟨l, hl', rfl⟩ := List.getElem_of_mem hb
        rw [List.getElem_drop]
        exact List.pairwise_iff_getElem.1 ho _ _ hj'.2 (by simp at hl'; omega) (by omega)
    · rw [List.mem_append, List.mem_cons]
      have := List.take_append_drop k o
      constructor
      · rintro (h | h | h)
        · exact .inl (List.mem_of_mem_take h)
        · exact .inr h
        · exact .inl (List.mem_of_mem_drop h)
      · rintro (h | h)
        · rw [← this, List.mem_append] at h
          rcases h with h | h
          · exact .inl h
          · exact .inr (.inr h)
        · exact .inr (.inl h)
  by_cases hk0 : k = 0
  · subst hk0
    have e0 : ilt 0 ((0 : Nat) : Int) = false := rfl
    rw [e0, br_f, h1, chk_t, hcut0, r1, chk_t, r2, chk_t, h2, chk_t, hcutk, r3, chk_t, ee]
    exact ⟨_, rfl, hput fun j h h0 => absurd h0 (Nat.not_lt_zero j)⟩
  · have hk' : k - 1 < o.length := by omega
    rw [ilt_t (by omega), br_t, wrap_pred (by omega) (by omega), inb_n hk', chk_t, rdP_n hk']
    by_cases he : o[k - 1] = e
    · rw [he, ieq_t rfl, ieq_t rfl]
      simp only [Bool.and_self, br_t]
      refine ⟨o, rfl, ho, fun f => ⟨.inl, ?_⟩, by omega⟩
      rintro (h | h)
      · exact h
      · rw [h, ← he]; exact List.getElem_mem hk'
    · have hb : (ieq o[k - 1].1 e.1 && ieq o[k - 1].2 e.2) = false := by
        by_cases q1 : o[k - 1].1 = e.1
        · by_cases q2 : o[k - 1].2 = e.2
          · exact absurd (Prod.ext q1 q2) he
          · rw [ieq_f q2, Bool.and_false]
        · rw [ieq_f q1]; rfl
      rw [hb, br_f, h1, chk_t, hcut0, r1, chk_t, r2, chk_t, h2, chk_t, hcutk, r3, chk_t, ee]
      refine ⟨_, rfl, hput fun j h hj q => ?_⟩
      by_cases hj1 : j = k - 1
      · subst hj1; exact he q
      · have := List.pairwise_iff_getElem.1 ho j (k - 1) h hk' (by omega)
        rw [q] at this
        exact k2 (k - 1) hk' (by omega) this
theorem mem_stepsL {p : List Int → List Int → Bool} {xs : List (List Int)} {e : Int × Int} : e ∈ stepsL p xs ↔ ∃ i j : Nat, e = ((i : Int), (j : Int)) ∧ i < j ∧ j < xs.length ∧ p (rdL xs (i : Int)) (rdL xs (j : Int)) = true := by
  unfold stepsL rowSteps
  rw [List.mem_flatMap]
  constructor
  · rintro ⟨i, hi, he⟩
    obtain ⟨j, hj, rfl⟩ := List.mem_map.1 he
    obtain ⟨h1, h2⟩ := List.mem_filter.1 hj
    have := List.mem_range'_1.1 h1
    exact ⟨i, j, rfl, by omega, by omega, h2⟩
  · rintro ⟨i, j, rfl, h1, h2, h3⟩
    exact ⟨i, List.mem_range'_1.2 (by omega), List.mem_map.2 ⟨j, List.mem_filter.2 ⟨List.mem_range'_1.2 (by omega), h3⟩, rfl⟩⟩
/-! ### A node added or taken away -/
theorem rdB_setN {o : List Bool} {i j : Nat} (hi : i < o.length) (v : Bool) : rdB (tSet o (i : Int) v) (j : Int) = if j = i then v else rdB o (j : Int) := by
  unfold rdB tSet
  simp only [Int.toNat_natCast, List.getD_eq_getElem?_getD, List.getElem?_set]
  by_cases h : i = j
  · subst h
    rw [if_pos rfl, if_pos hi, if_pos rfl]
    rfl
  · rw [if_neg h, if_neg (fun e => h e.symm)]
theorem Wk_in {L : List (List Int)} {m : Nat} {x y : Int} (hl : okLists L m) (hx : InN m x) (h : Wk L x y) : InN m y := by
  induction h with
  | base => exact hx
  | step _ hz ih => exact (okL_row hl ih).2 _ hz
theorem Wk_trans {L : List (List Int)} {x y z : Int} (h1 : Wk L x y) (h2 : Wk L y z) : Wk L x z := by
  induction h2 with
  | base => exact h1
  | step _ h ih => exact .step ih h
noncomputable def cntN (L : List (List Int)) (i : Nat) : Nat := ((List.range i).filter fun k => decide (∀ j : Nat, j < k → ¬ Wk L (j : Int) (k : Int))).length
theorem cntN_le (L : List (List Int)) (i : Nat) : cntN L i ≤ i := by
  unfold cntN
  refine Nat.le_trans (List.length_filter_le ..) ?_
  simp
theorem cntN_first {L : List (List Int)} {i : Nat} (h : ¬ ∃ j : Nat, j < i ∧ Wk L (j : Int) (i : Int)) : cntN L (i + 1) = cntN L i + 1 := by
  unfold cntN
  rw [List.range_succ, List.filter_append, List.length_append, List.filter_cons_of_pos (by simpa using fun j hj hw => h ⟨j, hj, hw⟩)]
  rfl
theorem cntN_seen {L : List (List Int)} {i : Nat} (h : ∃ j : Nat, j < i ∧ Wk L (j : Int) (i : Int)) : cntN L (i + 1) = cntN L i := by
  unfold cntN
  obtain ⟨j, h1, h2⟩ := h
  rw [List.range_succ, List.filter_append, List.length_append, List.filter_cons_of_neg (by simpa using ⟨j, h1, h2⟩)]
  rfl
def seenP (L : List (List Int)) (i : Nat) (y : Int) : Prop := ∃ j : Nat, j < i ∧ Wk L (j : Int) y
theorem seen_old {L : List (List Int)} {i : Nat} {y : Int} (h : seenP L i (i : Int)) : seenP L (i + 1) y ↔ seenP L i y := by
  constructor
  · rintro ⟨j, h1, h2⟩
    by_cases e : j = i
    · subst e
      obtain ⟨k, h3, h4⟩ := h
      exact ⟨k, h3, Wk_trans h4 h2⟩
    · exact ⟨j, by omega, h2⟩
  · rintro ⟨j, h1, h2⟩
    exact ⟨j, by omega, h2⟩
theorem seen_new {L : List (List Int)} {i : Nat} {y : Int} : seenP L (i + 1) y ↔ seenP L i y ∨ Wk L (i : Int) y := by
  constructor
  · rintro ⟨j, h1, h2⟩
    by_cases e : j = i
    · subst e; exact .inr h2
    · exact .inl ⟨j, by omega, h2⟩
  · rintro (⟨j, h1, h2⟩ | h)
    · exact ⟨j, by omega, h2⟩
    · exact ⟨i, by omega, h⟩
def PI (L : List (List Int)) (m : Nat) (s0 : List Bool) (x : Int) (o : List Bool) (q : List Int) : Prop :=
  o.length = m ∧ q.Nodup ∧ (∀ z ∈ q, InN m z ∧ Wk L x z) ∧ ∀ y : Nat, y < m → (rdB o (y : Int) = true ↔ rdB s0 (y : Int) = true ∨ (y : Int) ∈ q)
theorem PI_len {L : List (List Int)} {m : Nat} {s0 : List Bool} {x : Int} {o : List Bool} {q : List Int} (h : PI L m s0 x o q) : q.length ≤ m := inM_len ⟨h.2.1, fun z hz => (h.2.2.1 z hz).1⟩
theorem partIn {R : Type} {N m : Nat} {L : List (List Int)} {s0 : List Bool} {x : Int} (hl : okLists L m) (hm : m ≤ 1000) {k0 : List (List Int) → Int → Int → Int → List (List Int) → List Bool → List Int → Option R} {x8 x9 x10 : Int} {o5 : List (List Int)} {u : Int} (hu : InN m u) (hux : Wk L x u) :
    ∀ (d n K : Nat) (o6 : List Bool) (q : List Int), n + d = (rdL L u).length → d < K → PI L m s0 x o6 q → ∃ o6' q', impl_parts_l0_0_0 N k0 K L x8 x9 x10 (rdL L u) (((rdL L u).length : Nat) : Int) (n : Int) o5 o6 q = k0 L x8 x9 x10 o5 o6' q' ∧ PI L m s0 x o6' q' ∧ (∃ t, q' = q ++ t) ∧ ∀ i (h : i < (rdL L u).length), n ≤ i → rdB o6' ((rdL L u)[i]) = true := by
  obtain ⟨hr1, hr2⟩ := okL_row hl hu
  intro d
  induction d with
  | zero =>
    intro n K o6 q hd hK hp
    obtain ⟨K, rfl⟩ := succ_of hK
    refine ⟨o6, q, ?_, hp, ⟨[], by simp⟩, fun i h1 h2 => by omega⟩
    simp only [impl_parts_l0_0_0, ilt_nf (show ¬ n < (rdL L u).length by omega), br_f]
  | succ d ih =>
    intro n K o6 q hd hK hp
    obtain ⟨K, rfl⟩ := succ_of hK
    have hn : n < (rdL L u).length := by omega
    have hz := hr2 _ (List.getElem_mem hn)
    obtain ⟨z, hz1, hz2⟩ := nat_of hz
    have hpl := PI_len hp
    simp only [impl_parts_l0_0_0, ilt_n hn, br_t, inb_n hn, chk_t, rdI_n hn]
    rw [hz2, inb_n (show z < o6.length by have := hp.1; omega), chk_t]
    by_cases h : rdB o6 (z : Int) = true
    · rw [h]
      simp only [Bool.not_true, br_f]
      rw [wrap_succ (by omega)]
      obtain ⟨a, b, h1, h2, h3, h4⟩ := ih (n + 1) K o6 q (by omega) (by omega) hp
      refine ⟨a, b, h1, h2, h3, fun i hi hni => ?_⟩
      by_cases e : i = n
      · subst e
        rw [hz2]
        refine (h2.2.2.2 z hz1).2 (((hp.2.2.2 z hz1).1 h).imp_right fun hq => ?_)
        obtain ⟨t, rfl⟩ := h3
        exact List.mem_append_left _ hq
      · exact h4 i hi (by omega)
    · have hnq : ¬ ((rdB s0 (z : Int) = true) ∨ (z : Int) ∈ q) := fun q => h ((hp.2.2.2 z hz1).2 q)
      rw [Bool.eq_false_iff.2 h]
      simp only [Bool.not_false, br_t, chk_t]
      rw [room_ok (by simp; omega), chk_t, wrap_succ (by omega), tApp_d]
      have hp' : PI L m s0 x (tSet o6 (z : Int) true) (q ++ [(z : Int)]) := by
        refine ⟨by simp [tSet, hp.1], ?_, fun y hy => ?_, fun y hy => ?_⟩
        · rw [List.nodup_append]
          exact ⟨hp.2.1, (by simp), fun a ha b hb e => by
            rw [List.mem_singleton] at hb
            subst hb e
            exact hnq (.inr ha)⟩
        · rcases List.mem_append.1 hy with hy | hy
          · exact hp.2.2.1 y hy
          · rw [List.mem_singleton] at hy
            subst hy
            refine ⟨in_nat hz1, .step hux ?_⟩
            rw [← hz2]
            exact List.getElem_mem hn
        · rw [rdB_setN (by have := hp.1; omega), List.mem_append, List.mem_singleton]
          by_cases e : y = z
          · subst e; simp
          · rw [if_neg e, hp.2.2.2 y hy]
            exact ⟨fun q => q.imp_right .inl, fun q => q.imp_right fun q => q.resolve_right (by omega)⟩
      obtain ⟨a, b, h1, h2, h3, h4⟩ := ih (n + 1) K _ _ (by omega) (by omega) hp'
      obtain ⟨t, rfl⟩ := h3
      refine ⟨a, _, h1, h2, ⟨(z : Int) :: t, by simp⟩, fun i hi hni => ?_⟩
      by_cases e : i = n
      · subst e
        rw [hz2]
        exact (h2.2.2.2 z hz1).2 (.inr (by simp))
      · exact h4 i hi (by omega)
theorem partLoop {R : Type} {N m : Nat} {L : List (List Int)} {s0 : List Bool} {x : Int} (hl : okLists L m) (hm : m ≤ 1000) {k0 : List (List Int) → Int → Int → List (List Int) → List Bool → List Int → Option R} {x5 x6 : Int} {o2 : List (List Int)} (hN : 1048577 ≤ N) :
    ∀ (d n K : Nat) (o3 : List Bool) (q : List Int), n + d = m → d < K → n ≤ q.length → PI L m s0 x o3 q → (∀ i, i < n → ∀ z ∈ rdL L (rdI q (i : Int)), rdB o3 z = true) → ∃ o3' q', impl_parts_l0_0 N k0 K L (n : Int) x5 x6 o2 o3 q = k0 L x5 x6 o2 o3' q' ∧ PI L m s0 x o3' q' ∧ (∃ t, q' = q ++ t) ∧ ∀ u ∈ q', ∀ z ∈ rdL L u, rdB o3' z = true := by
  intro d
  have done : ∀ (n : Nat) (o3 : List Bool) (q : List Int), q.length ≤ n → (∀ i, i < n → ∀ z ∈ rdL L (rdI q (i : Int)), rdB o3 z = true) → ∀ u ∈ q, ∀ z ∈ rdL L u, rdB o3 z = true := by
    intro n o3 q hq hc u hu
    obtain ⟨i, hi, rfl⟩ := List.getElem_of_mem hu
    have := hc i (by omega)
    rwa [rdI_n hi] at this
  induction d with
  | zero =>
    intro n K o3 q hd hK hn hp hc
    obtain ⟨K, rfl⟩ := succ_of hK
    have hpl := PI_len hp
    refine ⟨o3, q, ?_, hp, ⟨[], by simp⟩, done n o3 q (by omega) hc⟩
    simp only [impl_parts_l0_0, ilt_lenf (show ¬ n < q.length by omega), br_f]
  | succ d ih =>
    intro n K o3 q hd hK hn hp hc
    obtain ⟨K, rfl⟩ := succ_of hK
    have hpl := PI_len hp
    by_cases hnq : n < q.length
    · simp only [impl_parts_l0_0, ilt_len hnq, br_t, inb_n hnq, chk_t, rdI_n hnq]
      obtain ⟨hu, hux⟩ := hp.2.2.1 _ (List.getElem_mem hnq)
      obtain ⟨u, hu1, hu2⟩ := nat_of hu
      have hr := okL_row hl hu
      rw [hu2] at hu hux hr ⊢
      rw [inb_n (show u < L.length by have := hl.1; omega), chk_t, tLen_n]
      obtain ⟨a, b, h1, h2, ⟨t, rfl⟩, h4⟩ := partIn (N := N) hl hm (k0 := fun x7 x8 x9 x10 o5 o6 o7 => impl_parts_l0_0 N k0 K x7 (IntKind.i64.wrap (x8 + 1)) x9 x10 o5 o6 o7) (x8 := (n : Int)) (x9 := x5) (x10 := x6) (o5 := o2) hu hux (rdL L (u : Int)).length 0 N o3 q (by omega) (by have := hr.1; omega) hp
      simp only [Int.natCast_zero] at h1
      rw [h1, wrap_succ (by omega)]
      have mono : ∀ z, InN m z → rdB o3 z = true → rdB a z = true := fun z hz h => by
        obtain ⟨y, hy, rfl⟩ := nat_of hz
        exact (h2.2.2.2 y hy).2 (((hp.2.2.2 y hy).1 h).imp_right (List.mem_append_left _))
      obtain ⟨a', b', g1, g2, ⟨t', g3⟩, g4⟩ := ih (n + 1) K a (q ++ t) (by omega) (by omega) (by rw [List.length_append]; omega) h2 fun i hi z hz => by
        have hiq : i < q.length := by omega
        have e1 : rdI (q ++ t) (i : Int) = q[i] := by rw [rdI_n (by rw [List.length_append]; omega), List.getElem_append_left hiq]
        rw [e1] at hz
        by_cases e : i = n
        · subst e
          rw [hu2] at hz
          obtain ⟨j, hj, rfl⟩ := List.getElem_of_mem hz
          exact h4 j hj (Nat.zero_le _)
        · exact mono z ((okL_row hl (hp.2.2.1 _ (List.getElem_mem hiq)).1).2 _ hz) (hc i (by omega) z (by rw [rdI_n hiq]; exact hz))
      exact ⟨a', b', g1, g2, ⟨t ++ t', by rw [g3, List.append_assoc]⟩, g4⟩
    · refine ⟨o3, q, ?_, hp, ⟨[], by simp⟩, done n o3 q (by omega) hc⟩
      simp only [impl_parts_l0_0, ilt_lenf hnq, br_f]
theorem implParts {N m : Nat} {L : List (List Int)} (hl : okLists L m) (hm : m ≤ 1000) (hN : 1048577 ≤ N) :
    ∀ (d i K : Nat) (o : List (List Int)) (o2 : List Bool), i + d = m → d < K → o.length = cntN L i → o2.length = m → (∀ y : Nat, y < m → (rdB o2 (y : Int) = true ↔ seenP L i (y : Int))) → ∃ o' : List (List Int), impl_parts_l0 N (fun o => some ((o, ()), ())) K L (m : Int) (i : Int) o o2 = some ((o', ()), ()) ∧ o'.length = cntN L m := by
  intro d
  induction d with
  | zero =>
    intro i K o o2 hd hK ho h2 hs
    obtain ⟨K, rfl⟩ := succ_of hK
    have e : i = m := by omega
    subst e
    refine ⟨o, ?_, ho⟩
    simp only [impl_parts_l0, ilt_nf (Nat.lt_irrefl i), br_f]
  | succ d ih =>
    intro i K o o2 hd hK ho h2 hs
    obtain ⟨K, rfl⟩ := succ_of hK
    have hi : i < m := by omega
    simp only [impl_parts_l0, ilt_n hi, br_t, inb_n (show i < o2.length by omega), chk_t]
    by_cases h : rdB o2 (i : Int) = true
    · rw [h, br_t, wrap_succ (by omega)]
      have hse := (hs i hi).1 h
      exact ih (i + 1) K o o2 (by omega) (by omega) (by rw [cntN_seen hse, ho]) h2 fun y hy => (hs y hy).trans (seen_old hse).symm
    · have hse : ¬ seenP L i (i : Int) := fun q => h ((hs i hi).2 q)
      rw [Bool.eq_false_iff.2 h, br_f]
      have hp : PI L m o2 (i : Int) (tSet o2 (i : Int) true) [(i : Int)] := by
        refine ⟨by simp [tSet, h2], (by simp), fun z hz => ?_, fun y hy => ?_⟩
        · rw [List.mem_singleton] at hz
          subst hz
          exact ⟨in_nat hi, .base⟩
        · rw [rdB_setN (by omega), List.mem_singleton]
          by_cases e : y = i
          · subst e; simp
          · rw [if_neg e]
            exact ⟨.inl, fun q => q.resolve_right (by omega)⟩
      obtain ⟨a, q, g1, g2, ⟨t, g3⟩, g4⟩ := partLoop (N := N) hl hm (k0 := fun x3 x4 x5 o2 o3 o4 => ((slices_Sort_LI_int N o4).bind fun r =>
          (chk (room o2 [r.2.1])
            (impl_parts_l0 N (fun o => some ((o, ()), ())) K x3 x4 (IntKind.i64.wrap (x5 + 1)) (tApp o2 [r.2.1]) o3)))) (x5 := (m : Int)) (x6 := (i : Int)) (o2 := o) hN m 0 N _ _ (by omega) (by omega) (Nat.zero_le _) hp (fun j hj => absurd hj (Nat.not_lt_zero j))
      simp only [Int.natCast_zero] at g1
      have hc := cntN_le L i
      have hq := PI_len g2
      rw [g1, Sort_any (by omega), bind_some']
      simp only []
      rw [room_ok (by simp; omega), chk_t, wrap_succ (by omega)]
      refine ih (i + 1) K _ a (by omega) (by omega) (by rw [tApp_d, List.length_append, List.length_singleton, cntN_first hse, ho]) g2.1 fun y hy => ?_
      rw [g2.2.2.2 y hy, seen_new, hs y hy]
      constructor
      · exact fun q => q.imp_right fun q => (g2.2.2.1 _ q).2
      · rintro (q | q')
        · exact .inl q
        · have key : ∀ z, Wk L (i : Int) z → seenP L i z ∨ z ∈ q := by
            intro z hz
            induction hz with
            | base => exact .inr (by rw [g3]; simp)
            | step h1 h5 ih =>
              have hy := Wk_in hl (in_nat hi) h1
              rcases ih with ⟨j, j1, j2⟩ | h6
              · exact .inl ⟨j, j1, .step j2 h5⟩
              · obtain ⟨w, hw, e⟩ := nat_of ((okL_row hl hy).2 _ h5)
                have h7 := g4 _ h6 _ h5
                rw [e] at h7 ⊢
                exact ((g2.2.2.2 w hw).1 h7).imp_left (hs w hw).1
          exact key _ q'
theorem l1Least_eq {N : Nat} {x y : Int} : spec_l1Least N x y = some (((if x < y then x else y), ()), ()) := by
  unfold spec_l1Least
  by_cases h : x < y
  · rw [ilt_t h, br_t, if_pos h]
  · rw [ilt_f h, br_f, if_neg h]
def CurOk (code : List Int) (k : Nat) (c : List Int × (Int × Int)) : Prop := c.1 = code ∧ 0 ≤ c.2.1 ∧ c.2.1 ≤ (k : Int)
def codeOk (code : List Int) : Prop := code.length ≤ 1048576 ∧ ∀ x ∈ code, 0 ≤ x ∧ x ≤ 255
theorem cur_mono {code : List Int} {k l : Nat} {c : List Int × (Int × Int)} (h : CurOk code k c) (hl : k ≤ l) : CurOk code l c := ⟨h.1, h.2.1, by have := h.2.2; omega⟩
theorem u8_and (x : Int) : 0 ≤ IntKind.i64.wrap (bitop .and .u64 x 255) ∧ IntKind.i64.wrap (bitop .and .u64 x 255) ≤ 255 := by
  have h : ∃ n : Nat, bitop .and .u64 x 255 = (n : Int) ∧ n ≤ 255 := by
    unfold bitop
    simp only []
    have e : (BitVec.ofInt IntKind.u64.bits x &&& BitVec.ofInt IntKind.u64.bits 255).toNat = (BitVec.ofInt IntKind.u64.bits x).toNat &&& 255 := by
      rw [BitVec.toNat_and]; rfl
    have hle : (BitVec.ofInt IntKind.u64.bits x).toNat &&& 255 ≤ 255 := Nat.and_le_right
    refine ⟨(BitVec.ofInt IntKind.u64.bits x).toNat &&& 255, ?_, hle⟩
    rw [e]
    unfold IntKind.wrap
    simp only [IntKind.signed, IntKind.bits]
    have : (((BitVec.ofInt 64 x).toNat &&& 255 : Nat) : Int) % 2 ^ 64 = (((BitVec.ofInt 64 x).toNat &&& 255 : Nat) : Int) := by
      refine Int.emod_eq_of_lt (by omega) ?_
      have : (BitVec.ofInt 64 x).toNat &&& 255 ≤ 255 := Nat.and_le_right
      omega
    simpa using this
  obtain ⟨n, h1, h2⟩ := h
  rw [h1, wrap_ok (by omega) (by omega)]
  omega
theorem next_ok {N : Nat} {code : List Int} {k : Nat} {c : List Int × (Int × Int)} (hco : codeOk code) (h : CurOk code k c) (hk : k ≤ 1000000000) : ∃ x c', spec_l1Cur_next N c = some ((x, ()), (c', ())) ∧ CurOk code (k + 1) c' ∧ 0 ≤ x ∧ x ≤ 255 := by
  obtain ⟨cd, at', seed⟩ := c
  obtain ⟨h1, h2, h3⟩ := h
  simp only at h1 h2 h3
  subst h1
  have hw : IntKind.i64.wrap (at' + 1) = at' + 1 := wrap_ok (by omega) (by omega)
  unfold spec_l1Cur_next
  simp only [hw]
  by_cases hlt : at' < (cd.length : Int)
  · obtain ⟨n, rfl⟩ := Int.eq_ofNat_of_zero_le h2
    have hn : n < cd.length := by omega
    have hb := hco.2 _ (List.getElem_mem hn)
    have hrd : rd U8 cd (n : Int) = cd[n] := by
      unfold rd
      rw [Int.toNat_natCast, List.getD_eq_getElem?_getD, List.getElem?_eq_getElem hn]
      rfl
    rw [ilt_len hn, br_t, inb_n hn, chk_t, hrd]
    by_cases hle : (n : Int) + 1 ≤ (cd.length : Int)
    · rw [tLen_n, ile_t hle, br_t]
      refine ⟨_, _, rfl, ⟨rfl, by show (0 : Int) ≤ (n : Int) + 1; omega, by show (n : Int) + 1 ≤ ((k + 1 : Nat) : Int); omega⟩, ?_⟩
      rw [wrap_ok (by omega) (by omega)]
      exact hb
    · omega
  · rw [tLen_n, ilt_f hlt, br_f]
    by_cases hle : at' + 1 ≤ (cd.length : Int)
    · rw [ile_t hle, br_t]
      exact ⟨_, _, rfl, ⟨rfl, by show (0 : Int) ≤ at' + 1; omega, by show at' + 1 ≤ ((k + 1 : Nat) : Int); omega⟩, by omega, by omega⟩
    · rw [ile_f hle, br_f]
      exact ⟨_, _, rfl, ⟨rfl, by show (0 : Int) ≤ at' + 1; omega, by show at' + 1 ≤ ((k + 1 : Nat) : Int); omega⟩, u8_and _⟩
theorem tmod_in {x n : Int} (hx : 0 ≤ x) (hn : 1 ≤ n) : 0 ≤ x.tmod n ∧ x.tmod n < n ∧ x.tmod n ≤ x := by
  obtain ⟨a, rfl⟩ := Int.eq_ofNat_of_zero_le hx
  obtain ⟨b, rfl⟩ := Int.eq_ofNat_of_zero_le (show 0 ≤ n by omega)
  have e : ((a : Int)).tmod (b : Int) = ((a % b : Nat) : Int) := rfl
  rw [e]
  have := Nat.mod_lt a (show 0 < b by omega)
  have := Nat.mod_le a b
  omega
theorem pick_ok {N : Nat} {code : List Int} {k : Nat} {c : List Int × (Int × Int)} (hco : codeOk code) (h : CurOk code k c) (hk : k ≤ 1000000) (n : Int) : ∃ x c', spec_l1Cur_pick N c n = some ((x, ()), (c', ())) ∧ CurOk code (k + 2) c' ∧ 0 ≤ x ∧ x ≤ 65535 ∧ (1 ≤ n → x < n) := by
  unfold spec_l1Cur_pick
  by_cases h1 : n ≤ 1
  · rw [ile_t h1, br_t]
    exact ⟨_, _, rfl, cur_mono h (by omega), by omega, by omega, fun h => by omega⟩
  · rw [ile_f h1, br_f]
    obtain ⟨x, c', e1, e2, e3, e4⟩ := next_ok (N := N) hco h (by omega)
    rw [e1, bind_some']
    simp only []
    by_cases h2 : 200 < n
    · rw [ilt_t h2, br_t]
      obtain ⟨y, c2, f1, f2, f3, f4⟩ := next_ok (N := N) hco e2 (by omega)
      rw [f1, bind_some', ine_t (show n ≠ 0 by omega), chk_t]
      simp only []
      rw [wrap_ok (n := x * 256) (by omega) (by omega), wrap_ok (by omega) (by omega)]
      have := tmod_in (x := x * 256 + y) (n := n) (by omega) (by omega)
      exact ⟨_, _, rfl, f2, by omega, by omega, fun _ => by omega⟩
    · rw [ilt_f h2, br_f, ine_t (show n ≠ 0 by omega), chk_t]
      have := tmod_in (x := x) (n := n) (by omega) (by omega)
      exact ⟨_, _, rfl, cur_mono e2 (by omega), by omega, by omega, fun _ => by omega⟩
theorem among_ok {N : Nat} {code : List Int} {k : Nat} {c : List Int × (Int × Int)} (hco : codeOk code) (h : CurOk code k c) (hk : k ≤ 1000000) {l : List Int} (hl : l ≠ []) : ∃ x c', spec_l1Cur_among N c l = some ((x, ()), (c', ())) ∧ CurOk code (k + 2) c' ∧ x ∈ l := by
  unfold spec_l1Cur_among
  have hp : 0 < l.length := List.length_pos_iff.2 hl
  obtain ⟨x, c', e1, e2, e3, e4, e5⟩ := pick_ok (N := N) hco h hk (tLen l)
  rw [e1, bind_some']
  simp only []
  rw [tLen_n] at e5
  obtain ⟨n, rfl⟩ := Int.eq_ofNat_of_zero_le e3
  have hn : n < l.length := by have := e5 (by omega); omega
  rw [inb_n hn, chk_t, rdI_n hn]
  exact ⟨_, _, rfl, e2, List.getElem_mem hn⟩
theorem one_ok {N : Nat} {code : List Int} {k : Nat} {c : List Int × (Int × Int)} (hco : codeOk code) (h : CurOk code k c) (hk : k ≤ 1000000) (n : Int) : ∃ b c', spec_l1Cur_one N c n = some ((b, ()), (c', ())) ∧ CurOk code (k + 2) c' := by
  unfold spec_l1Cur_one
  obtain ⟨x, c', e1, e2, _⟩ := pick_ok (N := N) hco h hk n
  rw [e1, bind_some']
  exact ⟨_, _, rfl, e2⟩
theorem sg_in {R : Type} {N : Nat} {code : List Int} (hco : codeOk code) (hN : 1048577 ≤ N) {k0 : Int → Int → Bool → Int → List Int × (Int × Int) → Int → Int → List (Int × Int) → Option R} {x4 x5 x7 o5 o6 : Int} {x6 : Bool} :
    ∀ (d : Nat) (x8 : Int) (K k : Nat) (c : List Int × (Int × Int)) (o : List (Int × Int)), x8 + (d : Int) = max x4 x8 → d < K → 0 ≤ x8 → x8 ≤ 100 → x4 ≤ 100 → CurOk code k c → k + 2 * d ≤ 1000000 → pairsUp o → o.length + d ≤ 1048576 →
      ∃ c' o', spec_l1Cur_someGraph_l0_0 N k0 K x4 x5 x6 x7 x8 c o5 o6 o = k0 x4 x5 x6 x7 c' o5 o6 o' ∧ CurOk code (k + 2 * d) c' ∧ pairsUp o' ∧ o'.length ≤ o.length + d := by
  intro d
  induction d with
  | zero =>
    intro x8 K k c o hd hK h0 h1 h4 hc hk ho hl
    obtain ⟨K, rfl⟩ := succ_of hK
    refine ⟨c, o, ?_, hc, ho, by omega⟩
    simp only [spec_l1Cur_someGraph_l0_0, ilt_f (show ¬ x8 < x4 by omega), br_f]
  | succ d ih =>
    intro x8 K k c o hd hK h0 h1 h4 hc hk ho hl
    obtain ⟨K, rfl⟩ := succ_of hK
    have hlt : x8 < x4 := by omega
    have hw : IntKind.i64.wrap (x8 + 1) = x8 + 1 := wrap_ok (by omega) (by omega)
    simp only [spec_l1Cur_someGraph_l0_0, ilt_t hlt, br_t, hw]
    obtain ⟨x, c1, e1, e2, _⟩ := pick_ok (N := N) hco hc (by omega) x5
    rw [e1, bind_some']
    simp only []
    by_cases hx : x = 0
    · rw [ieq_t hx, br_t]
      obtain ⟨o1, p1, p2, p3, p4⟩ := putPair_eq (N := N) (e := (x7, x8)) ho (by omega) hN
      rw [p1, bind_some']
      simp only []
      obtain ⟨c', o', q1, q2, q3, q4⟩ := ih (x8 + 1) K (k + 2) c1 o1 (by omega) (by omega) (by omega) (by omega) h4 e2 (by omega) p2 (by omega)
      exact ⟨c', o', q1, cur_mono q2 (by omega), q3, by omega⟩
    · rw [ieq_f hx, br_f]
      obtain ⟨c', o', q1, q2, q3, q4⟩ := ih (x8 + 1) K (k + 2) c1 o (by omega) (by omega) (by omega) (by omega) h4 e2 (by omega) ho (by omega)
      exact ⟨c', o', q1, cur_mono q2 (by omega), q3, by omega⟩
theorem sg_out {R : Type} {N : Nat} {code : List Int} (hco : codeOk code) (hN : 1048577 ≤ N) {k0 : List Int × (Int × Int) → Int → Int → List (Int × Int) → Option R} {x x1 o1 o2 : Int} {x2 : Bool} (hx : x ≤ 8) :
    ∀ (d : Nat) (x3 : Int) (K k : Nat) (c : List Int × (Int × Int)) (o : List (Int × Int)), x3 + (d : Int) = max x x3 → d < K → 0 ≤ x3 → x3 ≤ 8 → CurOk code k c → k + 20 * d ≤ 1000000 → pairsUp o → o.length + 10 * d ≤ 1048576 →
      ∃ c' o', spec_l1Cur_someGraph_l0 N k0 K x x1 x2 x3 c o1 o2 o = k0 c' o1 o2 o' ∧ CurOk code (k + 20 * d) c' ∧ pairsUp o' ∧ o'.length ≤ o.length + 10 * d := by
  intro d
  induction d with
  | zero =>
    intro x3 K k c o hd hK h0 h1 hc hk ho hl
    obtain ⟨K, rfl⟩ := succ_of hK
    refine ⟨c, o, ?_, hc, ho, by omega⟩
    simp only [spec_l1Cur_someGraph_l0, ilt_f (show ¬ x3 < x by omega), br_f]
  | succ d ih =>
    intro x3 K k c o hd hK h0 h1 hc hk ho hl
    obtain ⟨K, rfl⟩ := succ_of hK
    have hlt : x3 < x := by omega
    have hw : IntKind.i64.wrap (x3 + 1) = x3 + 1 := wrap_ok (by omega) (by omega)
    simp only [spec_l1Cur_someGraph_l0, ilt_t hlt, br_t, hw]
    obtain ⟨e, he⟩ : ∃ e : Nat, x3 + 1 + (e : Int) = max x (x3 + 1) := ⟨(max x (x3 + 1) - (x3 + 1)).toNat, by omega⟩
    have he8 : e ≤ 8 := by omega
    obtain ⟨c1, p1, q1, q2, q3, q4⟩ := sg_in (R := R) (N := N) hco hN (k0 := fun x4 x5 x6 x7 o4 o5 o6 o7 => (br (ilt 0 x7)
        ((br (!x6)
          (((spec_l1Cur_pick N (o4.1, (o4.2.1, o4.2.2)) x7).bind fun r6 =>
            ((spec_l2PutPair N o7 (r6.1.1, x7)).bind fun r7 =>
              spec_l1Cur_someGraph_l0 N k0 K x4 x5 x6 (IntKind.i64.wrap (x7 + 1)) r6.2.1 o5 o6 r7.1.1)))
          (spec_l1Cur_someGraph_l0 N k0 K x4 x5 x6 (IntKind.i64.wrap (x7 + 1)) o4 o5 o6 o7)))
        (spec_l1Cur_someGraph_l0 N k0 K x4 x5 x6 (IntKind.i64.wrap (x7 + 1)) o4 o5 o6 o7))) (x4 := x) (x5 := x1) (x6 := x2) (x7 := x3) (o5 := o1) (o6 := o2) e (x3 + 1) N k c o he (by omega) (by omega) (by omega) (by omega) hc (by omega) ho (by omega)
    rw [q1]
    simp only [hw]
    have keep : ∃ c' o', spec_l1Cur_someGraph_l0 N k0 K x x1 x2 (x3 + 1) c1 o1 o2 p1 = k0 c' o1 o2 o' ∧ CurOk code (k + 20 * (d + 1)) c' ∧ pairsUp o' ∧ o'.length ≤ o.length + 10 * (d + 1) := by
      obtain ⟨c', o', r1, r2, r3, r4⟩ := ih (x3 + 1) K (k + 2 * e) c1 p1 (by omega) (by omega) (by omega) (by omega) q2 (by omega) q3 (by omega)
      exact ⟨c', o', r1, cur_mono r2 (by omega), r3, by omega⟩
    by_cases hz : 0 < x3
    · rw [ilt_t hz, br_t]
      cases x2 with
      | true => exact keep
      | false =>
        simp only [Bool.not_false, br_t]
        obtain ⟨y, c2, e1, e2, _⟩ := pick_ok (N := N) hco q2 (by omega) x3
        rw [show ((c1.1, (c1.2.1, c1.2.2)) : List Int × (Int × Int)) = c1 from rfl, e1, bind_some']
        simp only []
        obtain ⟨o3, p2, p3, p4, p5⟩ := putPair_eq (N := N) (e := (y, x3)) q3 (by omega) hN
        rw [p2, bind_some']
        simp only []
        obtain ⟨c', o', r1, r2, r3, r4⟩ := ih (x3 + 1) K (k + 2 * e + 2) c2 o3 (by omega) (by omega) (by omega) (by omega) e2 (by omega) p3 (by omega)
        exact ⟨c', o', r1, cur_mono r2 (by omega), r3, by omega⟩
    · rw [ilt_f hz, br_f]
      exact keep
noncomputable def sgTail (N : Nat) (o : List Int × (Int × Int)) (o2 : Int) (o3 : List (Int × Int)) : Option (((Int × List (Int × Int)) × Unit) × ((List Int × (Int × Int)) × Unit)) :=
  ((spec_l1Cur_pick N o 50).bind fun r6 =>
    (br (ieq r6.1.1 0)
      (((spec_l1Cur_among N r6.2.1 [(-1), 8, 9, 0, 4611686018427387904]).bind fun r7 =>
        some (((r7.1.1, o3), ()), (r7.2.1, ()))))
      ((br (ieq r6.1.1 1)
        (((spec_l1Cur_pick N (r6.2.1.1, (r6.2.1.2.1, r6.2.1.2.2)) 4).bind fun r8 =>
          ((spec_l1Cur_pick N r8.2.1 9).bind fun r9 =>
            (chk (room o3 [(r8.1.1, (IntKind.i64.wrap (r9.1.1 - 1)))])
              (some (((o2, (tApp o3 [(r8.1.1, (IntKind.i64.wrap (r9.1.1 - 1)))])), ()), (r9.2.1, ())))))))
        ((br (ieq r6.1.1 2)
          ((br (ilt 0 (tLen o3))
            (((spec_l1Cur_pick N (r6.2.1.1, (r6.2.1.2.1, r6.2.1.2.2)) (tLen o3)).bind fun r10 =>
              (chk (inb o3 r10.1.1)
                (chk (room o3 [(rdP o3 r10.1.1)])
                (some (((o2, (tApp o3 [(rdP o3 r10.1.1)])), ()), (r10.2.1, ())))))))
            (some (((o2, o3), ()), (r6.2.1, ())))))
          (some (((o2, o3), ()), (r6.2.1, ())))))))))
theorem sgTail_ok {N : Nat} {code : List Int} {k : Nat} {c : List Int × (Int × Int)} {o2 : Int} {o3 : List (Int × Int)} (hco : codeOk code) (h : CurOk code k c) (hk : k ≤ 900000) (ho : o3.length ≤ 1000) :
    ∃ g c', sgTail N c o2 o3 = some ((g, ()), (c', ())) ∧ CurOk code (k + 10) c' ∧ g.2.length ≤ o3.length + 1 := by
  unfold sgTail
  obtain ⟨x, c1, e1, e2, _⟩ := pick_ok (N := N) hco h (by omega) 50
  rw [e1, bind_some']
  simp only [show ((c1.1, (c1.2.1, c1.2.2)) : List Int × (Int × Int)) = c1 from rfl]
  by_cases h0 : x = 0
  · rw [ieq_t h0, br_t]
    obtain ⟨y, c2, f1, f2, _⟩ := among_ok (N := N) hco e2 (by omega) (l := [(-1), 8, 9, 0, 4611686018427387904]) (by simp)
    rw [f1, bind_some']
    exact ⟨_, _, rfl, cur_mono f2 (by omega), by simp only []; omega⟩
  · rw [ieq_f h0, br_f]
    by_cases h1 : x = 1
    · rw [ieq_t h1, br_t]
      obtain ⟨y, c2, f1, f2, _⟩ := pick_ok (N := N) hco e2 (by omega) 4
      rw [f1, bind_some']
      simp only []
      obtain ⟨z, c3, g1, g2, _⟩ := pick_ok (N := N) hco f2 (by omega) 9
      rw [g1, bind_some']
      simp only []
      rw [room_ok (by simp; omega), chk_t]
      exact ⟨_, _, rfl, cur_mono g2 (by omega), by simp [tApp]⟩
    · rw [ieq_f h1, br_f]
      by_cases h2 : x = 2
      · rw [ieq_t h2, br_t, tLen_n]
        by_cases h3 : 0 < o3.length
        · rw [ilt_t (by omega), br_t]
          obtain ⟨y, c2, f1, f2, f3, _, f5⟩ := pick_ok (N := N) hco e2 (by omega) (o3.length : Int)
          rw [f1, bind_some']
          simp only []
          obtain ⟨n, rfl⟩ := Int.eq_ofNat_of_zero_le f3
          have hn : n < o3.length := by have := f5 (by omega); omega
          rw [inb_n hn, chk_t, room_ok (by simp; omega), chk_t]
          exact ⟨_, _, rfl, cur_mono f2 (by omega), by simp [tApp]⟩
        · rw [ilt_f (by omega), br_f]
          exact ⟨_, _, rfl, cur_mono e2 (by omega), by simp only []; omega⟩
      · rw [ieq_f h2, br_f]
        exact ⟨_, _, rfl, cur_mono e2 (by omega), by simp only []; omega⟩
theorem sg_fin {N : Nat} {code : List Int} {k : Nat} {c : List Int × (Int × Int)} {n x1 : Int} {x2 : Bool} (hco : codeOk code) (hN : 1048577 ≤ N) (h : CurOk code k c) (hk : k ≤ 100000) (hn : 0 ≤ n ∧ n ≤ 8) :
    ∃ g c', spec_l1Cur_someGraph_l0 N (fun o o1 o2 o3 => sgTail N o o2 o3) N n x1 x2 0 c 0 n [] = some ((g, ()), (c', ())) ∧ CurOk code (k + 180) c' ∧ g.2.length ≤ 100 := by
  obtain ⟨d, hd⟩ : ∃ d : Nat, n = (d : Int) := ⟨n.toNat, by omega⟩
  obtain ⟨c1, o1, e1, e2, e3, e4⟩ := sg_out (N := N) hco hN (k0 := fun o o1 o2 o3 => sgTail N o o2 o3) (x := n) (x1 := x1) (x2 := x2) (o1 := 0) (o2 := n) hn.2 d 0 N k c [] (by omega) (by omega) (by omega) (by omega) h (by omega) List.Pairwise.nil (by simp; omega)
  simp at e4
  obtain ⟨g, c2, f1, f2, f3⟩ := sgTail_ok (N := N) (o2 := n) hco e2 (by omega) (show o1.length ≤ 1000 by omega)
  exact ⟨g, c2, e1.trans f1, cur_mono f2 (by omega), by omega⟩
theorem someGraph_ok {N : Nat} {code : List Int} {k : Nat} {c : List Int × (Int × Int)} {most : Int} (hco : codeOk code) (hN : 1048577 ≤ N) (h : CurOk code k c) (hk : k ≤ 90000) (hm : 6 ≤ most ∧ most ≤ 8) :
    ∃ g c', spec_l1Cur_someGraph N c most = some ((g, ()), (c', ())) ∧ CurOk code (k + 200) c' ∧ g.2.length ≤ 100 := by
  unfold spec_l1Cur_someGraph
  obtain ⟨n, c1, a1, a2, a3⟩ := among_ok (N := N) hco h (by omega) (l := [4, 5, 3, 6, 2, 1, 0]) (by simp)
  rw [a1, bind_some']
  simp only []
  have hn : 0 ≤ n ∧ n ≤ 6 := by simp at a3; omega
  have rest : ∀ (n : Int) (kk : Nat) (c : List Int × (Int × Int)), 0 ≤ n → CurOk code kk c → kk ≤ k + 6 → ∃ g c', ((spec_l1Least N n most).bind fun r3 =>
      ((spec_l1Cur_among N c [1, 3, 4, 6]).bind fun r4 =>
        ((spec_l1Cur_one N r4.2.1 5).bind fun r5 =>
          spec_l1Cur_someGraph_l0 N (fun o o1 o2 o3 => sgTail N o o2 o3) N r3.1.1 r4.1.1 r5.1.1 0 r5.2.1 0 r3.1.1 []))) = some ((g, ()), (c', ())) ∧ CurOk code (k + 200) c' ∧ g.2.length ≤ 100 := by
    intro n kk c hn hc hkk
    rw [l1Least_eq, bind_some']
    simp only []
    obtain ⟨y, c2, b1, b2, _⟩ := among_ok (N := N) hco hc (by omega) (l := [1, 3, 4, 6]) (by simp)
    rw [b1, bind_some']
    simp only []
    obtain ⟨b, c3, d1, d2⟩ := one_ok (N := N) hco b2 (by omega) 5
    rw [d1, bind_some']
    simp only []
    have hr : 0 ≤ (if n < most then n else most) ∧ (if n < most then n else most) ≤ 8 := by split <;> omega
    obtain ⟨g, c', f1, f2, f3⟩ := sg_fin (N := N) (x1 := y) (x2 := b) hco hN d2 (by omega) hr
    exact ⟨g, c', f1, cur_mono f2 (by omega), f3⟩
  by_cases h6 : 6 < most
  · rw [ilt_t h6, br_t]
    obtain ⟨b, c2, d1, d2⟩ := one_ok (N := N) hco a2 (by omega) 4
    rw [d1, bind_some']
    simp only []
    cases b with
    | true =>
      rw [br_t]
      obtain ⟨y, c3, e1, e2, e3, e4, e5⟩ := pick_ok (N := N) hco d2 (by omega) 2
      rw [e1, bind_some']
      simp only []
      have := e5 (by omega)
      rw [wrap_ok (by omega) (by omega)]
      exact rest (7 + y) _ c3 (by omega) e2 (by omega)
    | false =>
      rw [br_f]
      exact rest n _ c2 hn.1 d2 (by omega)
  · rw [ilt_f h6, br_f]
    exact rest n _ c1 hn.1 a2 (by omega)
theorem graph_ok {N : Nat} {code : List Int} {k : Nat} {c : List Int × (Int × Int)} (hco : codeOk code) (hN : 1048577 ≤ N) (h : CurOk code k c) (hk : k ≤ 90000) : ∃ g c', spec_l1Cur_graph N c = some ((g, ()), (c', ())) ∧ CurOk code (k + 200) c' ∧ g.2.length ≤ 100 := by
  unfold spec_l1Cur_graph
  obtain ⟨g, c', e1, e2, e3⟩ := someGraph_ok (N := N) (most := 6) hco hN h hk (by omega)
  rw [e1, bind_some']
  exact ⟨g, c', rfl, e2, e3⟩
theorem good_up {g : Int × List (Int × Int)} (h : goodG g) : pairsUp g.2 := by
  unfold pairsUp
  rw [List.pairwise_iff_getElem]
  intro i j hi hj hij
  have key : ∀ d, ∀ (h2 : i + d + 1 < g.2.length), edgeLt g.2[i] g.2[i + d + 1] := by
    intro d
    induction d with
    | zero =>
      intro h2
      have := (h.2 (i + 1) h2).2 (by omega)
      rw [show i + 1 - 1 = i by omega, rdP_n hi, rdP_n h2] at this
      exact this
    | succ d ih =>
      intro h2
      have h3 := ih (by omega)
      have := (h.2 (i + d + 1 + 1) h2).2 (by omega)
      rw [show i + d + 1 + 1 - 1 = i + d + 1 by omega, rdP_n (show i + d + 1 < g.2.length by omega), rdP_n (show i + d + 1 + 1 < g.2.length by omega)] at this
      exact edgeLt_trans h3 this
  have h4 := key (j - i - 1) (by omega)
  have e : i + (j - i - 1) + 1 = j := by omega
  simp only [e] at h4
  exact h4
theorem dense_loop {R : Type} {N m : Nat} (hm : m ≤ 8) (hN : 1048577 ≤ N) {k0 : List Int × (Int × Int) → Int → Int → List (Int × Int) → Option R} {c : List Int × (Int × Int)} {o1 : Int} :
    ∀ (d x K : Nat) (o : List (Int × Int)), x + d = max m x → 1 ≤ x → x ≤ 100 → d < K → pairsUp o → o.length + d ≤ 1048576 → ∃ o', spec_l1Cur_dense5_l0 N k0 K (x : Int) c o1 (m : Int) o = k0 c o1 (m : Int) o' ∧ o'.length ≤ o.length + d := by
  intro d
  induction d with
  | zero =>
    intro x K o hd h1 h100 hK ho hl
    obtain ⟨K, rfl⟩ := succ_of hK
    refine ⟨o, ?_, by omega⟩
    simp only [spec_l1Cur_dense5_l0, ilt_nf (show ¬ x < m by omega), br_f]
  | succ d ih =>
    intro x K o hd h1 h100 hK ho hl
    obtain ⟨K, rfl⟩ := succ_of hK
    simp only [spec_l1Cur_dense5_l0, ilt_n (show x < m by omega), br_t]
    rw [l2Neighbors_eq hm (by omega) hN, bind_some']
    simp only []
    rw [wrap_succ (by omega)]
    by_cases h2 : tLen (nbr m o (x : Int)) < 2
    · rw [ilt_t h2, br_t]
      obtain ⟨o1', p1, p2, p3, p4⟩ := putPair_eq (N := N) (e := (IntKind.i64.wrap ((x : Int) - 1), (x : Int))) ho (by omega) hN
      rw [p1, bind_some']
      simp only []
      obtain ⟨o', q1, q2⟩ := ih (x + 1) K o1' (by omega) (by omega) (by omega) (by omega) p2 (by omega)
      exact ⟨o', q1, by omega⟩
    · rw [ilt_f h2, br_f]
      obtain ⟨o', q1, q2⟩ := ih (x + 1) K o (by omega) (by omega) (by omega) (by omega) ho (by omega)
      exact ⟨o', q1, by omega⟩
theorem dense5_ok {N : Nat} {code : List Int} {k : Nat} {c : List Int × (Int × Int)} (hco : codeOk code) (hN : 1048577 ≤ N) (h : CurOk code k c) (hk : k ≤ 90000) : ∃ g c', spec_l1Cur_dense5 N c = some ((g, ()), (c', ())) ∧ CurOk code (k + 210) c' ∧ g.2.length ≤ 110 := by
  unfold spec_l1Cur_dense5
  obtain ⟨g, c1, e1, e2, e3⟩ := graph_ok (N := N) hco hN h hk
  rw [e1, bind_some']
  simp only [show ((g.1, g.2) : Int × List (Int × Int)) = g from rfl]
  rw [l2Good_eq (by omega) hN, bind_some']
  by_cases hg : goodG g
  · rw [decide_eq_true hg]
    simp only [Bool.not_true, br_f]
    obtain ⟨b, c2, f1, f2⟩ := one_ok (N := N) hco e2 (by omega) 4
    rw [f1, bind_some']
    cases b with
    | true =>
      simp only [br_t]
      exact ⟨g, c2, rfl, cur_mono f2 (by omega), by omega⟩
    | false =>
      simp only [br_f]
      have hg1 := hg.1
      obtain ⟨m, hm⟩ : ∃ m : Nat, g.1 = (m : Int) := ⟨g.1.toNat, by omega⟩
      rw [hm]
      obtain ⟨o', q1, q2⟩ := dense_loop (N := N) (m := m) (by omega) hN (k0 := fun o o1 o2 o3 => some (((o2, o3), ()), (o, ()))) (c := c2) (o1 := 0) (max m 1 - 1) 1 N g.2 (by omega) (by omega) (by omega) (by omega) (good_up hg) (by omega)
      exact ⟨((m : Int), o'), c2, q1, cur_mono f2 (by omega), by simp only []; omega⟩
  · rw [decide_eq_false hg]
    exact ⟨g, c1, rfl, cur_mono e2 (by omega), by omega⟩
theorem many5_ok {N : Nat} {code : List Int} {k : Nat} {c : List Int × (Int × Int)} (hco : codeOk code) (h : CurOk code k c) (hk : k ≤ 900000) : ∃ x c', spec_l1Cur_many5 N c = some ((x, ()), (c', ())) ∧ CurOk code (k + 4) c' ∧ -1 ≤ x ∧ x ≤ 6 := by
  unfold spec_l1Cur_many5
  obtain ⟨x, c1, e1, e2, e3, _, e5⟩ := pick_ok (N := N) hco h (by omega) 24
  have e5 := e5 (by omega)
  rw [e1, bind_some']
  simp only []
  obtain ⟨n, rfl⟩ := Int.eq_ofNat_of_zero_le e3
  have hd : ((n : Int)).tdiv 8 = ((n / 8 : Nat) : Int) := rfl
  have hn : n / 8 ≤ 2 := by omega
  rw [hd, wrap_ok (n := ((n / 8 : Nat) : Int)) (by omega) (by omega), wrap_ok (by omega) (by omega), show (7 : Int) + ((n / 8 : Nat) : Int) = ((7 + n / 8 : Nat) : Int) by omega]
  have hl : tLen [3, 3, 2, 4, 3, 1, 5, 0, 6, (-1 : Int)] = 10 := rfl
  rw [hl, ile_t (Int.le_refl 0), ile_t (by omega), ile_t (by omega)]
  simp only [Bool.and_self, chk_t]
  obtain ⟨y, c2, f1, f2, f3⟩ := among_ok (N := N) hco e2 (by omega) (l := tCut [3, 3, 2, 4, 3, 1, 5, 0, 6, (-1 : Int)] 0 ((7 + n / 8 : Nat) : Int)) (by
    intro h
    have := congrArg List.length h
    simp [tCut] at this
    omega)
  rw [f1, bind_some']
  refine ⟨y, c2, rfl, cur_mono f2 (by omega), ?_⟩
  have : y ∈ [3, 3, 2, 4, 3, 1, 5, 0, 6, (-1 : Int)] := by
    unfold tCut at f3
    exact List.mem_of_mem_take (List.mem_of_mem_drop f3)
  simp at this
  omega
theorem cur0 {code : List Int} : CurOk code 0 (code, (0, 0)) := ⟨rfl, Int.le_refl _, by simp⟩
theorem vInts_l0_eq {R : Type} (N : Nat) (k0 : Bool → Option R) (k1 : Unit → Option R) (a b : List Int) (hx : a.length ≤ 1099511627776) (hl : a.length = b.length) : ∀ (d n : Nat) (K : Nat), n + d = a.length → d < K →
    laws_vInts_l0 N k0 k1 K a b n = if a.drop n = b.drop n then k1 () else k0 false := by
  intro d
  induction d with
  | zero =>
    intro n K hd hK
    obtain ⟨k, rfl⟩ := succ_of hK
    have hn : ¬ n < a.length := by omega
    simp only [laws_vInts_l0, ilt_lenf hn, br_f]
    rw [if_pos]
    rw [List.drop_of_length_le (by omega), List.drop_of_length_le (by omega)]
  | succ d ih =>
    intro n K hd hK
    obtain ⟨k, rfl⟩ := succ_of hK
    have hn : n < a.length := by omega
    have hnb : n < b.length := by omega
    simp only [laws_vInts_l0, ilt_len hn, inb_n hn, inb_n hnb, br_t, chk_t]
    rw [wrap_succ (by omega), rdI_n hn, rdI_n hnb, ih (n + 1) k (by omega) (by omega), drop_cons hn, drop_cons hnb]
    by_cases he : a[n] = b[n]
    · rw [ine_f he, br_f, he]
      simp only [List.cons.injEq, true_and]
    · rw [ine_t he, br_t, if_neg]
      intro h
      injection h with h _
      exact he h
theorem vInts_eq {N : Nat} {a b : List Int} (hx : a.length ≤ 1099511627776) (hN : a.length < N) : laws_vInts N a b = some ((decide (a = b), ()), ()) := by
  unfold laws_vInts
  simp only [tLen_n]
  by_cases hl : a.length = b.length
  · rw [ine_f (by omega), br_f]
    have := vInts_l0_eq N (fun x => some ((x, ()), ())) (fun _ => some ((true, ()), ())) a b hx hl a.length 0 N (by omega) (by omega)
    simp only [Int.natCast_zero, List.drop_zero] at this
    rw [this]
    by_cases h : a = b <;> simp [h]
  · rw [ine_t (by omega), br_t]
    have : a ≠ b := fun h => hl (by rw [h])
    simp [this]
theorem code_ok {x : List Int} (h : ∀ y ∈ x, (Lit.int .u8 y).wf = true) (hl : x.length ≤ 65536) : codeOk x := by
  refine ⟨by omega, fun y hy => ?_⟩
  have := h y hy
  simp [Lit.wf, IntKind.min, IntKind.max, IntKind.signed, IntKind.bits] at this
  omega
theorem apart_symm {a b : List Int} (h : a.length = b.length) : apartL a b = apartL b a := by
  unfold apartL
  rw [h]
  congr 1
  refine List.filter_congr fun i _ => decide_eq_decide.2 ⟨Ne.symm, Ne.symm⟩
theorem mem_apart {a b : List Int} {x : Int} : x ∈ apartL a b ↔ ∃ i : Nat, i < a.length ∧ rdI a (i : Int) ≠ rdI b (i : Int) ∧ x = (i : Int) := by
  unfold apartL
  rw [List.mem_map]
  constructor
  · rintro ⟨i, hi, rfl⟩
    obtain ⟨h1, h2⟩ := List.mem_filter.1 hi
    have := List.mem_range'_1.1 h1
    exact ⟨i, by omega, of_decide_eq_true h2, rfl⟩
  · rintro ⟨i, h1, h2, rfl⟩
    exact ⟨i, List.mem_filter.2 ⟨List.mem_range'_1.2 (by omega), decide_eq_true h2⟩, rfl⟩
theorem apart_nodup (a b : List Int) : (apartL a b).Nodup := by
  unfold apartL
  refine List.Pairwise.map (R := fun (i j : Nat) => i ≠ j) _ (fun i j h e => h (by omega)) ?_
  exact (List.nodup_range' (step := 1)).filter _
theorem rd_ext {a b : List Int} (h : a.length = b.length) (he : ∀ i : Nat, i < a.length → rdI a (i : Int) = rdI b (i : Int)) : a = b := by
  refine List.ext_getElem h fun i h1 h2 => ?_
  have := he i h1
  rwa [rdI_n h1, rdI_n h2] at this
theorem step_near {xs : List (List Int)} {p : List Int → List Int → Bool} {x y : List Int} (hp : ∀ x ∈ xs, ∀ y ∈ xs, p x y = true → p y x = true) (hx : x ∈ xs) (hy : y ∈ xs) (hne : x ≠ y) (h : p x y = true) : ((xs.idxOf y : Nat) : Int) ∈ rdL (nbL xs.length (stepsL p xs)) ((xs.idxOf x : Nat) : Int) := by
  have i1 := idx_lt hx
  have i2 := idx_lt hy
  have r1 := idx_rd hx
  have r2 := idx_rd hy
  rw [nbL_rd (in_nat i1), mem_nbS stepsL_ok]
  have hni : xs.idxOf x ≠ xs.idxOf y := fun e => hne (by rw [← r1, ← r2, e])
  by_cases hlt : xs.idxOf x < xs.idxOf y
  · exact .inr (mem_stepsL.2 ⟨_, _, rfl, hlt, i2, by rw [r1, r2]; exact h⟩)
  · exact .inl (mem_stepsL.2 ⟨_, _, rfl, by omega, i1, by rw [r1, r2]; exact hp x hx y hy h⟩)
theorem isCh_symm {a b : List Int} (h : a.length = b.length) (hc : isCh a b = true) : isCh b a = true := by
  unfold isCh at *
  rw [apart_symm h.symm]
  exact hc
def upd (f : Nat → Int) (v : Nat) (c : Int) : Nat → Int := fun u => if u = v then c else f u
def agreeS (S : List Nat) (f g : Nat → Int) : Prop := ∀ v ∈ S, f v = g v
def prS (es : List (Int × Int)) (k : Int) (S : List Nat) (f : Nat → Int) : Prop := ∀ v ∈ S, (0 ≤ f v ∧ f v < k) ∧ ∀ u ∈ S, nearG es (u : Int) (v : Int) → f u ≠ f v
theorem prS_agree {es : List (Int × Int)} {k : Int} {S : List Nat} {f g : Nat → Int} (h : agreeS S f g) (hf : prS es k S f) : prS es k S g := fun v hv => by
  obtain ⟨h1, h2⟩ := hf v hv
  refine ⟨by rw [← h v hv]; exact h1, fun u hu hn => ?_⟩
  rw [← h v hv, ← h u hu]
  exact h2 u hu hn
theorem prS_tail {es : List (Int × Int)} {k : Int} {v : Nat} {S : List Nat} {f : Nat → Int} (h : prS es k (v :: S) f) : prS es k S f := fun w hw => ⟨(h w (List.mem_cons_of_mem _ hw)).1, fun u hu => (h w (List.mem_cons_of_mem _ hw)).2 u (List.mem_cons_of_mem _ hu)⟩
inductive ChS (es : List (Int × Int)) (k : Int) (S : List Nat) (f : Nat → Int) : (Nat → Int) → Prop
  | base : ChS es k S f f
  | step {g : Nat → Int} {v : Nat} {c : Int} : ChS es k S f g → v ∈ S → prS es k S (upd g v c) → ChS es k S f (upd g v c)
theorem free_colour {k : Nat} {l : List Int} (h : l.length < k) : ∃ c : Int, 0 ≤ c ∧ c < (k : Int) ∧ c ∉ l := by
  refine Classical.byContradiction fun hno => ?_
  have hall : ∀ c ∈ (List.range k).map (fun i : Nat => (i : Int)), c ∈ l := fun c hc => by
    obtain ⟨i, hi, rfl⟩ := List.mem_map.1 hc
    exact Classical.byContradiction fun h => hno ⟨(i : Int), by omega, by have := List.mem_range.1 hi; omega, h⟩
  have hnd : ((List.range k).map (fun i : Nat => (i : Int))).Nodup := List.Pairwise.map (R := fun (i j : Nat) => i ≠ j) _ (fun i j h e => h (by omega)) List.nodup_range
  have := nodup_le hnd hall
  simp at this
  omega
noncomputable def nbIn (es : List (Int × Int)) (S : List Nat) (v : Nat) : List Nat := S.filter fun u => decide (nearG es (u : Int) (v : Int))
theorem mem_nbIn {es : List (Int × Int)} {S : List Nat} {u v : Nat} : u ∈ nbIn es S v ↔ u ∈ S ∧ nearG es (u : Int) (v : Int) := by
  unfold nbIn
  rw [List.mem_filter, decide_eq_true_eq]
theorem upd_same (f : Nat → Int) (v : Nat) (c : Int) : upd f v c v = c := by unfold upd; rw [if_pos rfl]
theorem upd_other {f : Nat → Int} {u v : Nat} {c : Int} (h : u ≠ v) : upd f v c u = f u := by unfold upd; rw [if_neg h]
theorem prS_upd {es : List (Int × Int)} {k : Int} {v : Nat} {S : List Nat} {f : Nat → Int} {c : Int} (hl : ¬ nearG es (v : Int) (v : Int)) (h : prS es k (v :: S) f) (hc : 0 ≤ c ∧ c < k) (hn : ∀ u ∈ S, nearG es (u : Int) (v : Int) → f u ≠ c) : prS es k (v :: S) (upd f v c) := by
  intro w hw
  by_cases e : w = v
  · subst e
    rw [upd_same]
    refine ⟨hc, fun u hu hnu => ?_⟩
    by_cases e2 : u = w
    · subst e2; exact absurd hnu hl
    · rw [upd_other e2]
      exact hn u ((List.mem_cons.1 hu).resolve_left e2) hnu
  · rw [upd_other e]
    obtain ⟨h1, h2⟩ := h w hw
    refine ⟨h1, fun u hu hnu => ?_⟩
    by_cases e2 : u = v
    · subst e2
      rw [upd_same]
      exact fun q => hn w ((List.mem_cons.1 hw).resolve_left e) (nearG_symm.1 hnu) q.symm
    · rw [upd_other e2]
      exact h2 u hu hnu
theorem lift_ch {es : List (Int × Int)} {k d : Nat} {v : Nat} {S : List Nat} (hl : ∀ u : Nat, ¬ nearG es (u : Int) (u : Int)) (hv : v ∉ S) (hd : (nbIn es S v).length ≤ d) (hk : d + 2 ≤ k) {f g : Nat → Int} (hf : prS es (k : Int) (v :: S) f) (h : ChS es (k : Int) S f g) :
    ∃ g', ChS es (k : Int) (v :: S) f g' ∧ agreeS S g' g ∧ prS es (k : Int) (v :: S) g' := by
  induction h with
  | base => exact ⟨f, .base, fun _ _ => rfl, hf⟩
  | @step g u c _ hu hp ih =>
    obtain ⟨g', h1, h2, h3⟩ := ih
    have huv : u ≠ v := fun e => hv (e ▸ hu)
    have hcr := (hp u hu).1
    rw [upd_same] at hcr
    -- the change where the node ahead does not hinder it
    have go : ∀ q : Nat → Int, ChS es (k : Int) (v :: S) f q → agreeS S q g → prS es (k : Int) (v :: S) q → (nearG es (u : Int) (v : Int) → q v ≠ c) → ∃ g', ChS es (k : Int) (v :: S) f g' ∧ agreeS S g' (upd g u c) ∧ prS es (k : Int) (v :: S) g' := by
      intro q c1 c2 c3 c4
      have hpq : prS es (k : Int) (v :: S) (upd q u c) := by
        intro w hw
        by_cases e : w = u
        · subst e
          rw [upd_same]
          refine ⟨hcr, fun z hz hn => ?_⟩
          by_cases e2 : z = w
          · subst e2; exact absurd hn (hl _)
          · rw [upd_other e2]
            rcases List.mem_cons.1 hz with rfl | hz
            · exact c4 (nearG_symm.1 hn)
            · have := (hp w hu).2 z hz hn
              rw [upd_same, upd_other e2] at this
              rw [c2 z hz]
              exact this
        · rw [upd_other e]
          obtain ⟨i1, i2⟩ := c3 w hw
          refine ⟨i1, fun z hz hn => ?_⟩
          by_cases e2 : z = u
          · subst e2
            rw [upd_same]
            rcases List.mem_cons.1 hw with rfl | hw
            · exact fun q' => c4 hn q'.symm
            · have := (hp w hw).2 z hu hn
              rw [upd_same, upd_other e] at this
              rw [c2 w hw]
              exact this
          · rw [upd_other e2]
            exact i2 z hz hn
      refine ⟨upd q u c, .step c1 (List.mem_cons_of_mem _ hu) hpq, fun w hw => ?_, hpq⟩
      by_cases e : w = u
      · subst e; rw [upd_same, upd_same]
      · rw [upd_other e, upd_other e]; exact c2 w hw
    by_cases hc : nearG es (u : Int) (v : Int) ∧ g' v = c
    · obtain ⟨c2, r1, r2, r3⟩ := free_colour (k := k) (l := c :: (nbIn es S v).map g') (by simp; omega)
      have hne : c2 ≠ c := fun e => r3 (e ▸ List.mem_cons_self ..)
      have hpu := prS_upd (c := c2) (hl v) h3 ⟨r1, r2⟩ fun z hz hn e => r3 (List.mem_cons_of_mem _ (List.mem_map.2 ⟨z, mem_nbIn.2 ⟨hz, hn⟩, e⟩))
      refine go (upd g' v c2) (.step h1 (List.mem_cons_self ..) hpu) (fun w hw => ?_) hpu fun _ => by rw [upd_same]; exact hne
      rw [upd_other (fun (e : w = v) => hv (e ▸ hw))]
      exact h2 w hw
    · exact go g' h1 h2 h3 fun hn e => hc ⟨hn, e⟩
def peels (es : List (Int × Int)) (d : Nat) : List Nat → Prop
  | [] => True
  | v :: S => v ∉ S ∧ (nbIn es S v).length ≤ d ∧ peels es d S
theorem ch_all {es : List (Int × Int)} {k d : Nat} (hl : ∀ u : Nat, ¬ nearG es (u : Int) (u : Int)) (hk : d + 2 ≤ k) : ∀ {S : List Nat}, peels es d S → ∀ {f g : Nat → Int}, prS es (k : Int) S f → prS es (k : Int) S g → ∃ g', ChS es (k : Int) S f g' ∧ agreeS S g' g := by
  intro S
  induction S with
  | nil => intro _ f g _ _; exact ⟨f, .base, fun v hv => by cases hv⟩
  | cons v S ih =>
    intro hp f g hf hg
    obtain ⟨p1, p2, p3⟩ := hp
    obtain ⟨g1, h1, h2⟩ := ih p3 (prS_tail hf) (prS_tail hg)
    obtain ⟨g2, c1, c2, c3⟩ := lift_ch hl p1 p2 hk hf h1
    have hag : agreeS S g2 g := fun w hw => (c2 w hw).trans (h2 w hw)
    have hagu : agreeS (v :: S) (upd g2 v (g v)) g := fun w hw => by
      by_cases e : w = v
      · subst e; rw [upd_same]
      · rw [upd_other e]; exact hag w ((List.mem_cons.1 hw).resolve_left e)
    exact ⟨upd g2 v (g v), .step c1 (List.mem_cons_self ..) (prS_agree (fun w hw => (hagu w hw).symm) hg), hagu⟩
theorem col_some {es : List (Int × Int)} {k d : Nat} (hl : ∀ u : Nat, ¬ nearG es (u : Int) (u : Int)) (hk : d + 1 ≤ k) : ∀ {S : List Nat}, peels es d S → ∃ f, prS es (k : Int) S f := by
  intro S
  induction S with
  | nil => intro _; exact ⟨fun _ => 0, fun v hv => by cases hv⟩
  | cons v S ih =>
    intro hp
    obtain ⟨p1, p2, p3⟩ := hp
    obtain ⟨f, hf⟩ := ih p3
    obtain ⟨c, r1, r2, r3⟩ := free_colour (k := k) (l := (nbIn es S v).map f) (by simp; omega)
    refine ⟨upd f v c, fun w hw => ?_⟩
    by_cases e : w = v
    · subst e
      rw [upd_same]
      refine ⟨⟨r1, r2⟩, fun u hu hn => ?_⟩
      by_cases e2 : u = w
      · subst e2; exact absurd hn (hl _)
      · rw [upd_other e2]
        exact fun q => r3 (List.mem_map.2 ⟨u, mem_nbIn.2 ⟨(List.mem_cons.1 hu).resolve_left e2, hn⟩, q⟩)
    · rw [upd_other e]
      have hwS := (List.mem_cons.1 hw).resolve_left e
      refine ⟨(hf w hwS).1, fun u hu hn => ?_⟩
      by_cases e2 : u = v
      · subst e2
        rw [upd_same]
        exact fun q => r3 (List.mem_map.2 ⟨w, mem_nbIn.2 ⟨hwS, nearG_symm.1 hn⟩, q.symm⟩)
      · rw [upd_other e2]
        exact (hf w hwS).2 u ((List.mem_cons.1 hu).resolve_left e2) hn
def inS (S : List Nat) (g : Nat → Int) (a c : Int) (z : Int) : Prop := ∃ u : Nat, u ∈ S ∧ z = (u : Int) ∧ (g u = a ∨ g u = c)
def kset (es : List (Int × Int)) (S : List Nat) (g : Nat → Int) (x : Nat) (c : Int) (u : Nat) : Prop := Rch es (inS S g (g x) c) (x : Int) (u : Int)
noncomputable def swapF (es : List (Int × Int)) (S : List Nat) (g : Nat → Int) (x : Nat) (c : Int) : Nat → Int := fun u => if kset es S g x c u then (if g u = g x then c else g x) else g u
inductive KeS (es : List (Int × Int)) (k : Int) (S : List Nat) (f : Nat → Int) : (Nat → Int) → Prop
  | base : KeS es k S f f
  | step {g : Nat → Int} {x : Nat} {c : Int} : KeS es k S f g → x ∈ S → 0 ≤ c ∧ c < k → g x ≠ c → KeS es k S f (swapF es S g x c)
theorem kset_in {es : List (Int × Int)} {S : List Nat} {g : Nat → Int} {x u : Nat} {c : Int} (hx : x ∈ S) (h : kset es S g x c u) : u ∈ S ∧ (g u = g x ∨ g u = c) := by
  unfold kset at h
  generalize hz : (u : Int) = z at h
  cases h with
  | base =>
    have : u = x := by omega
    subst this
    exact ⟨hx, .inl rfl⟩
  | step _ _ ha =>
    obtain ⟨w, hw, e, hc⟩ := ha
    have : u = w := by omega
    subst this
    exact ⟨hw, hc⟩
theorem ke_pr {es : List (Int × Int)} {k : Int} {S : List Nat} {g : Nat → Int} {x : Nat} {c : Int} (h : prS es k S g) (hx : x ∈ S) (hc : 0 ≤ c ∧ c < k) : prS es k S (swapF es S g x c) := by
  have hxr := (h x hx).1
  have hcl : ∀ u w : Nat, kset es S g x c u → nearG es (u : Int) (w : Int) → w ∈ S → (g w = g x ∨ g w = c) → kset es S g x c w := fun u w hu hn hw hcw => Rch.step hu hn ⟨w, hw, rfl, hcw⟩
  intro w hw
  obtain ⟨h1, h2⟩ := h w hw
  refine ⟨?_, fun u hu hn => ?_⟩
  · unfold swapF
    split
    · split
      · exact hc
      · exact hxr
    · exact h1
  · have hne := h2 u hu hn
    unfold swapF
    by_cases ku : kset es S g x c u
    · have cu := (kset_in hx ku).2
      by_cases kw : kset es S g x c w
      · have cw := (kset_in hx kw).2
        rw [if_pos ku, if_pos kw]
        by_cases q1 : g u = g x
        · rw [if_pos q1]
          have q2 : g w ≠ g x := fun q => hne (q1.trans q.symm)
          rw [if_neg q2]
          exact fun q => q2 ((cw.resolve_left q2).trans q)
        · rw [if_neg q1]
          have q2 := cu.resolve_left q1
          have q3 : g w = g x := cw.resolve_right fun q => hne (q2.trans q.symm)
          rw [if_pos q3]
          exact fun q => q1 (q2.trans q.symm)
      · have nw : ¬ (g w = g x ∨ g w = c) := fun q => kw (hcl u w ku hn hw q)
        rw [if_pos ku, if_neg kw]
        split
        · exact fun q => nw (.inr q.symm)
        · exact fun q => nw (.inl q.symm)
    · by_cases kw : kset es S g x c w
      · have nu : ¬ (g u = g x ∨ g u = c) := fun q => ku (hcl w u kw (nearG_symm.1 hn) hu q)
        rw [if_neg ku, if_pos kw]
        split
        · exact fun q => nu (.inr q)
        · exact fun q => nu (.inl q)
      · rw [if_neg ku, if_neg kw]
        exact hne
theorem ke_one {es : List (Int × Int)} {k : Int} {S : List Nat} {g : Nat → Int} {v : Nat} {c : Int} (h : prS es k S g) (hv : v ∈ S) (hn : ∀ u ∈ S, nearG es (u : Int) (v : Int) → g u ≠ c) : swapF es S g v c = upd g v c := by
  have only : ∀ u : Nat, kset es S g v c u ↔ u = v := by
    intro u
    constructor
    · intro hk
      have key : ∀ {z : Int}, Rch es (inS S g (g v) c) (v : Int) z → z = (v : Int) := by
        intro z hz
        induction hz with
        | base => rfl
        | step _ hnear ha ih =>
          obtain ⟨w, hw, rfl, hcw⟩ := ha
          rw [ih] at hnear
          have hnear := nearG_symm.1 hnear
          rcases hcw with q | q
          · exact absurd q ((h v hv).2 w hw hnear)
          · exact absurd q (hn w hw hnear)
      have := key hk
      omega
    · rintro rfl
      exact Rch.base
  funext u
  unfold swapF upd
  by_cases e : u = v
  · subst e
    rw [if_pos ((only u).2 rfl), if_pos rfl, if_pos rfl]
  · rw [if_neg (fun q => e ((only u).1 q)), if_neg e]
end Go.Proofs.YtbnjcjpnpidhmaaGreat
