/- Statements on data alone. -/
import Derived.Test.YtgelipdkheahdaaPvPure
import Derived.Test.YtgelipdkheahdaaMixingColoursGb
set_option linter.all false
set_option linter.all false
namespace Go.Proofs.Ytgelipdkheahdaa
open Go Go.PV Classical
def PI (L : List (List Int)) (m : Nat) (s0 : List Bool) (x : Int) (o : List Bool) (q : List Int) : Prop :=
  o.length = m ∧ q.Nodup ∧ (∀ z ∈ q, InN m z ∧ Wk L x z) ∧ ∀ y : Nat, y < m → (rdB o (y : Int) = true ↔ rdB s0 (y : Int) = true ∨ (y : Int) ∈ q)
theorem PI_len {L : List (List Int)} {m : Nat} {s0 : List Bool} {x : Int} {o : List Bool} {q : List Int} (h : PI L m s0 x o q) : q.length ≤ m := inM_len ⟨h.2.1, fun z hz => (h.2.2.1 z hz).1⟩
theorem partIn {R : Type} {N m : Nat} {L : List (List Int)} {s0 : List Bool} {x : Int} (hl : okLists L m) (hm : m ≤ 1000) {k0 : List (List Int) → Int → Int → Int → List (List Int) → List Bool → List Int → Option R} {x8 x9 x10 : Int} {o5 : List (List Int)} {u : Int} (hu : InN m u) (hux : Wk L x u) :
    ∀ (d n K : Nat) (o6 : List Bool) (q : List Int), n + d = (rdL L u).length → d < K → PI L m s0 x o6 q → ∃ o6' q', impl_parts_l0_0_0 N k0 K L x8 x9 x10 (rdL L u) (((rdL L u).length : Nat) : Int) (n : Int) o5 o6 q = k0 L x8 x9 x10 o5 o6' q' ∧ PI L m s0 x o6' q' ∧ (∃ t, q' = q ++ t) ∧ ∀ i (h : i < (rdL L u).length), n ≤ i → rdB o6' ((rdL L u)[i]) = true := by
  obtain ⟨hr1, hr2⟩ := okL_row hl hu
  intro d
  induction d with
  | zero =>
    intro n K o6 q hd hK hp
    obtain ⟨K, rfl⟩ := succ_of hK
    refine ⟨o6, q, ?_, hp, ⟨[], by simp⟩, fun i h1 h2 => by omega⟩
    simp only [impl_parts_l0_0_0, ilt_nf (show ¬ n < (rdL L u).length by omega), br_f]
  | succ d ih =>
    intro n K o6 q hd hK hp
    obtain ⟨K, rfl⟩ := succ_of hK
    have hn : n < (rdL L u).length := by omega
    have hz := hr2 _ (List.getElem_mem hn)
    obtain ⟨z, hz1, hz2⟩ := nat_of hz
    have hpl := PI_len hp
    simp only [impl_parts_l0_0_0, ilt_n hn, br_t, inb_n hn, chk_t, rdI_n hn]
    rw [hz2, inb_n (show z < o6.length by have := hp.1; omega), chk_t]
    by_cases h : rdB o6 (z : Int) = true
    · rw [h]
      simp only [Bool.not_true, br_f]
      rw [wrap_succ (by omega)]
      obtain ⟨a, b, h1, h2, h3, h4⟩ := ih (n + 1) K o6 q (by omega) (by omega) hp
      refine ⟨a, b, h1, h2, h3, fun i hi hni => ?_⟩
      by_cases e : i = n
      · subst e
        rw [hz2]
        refine (h2.2.2.2 z hz1).2 (((hp.2.2.2 z hz1).1 h).imp_right fun hq => ?_)
        obtain ⟨t, rfl⟩ := h3
        exact List.mem_append_left _ hq
      · exact h4 i hi (by omega)
    · have hnq : ¬ ((rdB s0 (z : Int) = true) ∨ (z : Int) ∈ q) := fun q => h ((hp.2.2.2 z hz1).2 q)
      rw [Bool.eq_false_iff.2 h]
      simp only [Bool.not_false, br_t, chk_t]
      rw [room_ok (by simp; omega), chk_t, wrap_succ (by omega), tApp_d]
      have hp' : PI L m s0 x (tSet o6 (z : Int) true) (q ++ [(z : Int)]) := by
        refine ⟨by simp [tSet, hp.1], ?_, fun y hy => ?_, fun y hy => ?_⟩
        · rw [List.nodup_append]
          exact ⟨hp.2.1, (by simp), fun a ha b hb e => by
            rw [List.mem_singleton] at hb
            subst hb e
            exact hnq (.inr ha)⟩
        · rcases List.mem_append.1 hy with hy | hy
          · exact hp.2.2.1 y hy
          · rw [List.mem_singleton] at hy
            subst hy
            refine ⟨in_nat hz1, .step hux ?_⟩
            rw [← hz2]
            exact List.getElem_mem hn
        · rw [rdB_setN (by have := hp.1; omega), List.mem_append, List.mem_singleton]
          by_cases e : y = z
          · subst e; simp
          · rw [if_neg e, hp.2.2.2 y hy]
            exact ⟨fun q => q.imp_right .inl, fun q => q.imp_right fun q => q.resolve_right (by omega)⟩
      obtain ⟨a, b, h1, h2, h3, h4⟩ := ih (n + 1) K _ _ (by omega) (by omega) hp'
      obtain ⟨t, rfl⟩ := h3
      refine ⟨a, _, h1, h2, ⟨(z : Int) :: t, by simp⟩, fun i hi hni => ?_⟩
      by_cases e : i = n
      · subst e
        rw [hz2]
        exact (h2.2.2.2 z hz1).2 (.inr (by simp))
      · exact h4 i hi (by omega)
theorem partLoop {R : Type} {N m : Nat} {L : List (List Int)} {s0 : List Bool} {x : Int} (hl : okLists L m) (hm : m ≤ 1000) {k0 : List (List Int) → Int → Int → List (List Int) → List Bool → List Int → Option R} {x5 x6 : Int} {o2 : List (List Int)} (hN : 1048577 ≤ N) :
    ∀ (d n K : Nat) (o3 : List Bool) (q : List Int), n + d = m → d < K → n ≤ q.length → PI L m s0 x o3 q → (∀ i, i < n → ∀ z ∈ rdL L (rdI q (i : Int)), rdB o3 z = true) → ∃ o3' q', impl_parts_l0_0 N k0 K L (n : Int) x5 x6 o2 o3 q = k0 L x5 x6 o2 o3' q' ∧ PI L m s0 x o3' q' ∧ (∃ t, q' = q ++ t) ∧ ∀ u ∈ q', ∀ z ∈ rdL L u, rdB o3' z = true := by
  intro d
  have done : ∀ (n : Nat) (o3 : List Bool) (q : List Int), q.length ≤ n → (∀ i, i < n → ∀ z ∈ rdL L (rdI q (i : Int)), rdB o3 z = true) → ∀ u ∈ q, ∀ z ∈ rdL L u, rdB o3 z = true := by
    intro n o3 q hq hc u hu
    obtain ⟨i, hi, rfl⟩ := List.getElem_of_mem hu
    have := hc i (by omega)
    rwa [rdI_n hi] at this
  induction d with
  | zero =>
    intro n K o3 q hd hK hn hp hc
    obtain ⟨K, rfl⟩ := succ_of hK
    have hpl := PI_len hp
    refine ⟨o3, q, ?_, hp, ⟨[], by simp⟩, done n o3 q (by omega) hc⟩
    simp only [impl_parts_l0_0, ilt_lenf (show ¬ n < q.length by omega), br_f]
  | succ d ih =>
    intro n K o3 q hd hK hn hp hc
    obtain ⟨K, rfl⟩ := succ_of hK
    have hpl := PI_len hp
    by_cases hnq : n < q.length
    · simp only [impl_parts_l0_0, ilt_len hnq, br_t, inb_n hnq, chk_t, rdI_n hnq]
      obtain ⟨hu, hux⟩ := hp.2.2.1 _ (List.getElem_mem hnq)
      obtain ⟨u, hu1, hu2⟩ := nat_of hu
      have hr := okL_row hl hu
      rw [hu2] at hu hux hr ⊢
      rw [inb_n (show u < L.length by have := hl.1; omega), chk_t, tLen_n]
      obtain ⟨a, b, h1, h2, ⟨t, rfl⟩, h4⟩ := partIn (N := N) hl hm (k0 := fun x7 x8 x9 x10 o5 o6 o7 => impl_parts_l0_0 N k0 K x7 (IntKind.i64.wrap (x8 + 1)) x9 x10 o5 o6 o7) (x8 := (n : Int)) (x9 := x5) (x10 := x6) (o5 := o2) hu hux (rdL L (u : Int)).length 0 N o3 q (by omega) (by have := hr.1; omega) hp
      simp only [Int.natCast_zero] at h1
      rw [h1, wrap_succ (by omega)]
      have mono : ∀ z, InN m z → rdB o3 z = true → rdB a z = true := fun z hz h => by
        obtain ⟨y, hy, rfl⟩ := nat_of hz
        exact (h2.2.2.2 y hy).2 (((hp.2.2.2 y hy).1 h).imp_right (List.mem_append_left _))
      obtain ⟨a', b', g1, g2, ⟨t', g3⟩, g4⟩ := ih (n + 1) K a (q ++ t) (by omega) (by omega) (by rw [List.length_append]; omega) h2 fun i hi z hz => by
        have hiq : i < q.length := by omega
        have e1 : rdI (q ++ t) (i : Int) = q[i] := by rw [rdI_n (by rw [List.length_append]; omega), List.getElem_append_left hiq]
        rw [e1] at hz
        by_cases e : i = n
        · subst e
          rw [hu2] at hz
          obtain ⟨j, hj, rfl⟩ := List.getElem_of_mem hz
          exact h4 j hj (Nat.zero_le _)
        · exact mono z ((okL_row hl (hp.2.2.1 _ (List.getElem_mem hiq)).1).2 _ hz) (hc i (by omega) z (by rw [rdI_n hiq]; exact hz))
      exact ⟨a', b', g1, g2, ⟨t ++ t', by rw [g3, List.append_assoc]⟩, g4⟩
    · refine ⟨o3, q, ?_, hp, ⟨[], by simp⟩, done n o3 q (by omega) hc⟩
      simp only [impl_parts_l0_0, ilt_lenf hnq, br_f]
theorem implParts {N m : Nat} {L : List (List Int)} (hl : okLists L m) (hm : m ≤ 1000) (hN : 1048577 ≤ N) :
    ∀ (d i K : Nat) (o : List (List Int)) (o2 : List Bool), i + d = m → d < K → o.length = cntN L i → o2.length = m → (∀ y : Nat, y < m → (rdB o2 (y : Int) = true ↔ seenP L i (y : Int))) → ∃ o' : List (List Int), impl_parts_l0 N (fun o => some ((o, ()), ())) K L (m : Int) (i : Int) o o2 = some ((o', ()), ()) ∧ o'.length = cntN L m := by
  intro d
  induction d with
  | zero =>
    intro i K o o2 hd hK ho h2 hs
    obtain ⟨K, rfl⟩ := succ_of hK
    have e : i = m := by omega
    subst e
    refine ⟨o, ?_, ho⟩
    simp only [impl_parts_l0, ilt_nf (Nat.lt_irrefl i), br_f]
  | succ d ih =>
    intro i K o o2 hd hK ho h2 hs
    obtain ⟨K, rfl⟩ := succ_of hK
    have hi : i < m := by omega
    simp only [impl_parts_l0, ilt_n hi, br_t, inb_n (show i < o2.length by omega), chk_t]
    by_cases h : rdB o2 (i : Int) = true
    · rw [h, br_t, wrap_succ (by omega)]
      have hse := (hs i hi).1 h
      exact ih (i + 1) K o o2 (by omega) (by omega) (by rw [cntN_seen hse, ho]) h2 fun y hy => (hs y hy).trans (seen_old hse).symm
    · have hse : ¬ seenP L i (i : Int) := fun q => h ((hs i hi).2 q)
      rw [Bool.eq_false_iff.2 h, br_f]
      have hp : PI L m o2 (i : Int) (tSet o2 (i : Int) true) [(i : Int)] := by
        refine ⟨by simp [tSet, h2], (by simp), fun z hz => ?_, fun y hy => ?_⟩
        · rw [List.mem_singleton] at hz
          subst hz
          exact ⟨in_nat hi, .base⟩
        · rw [rdB_setN (by omega), List.mem_singleton]
          by_cases e : y = i
          · subst e; simp
          · rw [if_neg e]
            exact ⟨.inl, fun q => q.resolve_right (by omega)⟩
      obtain ⟨a, q, g1, g2, ⟨t, g3⟩, g4⟩ := partLoop (N := N) hl hm (k0 := fun x3 x4 x5 o2 o3 o4 => ((slices_Sort_LI_int N o4).bind fun r =>
          (chk (room o2 [r.2.1])
            (impl_parts_l0 N (fun o => some ((o, ()), ())) K x3 x4 (IntKind.i64.wrap (x5 + 1)) (tApp o2 [r.2.1]) o3)))) (x5 := (m : Int)) (x6 := (i : Int)) (o2 := o) hN m 0 N _ _ (by omega) (by omega) (Nat.zero_le _) hp (fun j hj => absurd hj (Nat.not_lt_zero j))
      simp only [Int.natCast_zero] at g1
      have hc := cntN_le L i
      have hq := PI_len g2
      rw [g1, Sort_any (by omega), bind_some']
      simp only []
      rw [room_ok (by simp; omega), chk_t, wrap_succ (by omega)]
      refine ih (i + 1) K _ a (by omega) (by omega) (by rw [tApp_d, List.length_append, List.length_singleton, cntN_first hse, ho]) g2.1 fun y hy => ?_
      rw [g2.2.2.2 y hy, seen_new, hs y hy]
      constructor
      · exact fun q => q.imp_right fun q => (g2.2.2.1 _ q).2
      · rintro (q | q')
        · exact .inl q
        · have key : ∀ z, Wk L (i : Int) z → seenP L i z ∨ z ∈ q := by
            intro z hz
            induction hz with
            | base => exact .inr (by rw [g3]; simp)
            | step h1 h5 ih =>
              have hy := Wk_in hl (in_nat hi) h1
              rcases ih with ⟨j, j1, j2⟩ | h6
              · exact .inl ⟨j, j1, .step j2 h5⟩
              · obtain ⟨w, hw, e⟩ := nat_of ((okL_row hl hy).2 _ h5)
                have h7 := g4 _ h6 _ h5
                rw [e] at h7 ⊢
                exact ((g2.2.2.2 w hw).1 h7).imp_left (hs w hw).1
          exact key _ q'
theorem parts_both {N : Nat} {xs : List (List Int)} {st : List (Int × Int)} (hx : xs.length ≤ 1000) (hs : st.length ≤ 1048576) (h : okSt xs.length st) (hN : 1048577 ≤ N) :
    ∃ a b : List (List Int), spec_l2Parts N (xs, st) = some ((a, ()), ()) ∧ impl_parts N (nbL xs.length st) (-1) = some ((b, ()), ()) ∧ a.length = b.length ∧ (xs.length = 0 → a.length = 0) := by
  have hl := nbL_ok (n := xs.length) (by omega) h
  have hlen := hl.1
  have h0 : ∀ y : Nat, y < xs.length → (rdB (List.replicate xs.length false) (y : Int) = true ↔ seenP (nbL xs.length st) 0 (y : Int)) := fun y hy => by
    constructor
    · intro q
      unfold rdB at q
      simp [List.getElem?_replicate, hy] at q
    · rintro ⟨j, j1, _⟩
      omega
  obtain ⟨a, a1, a2⟩ := specParts (N := N) hl hx hN xs.length 0 N [] (List.replicate xs.length false) (by omega) (by omega) (by simp [cntN]) (by simp) h0
  obtain ⟨b, b1, b2⟩ := implParts (N := N) hl hx hN xs.length 0 N [] (List.replicate xs.length false) (by omega) (by omega) (by simp [cntN]) (by simp) h0
  have hg : (ile 0 (tLen (nbL xs.length st)) && ile (tLen (nbL xs.length st)) (tLen (nbL xs.length st)) && fits (tLen (nbL xs.length st))) = true := by
    rw [tLen_n, hlen, ile_t (by omega), ile_t (Int.le_refl _), fits_ok (by omega)]
    rfl
  refine ⟨a, b, ?_, ?_, by omega, fun e => by rw [a2, e]; rfl⟩
  · unfold spec_l2Parts
    simp only []
    rw [l2Lists_eq (by omega) hs h hN, bind_some']
    simp only []
    rw [hg, chk_t, tLen_n, hlen, tRep_n]
    exact a1
  · unfold impl_parts
    rw [hg, chk_t, ile_f (by decide), br_f, tLen_n, hlen, tRep_n]
    exact b1
theorem Mixing_both {N : Nat} {g : Int × List (Int × Int)} (hx : g.2.length ≤ 1048576) (hN : 1048577 ≤ N) : ∀ (d k K : Nat), k + d = 6 → d < K → ∃ (v : Int) (b : Bool),
    spec_MixingColours_l0 N (fun x x1 => some ((x, x1, ()), ())) (fun (_ : Unit) => some ((0, false, ()), ())) K (k : Int) g.1 g.2 = some ((v, b, ()), ()) ∧ impl_MixingColours_l0 N (fun x x1 => some ((x, x1, ()), ())) (fun (_ : Unit) => some ((0, false, ()), ())) K (k : Int) g.1 g.2 = some ((v, b, ()), ()) := by
  intro d
  induction d with
  | zero =>
    intro k K hd hK
    obtain ⟨K, rfl⟩ := succ_of hK
    refine ⟨0, false, ?_, ?_⟩
    · simp only [spec_MixingColours_l0, ile_f (show ¬ (k : Int) ≤ 5 by omega), br_f]
    · simp only [impl_MixingColours_l0, ile_f (show ¬ (k : Int) ≤ 5 by omega), br_f]
  | succ d ih =>
    intro k K hd hK
    obtain ⟨K, rfl⟩ := succ_of hK
    obtain ⟨v, b, i1, i2⟩ := ih (k + 1) K (by omega) (by omega)
    have ew : IntKind.i64.wrap ((k : Int) + 1) = ((k + 1 : Nat) : Int) := wrap_succ (by omega)
    simp only [spec_MixingColours_l0, impl_MixingColours_l0, ile_t (show (k : Int) ≤ 5 by omega), br_t, show ((g.1, g.2) : Int × List (Int × Int)) = g from rfl, ew]
    rw [l5Space_ch hx hN, impl_ColSp hx hN, bind_some', bind_some']
    unfold colSpV
    by_cases h : colCase g (k : Int) ∧ (allC g (k : Int)).length ≤ 300
    · rw [if_pos h]
      simp only [Bool.not_true, br_f]
      have hst := colSteps_le h.1 h.2
      have hok := stepsL_ok (p := isCh) (xs := allC g (k : Int))
      obtain ⟨a, b', p1, p2, p3, p4⟩ := parts_both (N := N) (xs := allC g (k : Int)) (st := stepsL isCh (allC g (k : Int))) (by omega) (by omega) hok hN
      rw [sroads_eq (by omega) (by omega) hok hN, bind_some']
      simp only []
      rw [p2, bind_some']
      simp only []
      rw [tLen_n, tLen_n, ← p3]
      by_cases h1 : 0 < (allC g (k : Int)).length
      · rw [ilt_t (by omega), br_t, p1, bind_some']
        simp only []
        rw [tLen_n]
        by_cases h2 : a.length = 1
        · rw [ieq_t (by omega), br_t, br_t]
          exact ⟨_, _, rfl, rfl⟩
        · rw [ieq_f (by omega), br_f, br_f]
          exact ⟨v, b, i1, i2⟩
      · rw [ilt_f (by omega), br_f, p4 (by omega), ieq_f (by decide), br_f]
        exact ⟨v, b, i1, i2⟩
    · rw [if_neg h]
      exact ⟨0, false, rfl, rfl⟩
theorem MixingColours_pure {g : Int × List (Int × Int)} (hx : g.2.length ≤ 9223372036854775807) : laws_FnExactMixingColours 1048577 g = some ((true, ()), ()) := by
  unfold laws_FnExactMixingColours
  have hN : 1048577 ≤ 1048577 := Nat.le_refl _
  obtain ⟨r, h1, h2⟩ := szGraph_eq (N := 1048577) hx
  simp only [show ((g.1, g.2) : Int × List (Int × Int)) = g from rfl, h1, bind_some']
  by_cases h : 0 ≤ r
  · rw [ilt_f (by omega), br_f]
    have h3 := h2 h
    obtain ⟨v, b, e1, e2⟩ := Mixing_both (N := 1048577) h3 hN 5 1 1048577 (by omega) (by omega)
    have s1 : spec_MixingColours 1048577 g = some ((v, b, ()), ()) := e1
    have s2 : impl_MixingColours 1048577 g = some ((v, b, ()), ()) := e2
    simp only [toGraph_eq h3 hN, bind_some', s1, s2, ine_f (rfl : v = v), br_f, eqGraph_eq h3 hN, decide_true, Bool.not_true]
    simp [br_ite]
  · rw [ilt_t (by omega), br_t]
theorem MixingColours_pureT : ∀ x : argsT (psOf [QILQII]), WfA [QILQII] x → ∃ k m, (laws_FnExactMixingColours_S k).f x = some ((true, ()), m) :=
  fun x h => ⟨1048577, (), MixingColours_pure (len_ok h.1.2.1)⟩
end Go.Proofs.Ytgelipdkheahdaa
