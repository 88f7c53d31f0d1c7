/- Statements on data alone. -/
import Derived.Test.YtbnjcjpnpidhmaaPvPure
import Derived.Test.YtbnjcjpnpidhmaaKempeGa
set_option linter.all false
set_option linter.all false
namespace Go.Proofs.Ytbnjcjpnpidhmaa
open Go Go.PV Classical
def inM (m : Nat) (o : List Int) : Prop := o.Nodup ∧ ∀ z ∈ o, 0 ≤ z ∧ z < (m : Int)
theorem inM_len {m : Nat} {o : List Int} (h : inM m o) : o.length ≤ m := by
  have := nodup_le (b := (List.range m).map fun i : Nat => (i : Int)) h.1 fun z hz => by
    have := h.2 z hz
    exact List.mem_map.2 ⟨z.toNat, List.mem_range.2 (by omega), by omega⟩
  simpa using this
noncomputable def chainStep (A : Int → Prop) (o : List Int) (y : Int) : List Int := if A y ∧ y ∉ o then o ++ [y] else o
theorem chainStep_in {m : Nat} {A : Int → Prop} {o : List Int} {y : Int} (h : inM m o) (hy : 0 ≤ y ∧ y < (m : Int)) : inM m (chainStep A o y) := by
  unfold chainStep
  by_cases hc : A y ∧ y ∉ o
  · rw [if_pos hc]
    refine ⟨List.nodup_append.2 ⟨h.1, by simp, fun a ha b hb e => ?_⟩, fun z hz => ?_⟩
    · simp at hb
      rw [e, hb] at ha
      exact hc.2 ha
    · rcases List.mem_append.1 hz with hz | hz
      · exact h.2 z hz
      · simp at hz
        rw [hz]
        exact hy
  · rw [if_neg hc]; exact h
theorem chain_fold {m : Nat} {A : Int → Prop} {es : List (Int × Int)} {x u : Int} : ∀ (nb o : List Int), inM m o → (∀ y ∈ nb, 0 ≤ y ∧ y < (m : Int)) → (∀ y ∈ nb, nearG es u y) → u ∈ o → (∀ z ∈ o, Rch es A x z) →
    inM m (nb.foldl (chainStep A) o) ∧ (∃ t, nb.foldl (chainStep A) o = o ++ t) ∧ (∀ z ∈ nb.foldl (chainStep A) o, Rch es A x z) ∧ ∀ y ∈ nb, A y → y ∈ nb.foldl (chainStep A) o := by
  intro nb
  induction nb with
  | nil => intro o h _ _ _ hr; exact ⟨h, ⟨[], by simp⟩, hr, by simp⟩
  | cons y nb ih =>
    intro o h hn hu huo hr
    have hy := hn y (List.mem_cons_self ..)
    have hpre : ∃ t, chainStep A o y = o ++ t := by
      unfold chainStep
      by_cases hc : A y ∧ y ∉ o
      · rw [if_pos hc]; exact ⟨[y], rfl⟩
      · rw [if_neg hc]; exact ⟨[], by simp⟩
    obtain ⟨t, ht⟩ := hpre
    obtain ⟨r1, ⟨t', r2⟩, r3, r4⟩ := ih (chainStep A o y) (chainStep_in h hy) (fun z hz => hn z (List.mem_cons_of_mem _ hz)) (fun z hz => hu z (List.mem_cons_of_mem _ hz)) (by rw [ht]; exact List.mem_append_left _ huo) (fun z hz => by
      unfold chainStep at hz
      by_cases hc : A y ∧ y ∉ o
      · rw [if_pos hc] at hz
        rcases List.mem_append.1 hz with hz | hz
        · exact hr z hz
        · simp at hz
          rw [hz]
          exact .step (hr u huo) (hu y (List.mem_cons_self ..)) hc.1
      · rw [if_neg hc] at hz
        exact hr z hz)
    refine ⟨r1, ⟨t ++ t', by rw [List.foldl_cons, r2, ht, List.append_assoc]⟩, r3, fun z hz hA => ?_⟩
    rcases List.mem_cons.1 hz with rfl | hz
    · rw [List.foldl_cons, r2]
      refine List.mem_append_left _ ?_
      unfold chainStep
      by_cases hc : z ∉ o
      · rw [if_pos ⟨hA, hc⟩]; simp
      · rw [if_neg (fun h => hc h.2)]; exact Decidable.not_not.1 hc
    · exact r4 z hz hA
theorem chain_in_eq {R : Type} {N : Nat} (k0 : List Int → Int → Int → Int → Int → List (Int × Int) → List Int → Option R) {cs nb out : List Int} {c own i : Int} {m : Nat} {es : List (Int × Int)} (hm : m ≤ 8) (hcs : (cs.length : Int) = m) (ho : inM m out) (hnb : ∀ y ∈ nb, 0 ≤ y ∧ y < (m : Int)) (hl : nb.length ≤ 1048576) (hN : 1048577 ≤ N) :
    impl_Graph_chain_l0_0 N k0 N cs c own i (nb.length : Int) 0 (m : Int) es out nb = k0 cs c own i (m : Int) es (nb.foldl (chainStep fun y => rdI cs y = own ∨ rdI cs y = c) out) := by
  refine (loop_list (xs := nb) (L := fun K n o => impl_Graph_chain_l0_0 N k0 K cs c own i (nb.length : Int) n (m : Int) es o nb) (k := fun o => k0 cs c own i (m : Int) es o) (chainStep fun y => rdI cs y = own ∨ rdI cs y = c) (fun _ o => inM m o) (fun K n s hn _ => ?_) (fun K n s hn hs => ?_) (fun n s hn h => chainStep_in h (hnb _ (List.getElem_mem hn))) (s := out) (K := N) (by omega) ho).1
  · simp only [impl_Graph_chain_l0_0, ilt_nf hn, br_f]
  · have hy := hnb _ (List.getElem_mem hn)
    have hsl := inM_len hs
    simp only [impl_Graph_chain_l0_0, ilt_n hn, br_t, inb_n hn, chk_t]
    rw [rdI_n hn, inb_i (by omega) (by omega), chk_t, chk_t, Contains_eq (by omega) hN, wrap_succ (by omega), room_ok (by simp; omega), chk_t]
    simp only [bind_some']
    unfold chainStep
    have hfin : br (!decide (nb[n] ∈ s)) (impl_Graph_chain_l0_0 N k0 K cs c own i (nb.length : Int) ((n + 1 : Nat) : Int) (m : Int) es (tApp s [nb[n]]) nb) (impl_Graph_chain_l0_0 N k0 K cs c own i (nb.length : Int) ((n + 1 : Nat) : Int) (m : Int) es s nb) = impl_Graph_chain_l0_0 N k0 K cs c own i (nb.length : Int) ((n + 1 : Nat) : Int) (m : Int) es (if nb[n] ∉ s then s ++ [nb[n]] else s) nb := by
      by_cases h : nb[n] ∈ s
      · rw [decide_eq_true h, Bool.not_true, br_f, if_neg (fun h' => h' h)]
      · rw [decide_eq_false h, Bool.not_false, br_t, if_pos h]
        rfl
    by_cases h1 : rdI cs nb[n] = own
    · rw [ieq_t h1, br_t, hfin]
      congr 1
      by_cases h : nb[n] ∉ s
      · rw [if_pos h, if_pos ⟨.inl h1, h⟩]
      · rw [if_neg h, if_neg (fun h' => h h'.2)]
    · rw [ieq_f h1, br_f]
      by_cases h2 : rdI cs nb[n] = c
      · rw [ieq_t h2, br_t, hfin]
        congr 1
        by_cases h : nb[n] ∉ s
        · rw [if_pos h, if_pos ⟨.inr h2, h⟩]
        · rw [if_neg h, if_neg (fun h' => h h'.2)]
      · rw [ieq_f h2, br_f, if_neg (fun h' => h'.1.elim h1 h2)]
theorem chain_ex {R : Type} {N : Nat} (k0 : List Int → Option R) {cs : List Int} {c own x : Int} {m : Nat} {es : List (Int × Int)} (hm : m ≤ 8) (hg : goodG ((m : Int), es)) (hx : es.length ≤ 1048576) (hcs : (cs.length : Int) = m) (hN : 1048577 ≤ N) : ∀ (d i K : Nat) (out : List Int), i + d = m → d < K → inM m out → x ∈ out → (∀ z ∈ out, Rch es (fun y => rdI cs y = own ∨ rdI cs y = c) x z) →
    (∀ j (h : j < out.length), j < i → ∀ z, nearG es out[j] z → (rdI cs z = own ∨ rdI cs z = c) → z ∈ out) →
    ∃ o', inM m o' ∧ (∀ z, z ∈ o' ↔ Rch es (fun y => rdI cs y = own ∨ rdI cs y = c) x z) ∧ impl_Graph_chain_l0 N k0 K cs c own i (m : Int) es out = k0 o' := by
  intro d
  have fin : ∀ (i K : Nat) (out : List Int), 0 < K → ¬ i < out.length → inM m out → x ∈ out → (∀ z ∈ out, Rch es (fun y => rdI cs y = own ∨ rdI cs y = c) x z) →
      (∀ j (h : j < out.length), j < i → ∀ z, nearG es out[j] z → (rdI cs z = own ∨ rdI cs z = c) → z ∈ out) →
      ∃ o', inM m o' ∧ (∀ z, z ∈ o' ↔ Rch es (fun y => rdI cs y = own ∨ rdI cs y = c) x z) ∧ impl_Graph_chain_l0 N k0 K cs c own i (m : Int) es out = k0 o' := by
    intro i K out hK hi ho hxo hr hcl
    obtain ⟨k, rfl⟩ := succ_of hK
    refine ⟨out, ho, fun z => ⟨hr z, fun hz => ?_⟩, ?_⟩
    · induction hz with
      | base => exact hxo
      | step _ hn hA ih =>
        obtain ⟨j, hj, e⟩ := List.mem_iff_getElem.1 ih
        exact hcl j hj (by omega) _ (by rw [e]; exact hn) hA
    · simp only [impl_Graph_chain_l0, ilt_lenf hi, br_f]
  induction d with
  | zero =>
    intro i K out hd hK ho hxo hr hcl
    have := inM_len ho
    exact fin i K out (by omega) (by omega) ho hxo hr hcl
  | succ d ih =>
    intro i K out hd hK ho hxo hr hcl
    by_cases hi : i < out.length
    · obtain ⟨k, rfl⟩ := succ_of hK
      have hnbr : ∀ y ∈ nbr m es out[i], 0 ≤ y ∧ y < (m : Int) := fun y hy => by
        obtain ⟨q, hq, _, rfl⟩ := mem_nbr.1 hy
        omega
      have hnl := nbr_len m es out[i]
      obtain ⟨f1, ⟨t, f2⟩, f3, f4⟩ := chain_fold (m := m) (A := fun y => rdI cs y = own ∨ rdI cs y = c) (es := es) (x := x) (u := out[i]) (nbr m es out[i]) out ho hnbr (fun y hy => by
        obtain ⟨q, hq, h, rfl⟩ := mem_nbr.1 hy
        exact h) (List.getElem_mem hi) hr
      obtain ⟨o', o1, o2, o3⟩ := ih (i + 1) k _ (by omega) (by omega) f1 (by rw [f2]; exact List.mem_append_left _ hxo) f3 (fun j hj hji z hz hA => by
        by_cases hjl : j < out.length
        · have e : ((nbr m es out[i]).foldl (chainStep fun y => rdI cs y = own ∨ rdI cs y = c) out)[j] = out[j] := by
            simp only [f2]
            exact List.getElem_append_left hjl
          rw [e] at hz
          by_cases hje : j = i
          · subst hje
            refine f4 z (mem_nbr.2 ?_) hA
            obtain ⟨_, b1, b2⟩ := near_in hg hz
            simp only at b2
            exact ⟨z.toNat, by omega, by rw [show ((z.toNat : Nat) : Int) = z by omega]; exact hz, by omega⟩
          · rw [f2]
            exact List.mem_append_left _ (hcl j hjl (by omega) z hz hA)
        · omega)
      refine ⟨o', o1, o2, ?_⟩
      simp only [impl_Graph_chain_l0, ilt_len hi, br_t, inb_n hi, chk_t]
      rw [rdI_n hi, neighbors_eq hg hx hN]
      simp only [bind_some', tLen_n (nbr m es out[i])]
      rw [chain_in_eq _ hm hcs ho hnbr (by omega) hN, wrap_succ (by omega)]
      exact o3
    · exact fin i K out (by omega) hi ho hxo hr hcl
noncomputable def someL (m : Nat) (cs : List Int) (own c : Int) : List Int := ((List.range' 0 m).filter fun i : Nat => decide (rdI cs (i : Int) = own ∨ rdI cs (i : Int) = c)).map (fun i : Nat => (i : Int))
theorem mem_someL {m : Nat} {cs : List Int} {own c y : Int} : y ∈ someL m cs own c ↔ (0 ≤ y ∧ y < (m : Int)) ∧ (rdI cs y = own ∨ rdI cs y = c) := by
  unfold someL
  rw [List.mem_map]
  constructor
  · rintro ⟨i, hi, rfl⟩
    obtain ⟨h1, h2⟩ := List.mem_filter.1 hi
    have := List.mem_range'_1.1 h1
    exact ⟨by omega, of_decide_eq_true h2⟩
  · rintro ⟨h1, h2⟩
    refine ⟨y.toNat, List.mem_filter.2 ⟨List.mem_range'_1.2 (by omega), decide_eq_true ?_⟩, by omega⟩
    rw [show ((y.toNat : Nat) : Int) = y by omega]
    exact h2
noncomputable def chainR (m : Nat) (es : List (Int × Int)) (cs : List Int) (x c : Int) : List Int := reachS es (someL m cs (rdI cs x) c) x
theorem someL_len (m : Nat) (cs : List Int) (own c : Int) : (someL m cs own c).length ≤ m := by
  unfold someL
  rw [List.length_map]
  exact Nat.le_trans (List.length_filter_le ..) (by simp)
theorem spec_chain_eq {N : Nat} {m : Nat} {es : List (Int × Int)} {cs : List Int} {x c : Int} (hm : m ≤ 8) (hx : es.length ≤ 1048576) (hcs : (cs.length : Int) = m) (hxm : 0 ≤ x ∧ x < (m : Int)) (hN : 1048577 ≤ N) : spec_l5Chain N ((m : Int), es) cs x c = some ((chainR m es cs x c, ()), ()) := by
  unfold spec_l5Chain
  have hsl := someL_len m cs (rdI cs x) c
  refine (loop_iter (L := fun K n o => spec_l5Chain_l0 N (fun x1 o o1 o2 => ((spec_l2Reach N (o, o1) o2 x1).bind fun r => some ((r.1.1, ()), ()))) K cs x c n (m : Int) es o) (k := fun o => ((spec_l2Reach N ((m : Int), es) o x).bind fun r => some ((r.1.1, ()), ()))) (Inv := fun n o => o.length ≤ n) (step := fun n o => if rdI cs (n : Int) = rdI cs x ∨ rdI cs (n : Int) = c then o ++ [(n : Int)] else o) (fun K n s hn _ => ?_) (fun K n s hn hs => ?_) (fun n s hn h => ?_) (s := []) (m := m) (K := N) (by omega) (Nat.zero_le _)).trans ?_
  · simp only [spec_l5Chain_l0, ilt_nf hn, br_f]
  · simp only [spec_l5Chain_l0, ilt_n hn, br_t]
    rw [inb_n (by omega), chk_t, wrap_succ (by omega), room_ok (by simp; omega), chk_t, chk_t, inb_i (by omega) (by omega), chk_t]
    by_cases h1 : rdI cs (n : Int) = c
    · rw [ieq_t h1, br_t, if_pos (Or.inr h1)]
      rfl
    · rw [ieq_f h1, br_f]
      by_cases h2 : rdI cs (n : Int) = rdI cs x
      · rw [ieq_t h2, br_t, if_pos (Or.inl h2)]
        rfl
      · rw [ieq_f h2, br_f, if_neg (fun h => h.elim h2 h1)]
  · by_cases hc : rdI cs (n : Int) = rdI cs x ∨ rdI cs (n : Int) = c
    · rw [if_pos hc]; simp; omega
    · rw [if_neg hc]; omega
  · rw [iter_app, List.nil_append]
    show ((spec_l2Reach N ((m : Int), es) (someL m cs (rdI cs x) c) x).bind fun r => some ((r.1.1, ()), ())) = _
    rw [l2Reach_eq hx (by omega) (mem_someL.2 ⟨hxm, .inl rfl⟩) hN]
    rfl
theorem impl_chain_eq {N : Nat} {m : Nat} {es : List (Int × Int)} {cs : List Int} {x c : Int} (hm : m ≤ 8) (hg : goodG ((m : Int), es)) (hx : es.length ≤ 1048576) (hcs : (cs.length : Int) = m) (hxm : 0 ≤ x ∧ x < (m : Int)) (hN : 1048577 ≤ N) : impl_Graph_chain N ((m : Int), es) cs x c = some ((chainR m es cs x c, ()), ()) := by
  unfold impl_Graph_chain
  rw [inb_i hxm.1 (by omega), chk_t]
  obtain ⟨o', h1, h2, h3⟩ := chain_ex (N := N) (fun o => ((slices_Sort_LI_int N o).bind fun r => some ((r.2.1, ()), ()))) (cs := cs) (c := c) (own := rdI cs x) (x := x) hm hg hx hcs hN m 0 N [x] (by omega) (by omega) ⟨by simp, fun z hz => by simp at hz; rw [hz]; exact hxm⟩ (by simp) (fun z hz => by simp at hz; rw [hz]; exact .base) (fun j hj hj0 => by omega)
  rw [show ((0 : Nat) : Int) = 0 from rfl] at h3
  have hl := inM_len h1
  rw [h3, Sort_eq (by omega) hN]
  simp only [bind_some']
  have hxs : x ∈ someL m cs (rdI cs x) c := mem_someL.2 ⟨hxm, .inl rfl⟩
  obtain ⟨s1, s2⟩ := reachS_spec (es := es) hxs
  rw [show sortI o' = chainR m es cs x c from strict_ext (sortI_strict h1.1) s1 fun z => by
    rw [sortI_mem, h2, show z ∈ chainR m es cs x c ↔ _ from s2 z]
    constructor
    · exact Rch_congr fun y z hn hA => by
        obtain ⟨_, b⟩ := near_in hg hn
        exact mem_someL.2 ⟨b, hA⟩
    · exact Rch_congr fun y z hn hA => (mem_someL.1 hA).2]
theorem chainR_len {m : Nat} {es : List (Int × Int)} {cs : List Int} {x c : Int} (hxm : 0 ≤ x ∧ x < (m : Int)) : (chainR m es cs x c).length ≤ m := by
  have hxs : x ∈ someL m cs (rdI cs x) c := mem_someL.2 ⟨hxm, .inl rfl⟩
  obtain ⟨s1, s2⟩ := reachS_spec (es := es) hxs
  exact Nat.le_trans (nodup_le (strict_nodup s1) fun z hz => Rch_in hxs ((s2 z).1 hz)) (someL_len ..)
def spotOk (g : Int × List (Int × Int)) (k : Int) (cs : List Int) (x c : Int) : Prop := (colCase g k ∧ proper g k cs) ∧ (0 ≤ x ∧ x ≤ g.1 - 1) ∧ 0 ≤ c ∧ c ≤ k - 1
theorem l5Spot_eq {N : Nat} {g : Int × List (Int × Int)} {k x c : Int} {cs : List Int} (hx : g.2.length ≤ 1048576) (hcs : cs.length ≤ 1048576) (hN : 1048577 ≤ N) : spec_l5Spot N g k cs x c = some ((decide (spotOk g k cs x c), ()), ()) := by
  unfold spec_l5Spot spec_l5Given
  simp only [l5Ask_eq hx hN, bind_some', l1In_eq]
  by_cases h1 : colCase g k
  · have hm := h1.1.1
    have hk := h1.2
    rw [decide_eq_true h1, br_t, l5Proper_eq h1 hx hcs hN, wrap_ok (show -9223372036854775808 ≤ g.1 - 1 by omega) (by omega), wrap_ok (show -9223372036854775808 ≤ k - 1 by omega) (by omega)]
    simp only [bind_some']
    by_cases h2 : proper g k cs
    · rw [decide_eq_true h2, br_t]
      by_cases h3 : 0 ≤ x ∧ x ≤ g.1 - 1
      · rw [decide_eq_true h3, br_t]
        congr 3
        exact decide_eq_decide.2 ⟨fun h => ⟨⟨h1, h2⟩, h3, h⟩, fun h => h.2.2⟩
      · rw [decide_eq_false h3, br_f, decide_eq_false (show ¬ spotOk g k cs x c from fun h => h3 h.2.1)]
    · rw [decide_eq_false h2, br_f, decide_eq_false (show ¬ spotOk g k cs x c from fun h => h2 h.1.2)]
  · rw [decide_eq_false h1, br_f]
    simp only [bind_some', br_f]
    rw [decide_eq_false (show ¬ spotOk g k cs x c from fun h => h1 h.1.1)]
theorem isSpot_eq {N : Nat} {g : Int × List (Int × Int)} {k x c : Int} {cs : List Int} (hx : g.2.length ≤ 1048576) (hcs : cs.length ≤ 1048576) (hN : 1048577 ≤ N) : impl_isSpot N g k cs x c = some ((decide (spotOk g k cs x c), ()), ()) := by
  unfold impl_isSpot impl_isColoured
  simp only [isColourCase_eq hx hN, bind_some', between_eq]
  by_cases h1 : colCase g k
  · have hm := h1.1.1
    have hk := h1.2
    rw [decide_eq_true h1, br_t, ContainsFunc_LLI_LI_eq (g := fun c => !decide (proper g k c)) (fun c h => by
      simp only [List.mem_singleton] at h
      subst h
      have := impl_isColouring_eq h1 hx hcs hN
      simp only [impl_isColoured_c1, this, bind_some']) (by simp) (by simp; omega), wrap_ok (show -9223372036854775808 ≤ g.1 - 1 by omega) (by omega), wrap_ok (show -9223372036854775808 ≤ k - 1 by omega) (by omega)]
    simp only [bind_some']
    by_cases h2 : proper g k cs
    · rw [show ([cs].any fun c => !decide (proper g k c)) = false by simp [h2], Bool.not_false, br_t]
      by_cases h3 : 0 ≤ x ∧ x ≤ g.1 - 1
      · rw [decide_eq_true h3, br_t]
        congr 3
        exact decide_eq_decide.2 ⟨fun h => ⟨⟨h1, h2⟩, h3, h⟩, fun h => h.2.2⟩
      · rw [decide_eq_false h3, br_f, decide_eq_false (show ¬ spotOk g k cs x c from fun h => h3 h.2.1)]
    · rw [show ([cs].any fun c => !decide (proper g k c)) = true by simp [h2], Bool.not_true, br_f, decide_eq_false (show ¬ spotOk g k cs x c from fun h => h2 h.1.2)]
  · rw [decide_eq_false h1, br_f]
    simp only [bind_some', br_f]
    rw [decide_eq_false (show ¬ spotOk g k cs x c from fun h => h1 h.1.1)]
noncomputable def chainV (g : Int × List (Int × Int)) (k : Int) (cs : List Int) (x c : Int) : List Int × Bool := if spotOk g k cs x c then (chainR g.1.toNat g.2 cs x c, true) else ([], false)
theorem ChainOf_both {N : Nat} {g : Int × List (Int × Int)} {k x c : Int} {cs : List Int} (hx : g.2.length ≤ 1048576) (hcs : cs.length ≤ 1048576) (hN : 1048577 ≤ N) : (chainV g k cs x c).1.length ≤ 8 ∧ spec_ChainOf N g k cs x c = some (((chainV g k cs x c).1, (chainV g k cs x c).2, ()), ()) ∧ impl_ChainOf N g k cs x c = some (((chainV g k cs x c).1, (chainV g k cs x c).2, ()), ()) := by
  unfold spec_ChainOf impl_ChainOf chainV
  simp only [l5Spot_eq hx hcs hN, isSpot_eq hx hcs hN, bind_some']
  by_cases h : spotOk g k cs x c
  · rw [decide_eq_true h, Bool.not_true, br_f, br_f, if_pos h]
    obtain ⟨m0, es⟩ := g
    have hm := h.1.1.1.1
    have hxm := h.2.1
    have hl := h.1.2.1
    simp only at hx hm hxm hl
    obtain ⟨m, rfl⟩ : ∃ m : Nat, m0 = m := ⟨m0.toNat, by omega⟩
    rw [spec_chain_eq (by omega) hx hl (by omega) hN, impl_chain_eq (by omega) h.1.1.1 hx hl (by omega) hN, Int.toNat_natCast]
    have := chainR_len (m := m) (es := es) (cs := cs) (x := x) (c := c) (by omega)
    exact ⟨by simp only; omega, rfl, rfl⟩
  · rw [decide_eq_false h, Bool.not_false, br_t, br_t, if_neg h]
    exact ⟨Nat.zero_le _, rfl, rfl⟩
theorem chainR_mem {m : Nat} {es : List (Int × Int)} {cs : List Int} {x c y : Int} (hxm : 0 ≤ x ∧ x < (m : Int)) (h : y ∈ chainR m es cs x c) : (0 ≤ y ∧ y < (m : Int)) ∧ (rdI cs y = rdI cs x ∨ rdI cs y = c) := by
  have hxs : x ∈ someL m cs (rdI cs x) c := mem_someL.2 ⟨hxm, .inl rfl⟩
  obtain ⟨s1, s2⟩ := reachS_spec (es := es) hxs
  exact mem_someL.1 (Rch_in hxs ((s2 y).1 h))
noncomputable def kStep (cs : List Int) (own c : Int) (o : List Int) (y : Int) : List Int := tSet o y (if rdI cs y = own then c else own)
noncomputable def kempeR (m : Nat) (es : List (Int × Int)) (cs : List Int) (x c : Int) : List Int := (chainR m es cs x c).foldl (kStep cs (rdI cs x) c) cs
theorem kStep_len (cs : List Int) (own c : Int) (o : List Int) (y : Int) : (kStep cs own c o y).length = o.length := by
  unfold kStep tSet
  exact List.length_set
theorem kempeR_len (m : Nat) (es : List (Int × Int)) (cs : List Int) (x c : Int) : (kempeR m es cs x c).length = cs.length := by
  have go : ∀ (l o : List Int), (l.foldl (kStep cs (rdI cs x) c) o).length = o.length := by
    intro l
    induction l with
    | nil => intro o; rfl
    | cons y l ih => intro o; rw [List.foldl_cons, ih, kStep_len]
  exact go _ _
theorem spec_kempe_eq {N : Nat} {m : Nat} {es : List (Int × Int)} {cs : List Int} {x c : Int} (hm : m ≤ 8) (hx : es.length ≤ 1048576) (hcs : (cs.length : Int) = m) (hxm : 0 ≤ x ∧ x < (m : Int)) (hc : 0 ≤ c ∧ c ≤ 4) (hcol : ∀ z ∈ cs, 0 ≤ z ∧ z ≤ 4) (hN : 1048577 ≤ N) : spec_l5Kempe N ((m : Int), es) cs x c = some ((kempeR m es cs x c, ()), ()) := by
  unfold spec_l5Kempe
  have hl := chainR_len (es := es) (cs := cs) (c := c) hxm
  have hcl : ∀ y : Int, 0 ≤ y ∧ y < (m : Int) → 0 ≤ rdI cs y ∧ rdI cs y ≤ 4 := fun y hy => by
    obtain ⟨n, rfl⟩ : ∃ n : Nat, y = n := ⟨y.toNat, by omega⟩
    have hn : n < cs.length := by omega
    rw [rdI_n hn]
    exact hcol _ (List.getElem_mem hn)
  simp only [l1Own_eq (show cs.length ≤ 1048576 by omega), spec_chain_eq hm hx hcs hxm hN, bind_some']
  refine (loop_list (xs := chainR m es cs x c) (L := fun K n o => spec_l5Kempe_l0 N (fun o => some ((o, ()), ())) K cs x c n o (chainR m es cs x c)) (k := fun o => some ((o, ()), ())) (kStep cs (rdI cs x) c) (fun _ o => o.length = cs.length) (fun K n s hn _ => ?_) (fun K n s hn hs => ?_) (fun n s hn h => by rw [kStep_len]; exact h) (s := cs) (K := N) (by omega) rfl).1
  · simp only [spec_l5Kempe_l0, ilt_lenf hn, br_f]
  · obtain ⟨hy, hyc⟩ := chainR_mem hxm (List.getElem_mem hn)
    have c1 := hcl _ hy
    have c2 := hcl _ hxm
    simp only [spec_l5Kempe_l0, ilt_len hn, br_t, inb_n hn, chk_t, rdI_n hn]
    rw [inb_i hxm.1 (by omega), chk_t, inb_i hy.1 (by omega), chk_t, inb_i hy.1 (by omega), chk_t, wrap_succ (by omega), wrap_ok (show -9223372036854775808 ≤ rdI cs x + c by omega) (by omega), wrap_ok (by omega) (by omega)]
    unfold kStep
    by_cases h : rdI cs (chainR m es cs x c)[n] = rdI cs x
    · rw [if_pos h, h, show rdI cs x + c - rdI cs x = c by omega]
    · rw [if_neg h, hyc.resolve_left h, show rdI cs x + c - c = rdI cs x by omega]
theorem impl_kempe_eq {N : Nat} {m : Nat} {es : List (Int × Int)} {cs : List Int} {x c : Int} (hm : m ≤ 8) (hg : goodG ((m : Int), es)) (hx : es.length ≤ 1048576) (hcs : (cs.length : Int) = m) (hxm : 0 ≤ x ∧ x < (m : Int)) (hN : 1048577 ≤ N) : impl_Graph_kempe N ((m : Int), es) cs x c = some ((kempeR m es cs x c, ()), ()) := by
  unfold impl_Graph_kempe
  have hl := chainR_len (es := es) (cs := cs) (c := c) hxm
  simp only [Clone_eq (show cs.length ≤ 1048576 by omega), impl_chain_eq hm hg hx hcs hxm hN, bind_some', tLen_n]
  rw [inb_i hxm.1 (by omega), chk_t]
  refine (loop_list (xs := chainR m es cs x c) (L := fun K n o => impl_Graph_kempe_l0 N (fun o => some ((o, ()), ())) K cs c (rdI cs x) ((chainR m es cs x c).length : Int) n o (chainR m es cs x c)) (k := fun o => some ((o, ()), ())) (kStep cs (rdI cs x) c) (fun _ o => o.length = cs.length) (fun K n s hn _ => ?_) (fun K n s hn hs => ?_) (fun n s hn h => by rw [kStep_len]; exact h) (s := cs) (K := N) (by omega) rfl).1
  · simp only [impl_Graph_kempe_l0, ilt_nf hn, br_f]
  · obtain ⟨hy, hyc⟩ := chainR_mem hxm (List.getElem_mem hn)
    simp only [impl_Graph_kempe_l0, ilt_n hn, br_t, inb_n hn, chk_t, rdI_n hn]
    rw [inb_i hy.1 (by omega), chk_t, inb_i hy.1 (by omega), chk_t, chk_t, wrap_succ (by omega)]
    unfold kStep
    by_cases h : rdI cs (chainR m es cs x c)[n] = rdI cs x
    · rw [ieq_t h, br_t, if_pos h]
    · rw [ieq_f h, br_f, if_neg h]
noncomputable def kempeV (g : Int × List (Int × Int)) (k : Int) (cs : List Int) (x c : Int) : List Int × Bool := if spotOk g k cs x c ∧ rdI cs x ≠ c then (kempeR g.1.toNat g.2 cs x c, true) else ([], false)
theorem Kempe_both {N : Nat} {g : Int × List (Int × Int)} {k x c : Int} {cs : List Int} (hx : g.2.length ≤ 1048576) (hcs : cs.length ≤ 1048576) (hN : 1048577 ≤ N) : (kempeV g k cs x c).1.length ≤ 8 ∧ spec_KempeChange N g k cs x c = some (((kempeV g k cs x c).1, (kempeV g k cs x c).2, ()), ()) ∧ impl_KempeChange N g k cs x c = some (((kempeV g k cs x c).1, (kempeV g k cs x c).2, ()), ()) := by
  unfold spec_KempeChange impl_KempeChange kempeV
  simp only [l5Spot_eq hx hcs hN, isSpot_eq hx hcs hN, bind_some']
  by_cases h : spotOk g k cs x c
  · rw [decide_eq_true h, Bool.not_true, br_f, br_f]
    obtain ⟨m0, es⟩ := g
    have hm := h.1.1.1.1
    have hxm := h.2.1
    have hl := h.1.2.1
    have hk := h.1.1.2
    have hc := h.2.2
    simp only at hx hm hxm hl
    obtain ⟨m, rfl⟩ : ∃ m : Nat, m0 = m := ⟨m0.toNat, by omega⟩
    have hcol : ∀ z ∈ cs, 0 ≤ z ∧ z ≤ 4 := fun z hz => by have := h.1.2.2.1 z hz; omega
    rw [inb_i hxm.1 (by omega), chk_t, chk_t]
    by_cases he : rdI cs x = c
    · rw [ieq_t he, br_t, br_t, if_neg (fun h' => h'.2 he)]
      exact ⟨Nat.zero_le _, rfl, rfl⟩
    · rw [ieq_f he, br_f, br_f, if_pos ⟨h, he⟩, spec_kempe_eq (by omega) hx hl (by omega) (by omega) hcol hN, impl_kempe_eq (by omega) h.1.1.1 hx hl (by omega) hN, Int.toNat_natCast]
      have := kempeR_len m es cs x c
      exact ⟨by simp only; omega, rfl, rfl⟩
  · rw [decide_eq_false h, Bool.not_false, br_t, br_t, if_neg (fun h' => h h'.1)]
    exact ⟨Nat.zero_le _, rfl, rfl⟩
def stepsC (f : Nat → List (List Int) → List (List Int)) : Nat → Nat → List (List Int) → List (List Int)
  | 0, _, l => l
  | r + 1, c, l => if l.length ≤ 300 then stepsC f r (c + 1) (f c l) else l
def freeC (es : List (Int × Int)) (b : List Int) (c : Int) : Prop := ∀ y : Nat, y < b.length → ¬ (rdI b y = c ∧ nearG es y (b.length : Int))
noncomputable def moreC (k : Nat) (es : List (Int × Int)) : Nat → List Int → List (List Int) → List (List Int)
  | 0, b, l => l ++ [b]
  | d + 1, b, l => stepsC (fun c l => if freeC es b (c : Int) then moreC k es d (b ++ [(c : Int)]) l else l) k 0 l
theorem stepsC_inv {f : Nat → List (List Int) → List (List Int)} {p : List (List Int) → Prop} (h : ∀ c l, l.length ≤ 300 → p l → p (f c l)) : ∀ (r c : Nat) (l : List (List Int)), p l → p (stepsC f r c l) := by
  intro r
  induction r with
  | zero => intro c l hl; exact hl
  | succ r ih =>
    intro c l hl
    unfold stepsC
    by_cases h3 : l.length ≤ 300
    · rw [if_pos h3]; exact ih _ _ (h c l h3 hl)
    · rw [if_neg h3]; exact hl
theorem moreC_len {k : Nat} {es : List (Int × Int)} : ∀ (d : Nat) (b : List Int) (l : List (List Int)), l.length ≤ 300 → (moreC k es d b l).length ≤ 301 := by
  intro d
  induction d with
  | zero => intro b l h; simp [moreC]; omega
  | succ d ih =>
    intro b l h
    unfold moreC
    refine stepsC_inv (p := fun l => l.length ≤ 301) (fun c l h1 h2 => ?_) k 0 l (by omega)
    by_cases hf : freeC es b (c : Int)
    · rw [if_pos hf]; exact ih _ _ h1
    · rw [if_neg hf]; exact h2
theorem moreC_rows {k : Nat} {es : List (Int × Int)} {m : Nat} : ∀ (d : Nat) (b : List Int) (l : List (List Int)), b.length + d = m → (∀ x ∈ l, x.length = m) → ∀ x ∈ moreC k es d b l, x.length = m := by
  intro d
  induction d with
  | zero =>
    intro b l hb h x hx
    simp only [moreC, List.mem_append, List.mem_singleton] at hx
    rcases hx with hx | rfl
    · exact h x hx
    · omega
  | succ d ih =>
    intro b l hb h
    unfold moreC
    refine stepsC_inv (p := fun l => ∀ x ∈ l, x.length = m) (fun c l h1 h2 => ?_) k 0 l h
    by_cases hf : freeC es b (c : Int)
    · rw [if_pos hf]; exact ih _ _ (by simp; omega) h2
    · rw [if_neg hf]; exact h2
theorem l5More_l0_0_eq {R : Type} {N : Nat} (hN : 1048577 ≤ N) {slf : (Int × List (Int × Int)) → Int → List Int → List (List Int) → Option ((List (List Int) × Unit) × Unit)} {k0 : Int → List Int → Int → Bool → Int → Bool → List (List Int) → Int → List (Int × Int) → Option R}
    {k c : Int} {b : List Int} {a : Int} {z : Bool} {o : List (List Int)} {m : Int} {es : List (Int × Int)} (hx : es.length ≤ 1048576) (hb : b.length ≤ 1048576) : ∀ (d n K : Nat) (f : Bool), n + d = b.length → d < K →
    spec_l5More_l0_0 N slf k0 K k b c f (n : Int) a z o m es = k0 k b c (f && decide (∀ y : Nat, n ≤ y → y < b.length → ¬ (rdI b y = c ∧ nearG es y (b.length : Int)))) a z o m es := by
  intro d
  induction d with
  | zero =>
    intro n K f hd hK
    obtain ⟨K, rfl⟩ := succ_of hK
    simp only [spec_l5More_l0_0, ilt_lenf (show ¬ n < b.length by omega), br_f]
    rw [decide_eq_true (fun y h1 h2 => by omega), Bool.and_true]
  | succ d ih =>
    intro n K f hd hK
    obtain ⟨K, rfl⟩ := succ_of hK
    have hn : n < b.length := by omega
    simp only [spec_l5More_l0_0, ilt_len hn, br_t, inb_n hn, chk_t]
    rw [wrap_succ (by omega), ih (n + 1) K false (by omega) (by omega), ih (n + 1) K true (by omega) (by omega), l2Near_eq (g := (m, es)) hx hN, bind_some', ih (n + 1) K _ (by omega) (by omega)]
    cases f with
    | false => simp [br_f]
    | true =>
      rw [br_t]
      by_cases h1 : rdI b n = c
      · rw [ine_f h1, br_f]
        congr 1
        rw [Bool.true_and]
        by_cases h2 : nearG es n (b.length : Int)
        · have : ¬ ∀ y : Nat, n ≤ y → y < b.length → ¬ (rdI b y = c ∧ nearG es y (b.length : Int)) := fun h => h n (Nat.le_refl _) hn ⟨h1, h2⟩
          rw [decide_eq_false this, tLen_n, decide_eq_true h2]
          rfl
        · rw [tLen_n, decide_eq_false h2, Bool.not_false, Bool.true_and]
          refine decide_eq_decide.2 ⟨fun h y h3 h4 h5 => ?_, fun h y h3 h4 => h y (by omega) h4⟩
          by_cases e : y = n
          · subst e; exact h2 h5.2
          · exact h y (by omega) h4 h5
      · rw [ine_t h1, br_t]
        congr 1
        rw [Bool.true_and, Bool.true_and]
        refine decide_eq_decide.2 ⟨fun h y h3 h4 h5 => ?_, fun h y h3 h4 => h y (by omega) h4⟩
        by_cases e : y = n
        · subst e; exact h1 h5.1
        · exact h y (by omega) h4 h5
theorem l5More_eq {N : Nat} (hN : 1048577 ≤ N) {k m : Nat} {es : List (Int × Int)} (hx : es.length ≤ 1048576) (hk : k ≤ 5) (hm : m ≤ 8) : ∀ (d : Nat) (b : List Int) (l : List (List Int)) (K : Nat), b.length + d = m → d < K → l.length ≤ 300 →
    spec_l5More_r N K ((m : Int), es) (k : Int) b l = some ((moreC k es d b l, ()), ()) := by
  intro d
  induction d with
  | zero =>
    intro b l K hd hK hl
    obtain ⟨K, rfl⟩ := succ_of hK
    have hb : b.length = m := by omega
    unfold spec_l5More_r spec_l5More_b
    simp only []
    rw [tLen_n, ieq_t (by omega), br_t, l1Own_eq (by omega), bind_some', room_ok (by simp; omega), chk_t]
    rfl
  | succ d ih =>
    intro b l K hd hK hl
    obtain ⟨K, rfl⟩ := succ_of hK
    have hb : b.length < m := by omega
    unfold spec_l5More_r spec_l5More_b
    simp only []
    rw [tLen_n, ieq_f (by omega), br_f]
    have go : ∀ (r c : Nat) (l : List (List Int)) (K' : Nat), c + r = k → r < K' → l.length ≤ 301 →
        spec_l5More_l0 N (spec_l5More_r N K) (fun o => some ((o, ()), ())) K' (k : Int) b (c : Int) l (m : Int) es = some ((stepsC (fun c l => if freeC es b (c : Int) then moreC k es d (b ++ [(c : Int)]) l else l) r c l, ()), ()) := by
      intro r
      induction r with
      | zero =>
        intro c l K' hr hK' hl
        obtain ⟨K', rfl⟩ := succ_of hK'
        simp only [spec_l5More_l0, ilt_nf (show ¬ c < k by omega), br_f, stepsC]
      | succ r ihr =>
        intro c l K' hr hK' hl
        obtain ⟨K', rfl⟩ := succ_of hK'
        simp only [spec_l5More_l0, ilt_n (show c < k by omega), br_t, tLen_n]
        by_cases h3 : l.length ≤ 300
        · rw [ile_t (by omega), br_t]
          have := l5More_l0_0_eq (R := (List (List Int) × Unit) × Unit) hN (slf := spec_l5More_r N K) (k0 := fun x3 x4 x5 x6 x7 x8 o3 o4 o5 => br x6
              ((spec_l1Own N x4).bind fun r1 => chk (room r1.1.1 [x5]) ((spec_l5More_r N K (o4, o5) x3 (tApp r1.1.1 [x5]) o3).bind fun r2 =>
                spec_l5More_l0 N (spec_l5More_r N K) (fun o => some ((o, ()), ())) K' x3 x4 (IntKind.i64.wrap (x5 + 1)) r2.1.1 o4 o5))
              (spec_l5More_l0 N (spec_l5More_r N K) (fun o => some ((o, ()), ())) K' x3 x4 (IntKind.i64.wrap (x5 + 1)) o3 o4 o5)) (k := (k : Int)) (c := (c : Int)) (b := b) (a := (l.length : Int)) (z := true) (o := l) (m := (m : Int)) (es := es) hx (by omega) b.length 0 N true (by omega) (by omega)
          rw [show ((0 : Nat) : Int) = 0 from rfl] at this
          rw [this, Bool.true_and]
          unfold stepsC
          rw [if_pos h3]
          have hfr : (∀ y : Nat, 0 ≤ y → y < b.length → ¬ (rdI b y = (c : Int) ∧ nearG es y (b.length : Int))) ↔ freeC es b (c : Int) := ⟨fun h y hy => h y (Nat.zero_le _) hy, fun h y _ hy => h y hy⟩
          rw [decide_eq_decide.2 hfr, wrap_succ (by omega)]
          by_cases hf : freeC es b (c : Int)
          · rw [decide_eq_true hf, br_t, l1Own_eq (by omega), bind_some', room_ok (by simp; omega), chk_t, tApp_d, ih _ _ K (by simp; omega) (by omega) h3, bind_some']
            simp only [if_pos hf]
            exact ihr (c + 1) _ K' (by omega) (by omega) (moreC_len _ _ _ h3)
          · rw [decide_eq_false hf, br_f]
            simp only [if_neg hf]
            exact ihr (c + 1) _ K' (by omega) (by omega) hl
        · rw [ile_f (by omega), br_f]
          unfold stepsC
          rw [if_neg h3]
    have := go k 0 l N (by omega) (by omega) (by omega)
    rw [show ((0 : Nat) : Int) = 0 from rfl] at this
    rw [this]
    rfl
noncomputable def allC (g : Int × List (Int × Int)) (k : Int) : List (List Int) := moreC k.toNat g.2 g.1.toNat [] []
noncomputable def colsR (g : Int × List (Int × Int)) (k : Int) : List (List Int) × Bool := if colCase g k ∧ (allC g k).length ≤ 300 then (allC g k, true) else ([], false)
theorem allC_rows {g : Int × List (Int × Int)} {k : Int} : ∀ x ∈ allC g k, x.length = g.1.toNat := moreC_rows (k := k.toNat) (es := g.2) (m := g.1.toNat) g.1.toNat [] [] (by simp) (by simp)
theorem colsR_ok (g : Int × List (Int × Int)) (k : Int) : (colsR g k).1.length ≤ 300 ∧ ∀ x ∈ (colsR g k).1, x.length ≤ 8 := by
  unfold colsR
  by_cases h : colCase g k ∧ (allC g k).length ≤ 300
  · rw [if_pos h]
    refine ⟨h.2, fun x hx => ?_⟩
    have := allC_rows x hx
    have := h.1.1.1
    omega
  · rw [if_neg h]
    simp
theorem l5All_eq {N : Nat} {g : Int × List (Int × Int)} {k : Int} (hx : g.2.length ≤ 1048576) (hN : 1048577 ≤ N) : spec_l5All N g k = some (((colsR g k).1, (colsR g k).2, ()), ()) := by
  unfold spec_l5All colsR
  rw [show ((g.1, g.2) : Int × List (Int × Int)) = g from rfl, l5Ask_eq hx hN, bind_some']
  by_cases h : colCase g k
  · rw [decide_eq_true h, Bool.not_true, br_f]
    obtain ⟨m, es⟩ := g
    obtain ⟨hg, h1, h2⟩ := h
    have hm := hg.1
    simp only at hm
    obtain ⟨m, rfl⟩ := Int.eq_ofNat_of_zero_le hm.1
    obtain ⟨k, rfl⟩ := Int.eq_ofNat_of_zero_le (show 0 ≤ k by omega)
    have := l5More_eq hN (k := k) (m := m) (es := es) hx (by omega) (by omega) m [] [] N (by simp) (by omega) (by simp)
    unfold spec_l5More
    simp only [Int.ofNat_eq_natCast] at *
    rw [this, bind_some']
    have e : allC ((m : Int), es) (k : Int) = moreC k es m [] [] := by simp [allC]
    rw [e]
    simp only [tLen_n]
    have hc : colCase ((m : Int), es) (k : Int) := ⟨hg, h1, h2⟩
    by_cases h3 : (moreC k es m [] []).length ≤ 300
    · rw [ilt_f (by omega), br_f, if_pos ⟨hc, h3⟩]
    · rw [ilt_t (by omega), br_t, if_neg fun h => h3 h.2]
  · rw [decide_eq_false h, Bool.not_false, br_t, if_neg fun h' => h h'.1]
def InN (n : Nat) (x : Int) : Prop := 0 ≤ x ∧ x < (n : Int)
theorem nat_of {n : Nat} {x : Int} (h : InN n x) : ∃ i : Nat, i < n ∧ x = (i : Int) := by
  obtain ⟨h1, h2⟩ := h
  exact ⟨x.toNat, by omega, by omega⟩
theorem in_nat {n i : Nat} (h : i < n) : InN n (i : Int) := ⟨by omega, by omega⟩
theorem rd_kempe {m : Nat} {es : List (Int × Int)} {cs : List Int} {x c : Int} (hcs : cs.length = m) (hx : InN m x) {y : Int} (hy : InN m y) : rdI (kempeR m es cs x c) y = if y ∈ chainR m es cs x c then (if rdI cs y = rdI cs x then c else rdI cs x) else rdI cs y := by
  have hxs : x ∈ someL m cs (rdI cs x) c := mem_someL.2 ⟨hx, .inl rfl⟩
  have hst := (reachS_spec (es := es) hxs).1
  have hin : ∀ z ∈ chainR m es cs x c, InN m z := fun z hz => (chainR_mem hx hz).1
  have go : ∀ (l o : List Int), l.Nodup → (∀ z ∈ l, InN m z) → o.length = m → rdI (l.foldl (kStep cs (rdI cs x) c) o) y = if y ∈ l then (if rdI cs y = rdI cs x then c else rdI cs x) else rdI o y := by
    intro l
    induction l with
    | nil => intro o _ _ _; simp
    | cons z l ih =>
      intro o hn hz ho
      obtain ⟨h1, h2⟩ := List.nodup_cons.1 hn
      obtain ⟨i, hi, rfl⟩ := nat_of (hz z (List.mem_cons_self ..))
      rw [List.foldl_cons, ih _ h2 (fun w hw => hz w (List.mem_cons_of_mem _ hw)) (by rw [kStep_len]; exact ho)]
      have hk : rdI (kStep cs (rdI cs x) c o (i : Int)) y = if y = i then (if rdI cs (i : Int) = rdI cs x then c else rdI cs x) else rdI o y := by
        unfold kStep
        rw [rdI_set (by omega) _ y hy.1]
      rw [hk]
      by_cases hyl : y ∈ l
      · have : y ≠ (i : Int) := by rintro rfl; exact h1 hyl
        simp [hyl]
      · by_cases hyi : y = i
        · subst hyi; simp [hyl]
        · simp [hyl, hyi]
  exact go _ _ (strict_nodup hst) hin hcs
theorem x_in_chain {m : Nat} {es : List (Int × Int)} {cs : List Int} {x c : Int} (hx : InN m x) : x ∈ chainR m es cs x c := by
  have hxs : x ∈ someL m cs (rdI cs x) c := mem_someL.2 ⟨hx, .inl rfl⟩
  exact ((reachS_spec (es := es) hxs).2 x).2 .base
theorem kempe_back {m : Nat} {es : List (Int × Int)} {cs : List Int} {x c : Int} (hcs : cs.length = m) (hx : InN m x) (hne : rdI cs x ≠ c) : kempeR m es (kempeR m es cs x c) x (rdI cs x) = cs ∧ rdI (kempeR m es cs x c) x = c ∧ chainR m es (kempeR m es cs x c) x (rdI cs x) = chainR m es cs x c := by
  have hd := kempeR_len m es cs x c
  have hrd := fun (y : Int) (hy : InN m y) => rd_kempe (es := es) (c := c) hcs hx hy
  have hdx : rdI (kempeR m es cs x c) x = c := by rw [hrd x hx, if_pos (x_in_chain hx), if_pos rfl]
  have hset : someL m (kempeR m es cs x c) (rdI (kempeR m es cs x c) x) (rdI cs x) = someL m cs (rdI cs x) c := by
    rw [hdx]
    unfold someL
    congr 1
    refine List.filter_congr fun i hi => ?_
    have hi := List.mem_range'_1.1 hi
    rw [hrd (i : Int) (in_nat (by omega))]
    by_cases hm : (i : Int) ∈ chainR m es cs x c
    · rw [if_pos hm]
      have hc := (chainR_mem hx hm).2
      have h1 : (if rdI cs (i : Int) = rdI cs x then c else rdI cs x) = c ∨ (if rdI cs (i : Int) = rdI cs x then c else rdI cs x) = rdI cs x := by
        split
        · exact .inl rfl
        · exact .inr rfl
      rw [decide_eq_true h1, decide_eq_true hc]
    · rw [if_neg hm]
      by_cases h1 : rdI cs (i : Int) = c <;> by_cases h2 : rdI cs (i : Int) = rdI cs x <;> simp [h1, h2]
  have hch : chainR m es (kempeR m es cs x c) x (rdI cs x) = chainR m es cs x c := by
    unfold chainR
    rw [hset]
  refine ⟨?_, hdx, hch⟩
  refine List.ext_getElem (by rw [kempeR_len, hd]) fun i h1 h2 => ?_
  have hi : InN m (i : Int) := in_nat (by omega)
  have e := rd_kempe (es := es) (c := rdI cs x) (by rw [hd, hcs]) hx hi (cs := kempeR m es cs x c)
  rw [rdI_n h1, hch, hdx] at e
  rw [e]
  by_cases hm : (i : Int) ∈ chainR m es cs x c
  · rw [if_pos hm, hrd _ hi, if_pos hm, ← rdI_n h2]
    have hc := (chainR_mem hx hm).2
    by_cases h3 : rdI cs (i : Int) = rdI cs x
    · rw [if_pos h3, if_pos rfl, h3]
    · rw [if_neg h3, if_neg hne]
      exact (hc.resolve_left h3).symm
  · rw [if_neg hm, hrd _ hi, if_neg hm, rdI_n h2]
def pairsUp (o : List (Int × Int)) : Prop := o.Pairwise edgeLt
theorem edgeLt_trans {a b c : Int × Int} (h1 : edgeLt a b) (h2 : edgeLt b c) : edgeLt a c := by unfold edgeLt at *; omega
theorem edgeLt_tot {a b : Int × Int} (h : ¬ edgeLt a b) (hne : a ≠ b) : edgeLt b a := by
  unfold edgeLt at *
  by_cases h1 : a.1 = b.1
  · by_cases h2 : a.2 = b.2
    · exact absurd (Prod.ext h1 h2) hne
    · omega
  · omega
theorem putPair_eq {N : Nat} {o : List (Int × Int)} {e : Int × Int} (ho : pairsUp o) (hl : o.length ≤ 1048576) (hN : 1048577 ≤ N) : ∃ o', spec_l2PutPair N o e = some ((o', ()), ()) ∧ pairsUp o' ∧ (∀ f, f ∈ o' ↔ f ∈ o ∨ f = e) ∧ o'.length ≤ o.length + 1 := by
  unfold pairsUp at ho
  have find : ∀ (k K : Nat) (k0 : Int → List (Int × Int) → Int → Int → Option ((List (Int × Int) × Unit) × Unit)), k < K → k ≤ o.length → (∀ j (h : j < o.length), k ≤ j → edgeLt e o[j]) →
      ∃ k2 : Nat, k2 ≤ o.length ∧ (∀ j (h : j < o.length), j < k2 → ¬ edgeLt e o[j]) ∧ (∀ j (h : j < o.length), k2 ≤ j → edgeLt e o[j]) ∧ spec_l2PutPair_l0 N k0 K (k : Int) o e.1 e.2 = k0 (k2 : Int) o e.1 e.2 := by
    intro k
    induction k with
    | zero =>
      intro K k0 hK hk h
      obtain ⟨K, rfl⟩ := succ_of hK
      refine ⟨0, hk, fun j h1 h2 => absurd h2 (Nat.not_lt_zero j), h, ?_⟩
      simp only [spec_l2PutPair_l0, Int.natCast_zero]
      rw [ilt_f (by decide), br_f]
    | succ k ih =>
      intro K k0 hK hk h
      obtain ⟨K, rfl⟩ := succ_of hK
      have hko : k < o.length := by omega
      simp only [spec_l2PutPair_l0]
      rw [ilt_t (by omega), br_t, wrap_pred (by omega) (by omega), show k + 1 - 1 = k by omega, inb_n hko, chk_t, rdP_n hko, l2Edge_eq, bind_some']
      simp only [show ((e.1, e.2) : Int × Int) = e from rfl]
      by_cases hc : edgeLt e o[k]
      · rw [decide_eq_true hc, br_t]
        exact ih K k0 (by omega) (by omega) fun j hj hkj => by
          by_cases he : j = k
          · subst he; exact hc
          · exact h j hj (by omega)
      · rw [decide_eq_false hc, br_f]
        refine ⟨k + 1, hk, fun j hj hjk => ?_, h, rfl⟩
        by_cases he : j = k
        · subst he; exact hc
        · have := List.pairwise_iff_getElem.1 ho j k hj hko (by omega)
          exact fun h2 => hc (edgeLt_trans h2 this)
  unfold spec_l2PutPair
  obtain ⟨k, k1, k2, k3, k4⟩ := find o.length N (fun kv o o1 o2 => (br (ilt 0 kv)
    ((chk (inb o (IntKind.i64.wrap (kv - 1)))
      (br (ieq ((rdP o (IntKind.i64.wrap (kv - 1))).1) o1 && ieq ((rdP o (IntKind.i64.wrap (kv - 1))).2) o2)
      (some ((o, ()), ()))
      ((chk (ile 0 0 && ile 0 kv && ile kv (tLen o))
        (chk (room (α := (Int × Int)) (β := (Int × Int)) [] (tCut o 0 kv))
        (chk (room (tApp [] (tCut o 0 kv)) [(o1, o2)])
        (chk (ile 0 kv && ile kv (tLen o) && ile (tLen o) (tLen o))
        (chk (room (tApp (tApp [] (tCut o 0 kv)) [(o1, o2)]) (tCut o kv (tLen o)))
        (some (((tApp (tApp (tApp [] (tCut o 0 kv)) [(o1, o2)]) (tCut o kv (tLen o))), ()), ())))))))))))
    ((chk (ile 0 0 && ile 0 kv && ile kv (tLen o))
      (chk (room (α := (Int × Int)) (β := (Int × Int)) [] (tCut o 0 kv))
      (chk (room (tApp [] (tCut o 0 kv)) [(o1, o2)])
      (chk (ile 0 kv && ile kv (tLen o) && ile (tLen o) (tLen o))
      (chk (room (tApp (tApp [] (tCut o 0 kv)) [(o1, o2)]) (tCut o kv (tLen o)))
      (some (((tApp (tApp (tApp [] (tCut o 0 kv)) [(o1, o2)]) (tCut o kv (tLen o))), ()), ())))))))))) (by omega) (Nat.le_refl _) (fun j hj h => by omega)
  rw [tLen_n, k4]
  have hcut0 : tCut o 0 (k : Int) = o.take k := by have := tCut_n o 0 k; simpa using this
  have hcutk : tCut o (k : Int) (tLen o) = o.drop k := by rw [tLen_n, tCut_n, List.take_of_length_le (Nat.le_refl _)]
  have h1 : (ile 0 0 && ile 0 (k : Int) && ile (k : Int) (tLen o)) = true := by rw [ile_t (Int.le_refl _), ile_t (by omega), tLen_n, ile_t (by omega)]; rfl
  have h2 : (ile 0 (k : Int) && ile (k : Int) (tLen o) && ile (tLen o) (tLen o)) = true := by rw [ile_t (by omega), tLen_n, ile_t (by omega), ile_t (Int.le_refl _)]; rfl
  have r1 : room (α := Int × Int) (β := Int × Int) [] (o.take k) = true := room_ok (by rw [List.length_take, List.length_nil]; omega)
  have r2 : room (tApp [] (o.take k)) [(e.1, e.2)] = true := room_ok (by simp only [tApp, List.nil_append, List.length_take, List.length_singleton]; omega)
  have r3 : room (tApp (tApp [] (o.take k)) [(e.1, e.2)]) (o.drop k) = true := room_ok (by simp only [tApp, List.nil_append, List.length_append, List.length_take, List.length_drop, List.length_singleton]; omega)
  have ee : tApp (tApp (tApp [] (o.take k)) [(e.1, e.2)]) (o.drop k) = o.take k ++ e :: o.drop k := by simp [tApp]
  have hput : (∀ j (h : j < o.length), j < k → o[j] ≠ e) → pairsUp (o.take k ++ e :: o.drop k) ∧ (∀ f, f ∈ o.take k ++ e :: o.drop k ↔ f ∈ o ∨ f = e) ∧ (o.take k ++ e :: o.drop k).length ≤ o.length + 1 := by
    intro hne
    refine ⟨List.pairwise_append.2 ⟨ho.sublist (List.take_sublist ..), List.pairwise_cons.2 ⟨fun y hy => ?_, ho.sublist (List.drop_sublist ..)⟩, fun a ha b hb => ?_⟩, fun s => ?_, by simp; omega⟩
    · obtain ⟨j, hj, rfl⟩ := List.getElem_of_mem hy
      rw [List.getElem_drop]
      exact k3 _ (by simp at hj; omega) (by omega)
    · obtain ⟨j, hj, rfl⟩ := List.getElem_of_mem ha
      have hj' : j < k ∧ j < o.length := by simp at hj; omega
      rw [List.getElem_take]
      have hax : edgeLt o[j] e := edgeLt_tot (k2 j hj'.2 hj'.1) (fun q => hne j hj'.2 hj'.1 q.symm)
      rcases List.mem_cons.1 hb with rfl | hb
      · exact hax
      · obtain ⟨l, hl', rfl⟩ := List.getElem_of_mem hb
        rw [List.getElem_drop]
        exact List.pairwise_iff_getElem.1 ho _ _ hj'.2 (by simp at hl'; omega) (by omega)
    · rw [List.mem_append, List.mem_cons]
      have := List.take_append_drop k o
      constructor
      · rintro (h | h | h)
        · exact .inl (List.mem_of_mem_take h)
        · exact .inr h
        · exact .inl (List.mem_of_mem_drop h)
      · rintro (h | h)
        · rw [← this, List.mem_append] at h
          rcases h with h | h
          · exact .inl h
          · exact .inr (.inr h)
        · exact .inr (.inl h)
  by_cases hk0 : k = 0
  · subst hk0
    have e0 : ilt 0 ((0 : Nat) : Int) = false := rfl
    rw [e0, br_f, h1, chk_t, hcut0, r1, chk_t, r2, chk_t, h2, chk_t, hcutk, r3, chk_t, ee]
    exact ⟨_, rfl, hput fun j h h0 => absurd h0 (Nat.not_lt_zero j)⟩
  · have hk' : k - 1 < o.length := by omega
    rw [ilt_t (by omega), br_t, wrap_pred (by omega) (by omega), inb_n hk', chk_t, rdP_n hk']
    by_cases he : o[k - 1] = e
    · rw [he, ieq_t rfl, ieq_t rfl]
      simp only [Bool.and_self, br_t]
      refine ⟨o, rfl, ho, fun f => ⟨.inl, ?_⟩, by omega⟩
      rintro (h | h)
      · exact h
      · rw [h, ← he]; exact List.getElem_mem hk'
    · have hb : (ieq o[k - 1].1 e.1 && ieq o[k - 1].2 e.2) = false := by
        by_cases q1 : o[k - 1].1 = e.1
        · by_cases q2 : o[k - 1].2 = e.2
          · exact absurd (Prod.ext q1 q2) he
          · rw [ieq_f q2, Bool.and_false]
        · rw [ieq_f q1]; rfl
      rw [hb, br_f, h1, chk_t, hcut0, r1, chk_t, r2, chk_t, h2, chk_t, hcutk, r3, chk_t, ee]
      refine ⟨_, rfl, hput fun j h hj q => ?_⟩
      by_cases hj1 : j = k - 1
      · subst hj1; exact he q
      · have := List.pairwise_iff_getElem.1 ho j (k - 1) h hk' (by omega)
        rw [q] at this
        exact k2 (k - 1) hk' (by omega) this
theorem l1Least_eq {N : Nat} {x y : Int} : spec_l1Least N x y = some (((if x < y then x else y), ()), ()) := by
  unfold spec_l1Least
  by_cases h : x < y
  · rw [ilt_t h, br_t, if_pos h]
  · rw [ilt_f h, br_f, if_neg h]
def CurOk (code : List Int) (k : Nat) (c : List Int × (Int × Int)) : Prop := c.1 = code ∧ 0 ≤ c.2.1 ∧ c.2.1 ≤ (k : Int)
def codeOk (code : List Int) : Prop := code.length ≤ 1048576 ∧ ∀ x ∈ code, 0 ≤ x ∧ x ≤ 255
theorem cur_mono {code : List Int} {k l : Nat} {c : List Int × (Int × Int)} (h : CurOk code k c) (hl : k ≤ l) : CurOk code l c := ⟨h.1, h.2.1, by have := h.2.2; omega⟩
theorem u8_and (x : Int) : 0 ≤ IntKind.i64.wrap (bitop .and .u64 x 255) ∧ IntKind.i64.wrap (bitop .and .u64 x 255) ≤ 255 := by
  have h : ∃ n : Nat, bitop .and .u64 x 255 = (n : Int) ∧ n ≤ 255 := by
    unfold bitop
    simp only []
    have e : (BitVec.ofInt IntKind.u64.bits x &&& BitVec.ofInt IntKind.u64.bits 255).toNat = (BitVec.ofInt IntKind.u64.bits x).toNat &&& 255 := by
      rw [BitVec.toNat_and]; rfl
    have hle : (BitVec.ofInt IntKind.u64.bits x).toNat &&& 255 ≤ 255 := Nat.and_le_right
    refine ⟨(BitVec.ofInt IntKind.u64.bits x).toNat &&& 255, ?_, hle⟩
    rw [e]
    unfold IntKind.wrap
    simp only [IntKind.signed, IntKind.bits]
    have : (((BitVec.ofInt 64 x).toNat &&& 255 : Nat) : Int) % 2 ^ 64 = (((BitVec.ofInt 64 x).toNat &&& 255 : Nat) : Int) := by
      refine Int.emod_eq_of_lt (by omega) ?_
      have : (BitVec.ofInt 64 x).toNat &&& 255 ≤ 255 := Nat.and_le_right
      omega
    simpa using this
  obtain ⟨n, h1, h2⟩ := h
  rw [h1, wrap_ok (by omega) (by omega)]
  omega
theorem next_ok {N : Nat} {code : List Int} {k : Nat} {c : List Int × (Int × Int)} (hco : codeOk code) (h : CurOk code k c) (hk : k ≤ 1000000000) : ∃ x c', spec_l1Cur_next N c = some ((x, ()), (c', ())) ∧ CurOk code (k + 1) c' ∧ 0 ≤ x ∧ x ≤ 255 := by
  obtain ⟨cd, at', seed⟩ := c
  obtain ⟨h1, h2, h3⟩ := h
  simp only at h1 h2 h3
  subst h1
  have hw : IntKind.i64.wrap (at' + 1) = at' + 1 := wrap_ok (by omega) (by omega)
  unfold spec_l1Cur_next
  simp only [hw]
  by_cases hlt : at' < (cd.length : Int)
  · obtain ⟨n, rfl⟩ := Int.eq_ofNat_of_zero_le h2
    have hn : n < cd.length := by omega
    have hb := hco.2 _ (List.getElem_mem hn)
    have hrd : rd U8 cd (n : Int) = cd[n] := by
      unfold rd
      rw [Int.toNat_natCast, List.getD_eq_getElem?_getD, List.getElem?_eq_getElem hn]
      rfl
    rw [ilt_len hn, br_t, inb_n hn, chk_t, hrd]
    by_cases hle : (n : Int) + 1 ≤ (cd.length : Int)
    · rw [tLen_n, ile_t hle, br_t]
      refine ⟨_, _, rfl, ⟨rfl, by show (0 : Int) ≤ (n : Int) + 1; omega, by show (n : Int) + 1 ≤ ((k + 1 : Nat) : Int); omega⟩, ?_⟩
      rw [wrap_ok (by omega) (by omega)]
      exact hb
    · omega
  · rw [tLen_n, ilt_f hlt, br_f]
    by_cases hle : at' + 1 ≤ (cd.length : Int)
    · rw [ile_t hle, br_t]
      exact ⟨_, _, rfl, ⟨rfl, by show (0 : Int) ≤ at' + 1; omega, by show at' + 1 ≤ ((k + 1 : Nat) : Int); omega⟩, by omega, by omega⟩
    · rw [ile_f hle, br_f]
      exact ⟨_, _, rfl, ⟨rfl, by show (0 : Int) ≤ at' + 1; omega, by show at' + 1 ≤ ((k + 1 : Nat) : Int); omega⟩, u8_and _⟩
theorem tmod_in {x n : Int} (hx : 0 ≤ x) (hn : 1 ≤ n) : 0 ≤ x.tmod n ∧ x.tmod n < n ∧ x.tmod n ≤ x := by
  obtain ⟨a, rfl⟩ := Int.eq_ofNat_of_zero_le hx
  obtain ⟨b, rfl⟩ := Int.eq_ofNat_of_zero_le (show 0 ≤ n by omega)
  have e : ((a : Int)).tmod (b : Int) = ((a % b : Nat) : Int) := rfl
  rw [e]
  have := Nat.mod_lt a (show 0 < b by omega)
  have := Nat.mod_le a b
  omega
theorem pick_ok {N : Nat} {code : List Int} {k : Nat} {c : List Int × (Int × Int)} (hco : codeOk code) (h : CurOk code k c) (hk : k ≤ 1000000) (n : Int) : ∃ x c', spec_l1Cur_pick N c n = some ((x, ()), (c', ())) ∧ CurOk code (k + 2) c' ∧ 0 ≤ x ∧ x ≤ 65535 ∧ (1 ≤ n → x < n) := by
  unfold spec_l1Cur_pick
  by_cases h1 : n ≤ 1
  · rw [ile_t h1, br_t]
    exact ⟨_, _, rfl, cur_mono h (by omega), by omega, by omega, fun h => by omega⟩
  · rw [ile_f h1, br_f]
    obtain ⟨x, c', e1, e2, e3, e4⟩ := next_ok (N := N) hco h (by omega)
    rw [e1, bind_some']
    simp only []
    by_cases h2 : 200 < n
    · rw [ilt_t h2, br_t]
      obtain ⟨y, c2, f1, f2, f3, f4⟩ := next_ok (N := N) hco e2 (by omega)
      rw [f1, bind_some', ine_t (show n ≠ 0 by omega), chk_t]
      simp only []
      rw [wrap_ok (n := x * 256) (by omega) (by omega), wrap_ok (by omega) (by omega)]
      have := tmod_in (x := x * 256 + y) (n := n) (by omega) (by omega)
      exact ⟨_, _, rfl, f2, by omega, by omega, fun _ => by omega⟩
    · rw [ilt_f h2, br_f, ine_t (show n ≠ 0 by omega), chk_t]
      have := tmod_in (x := x) (n := n) (by omega) (by omega)
      exact ⟨_, _, rfl, cur_mono e2 (by omega), by omega, by omega, fun _ => by omega⟩
theorem among_ok {N : Nat} {code : List Int} {k : Nat} {c : List Int × (Int × Int)} (hco : codeOk code) (h : CurOk code k c) (hk : k ≤ 1000000) {l : List Int} (hl : l ≠ []) : ∃ x c', spec_l1Cur_among N c l = some ((x, ()), (c', ())) ∧ CurOk code (k + 2) c' ∧ x ∈ l := by
  unfold spec_l1Cur_among
  have hp : 0 < l.length := List.length_pos_iff.2 hl
  obtain ⟨x, c', e1, e2, e3, e4, e5⟩ := pick_ok (N := N) hco h hk (tLen l)
  rw [e1, bind_some']
  simp only []
  rw [tLen_n] at e5
  obtain ⟨n, rfl⟩ := Int.eq_ofNat_of_zero_le e3
  have hn : n < l.length := by have := e5 (by omega); omega
  rw [inb_n hn, chk_t, rdI_n hn]
  exact ⟨_, _, rfl, e2, List.getElem_mem hn⟩
theorem one_ok {N : Nat} {code : List Int} {k : Nat} {c : List Int × (Int × Int)} (hco : codeOk code) (h : CurOk code k c) (hk : k ≤ 1000000) (n : Int) : ∃ b c', spec_l1Cur_one N c n = some ((b, ()), (c', ())) ∧ CurOk code (k + 2) c' := by
  unfold spec_l1Cur_one
  obtain ⟨x, c', e1, e2, _⟩ := pick_ok (N := N) hco h hk n
  rw [e1, bind_some']
  exact ⟨_, _, rfl, e2⟩
theorem sg_in {R : Type} {N : Nat} {code : List Int} (hco : codeOk code) (hN : 1048577 ≤ N) {k0 : Int → Int → Bool → Int → List Int × (Int × Int) → Int → Int → List (Int × Int) → Option R} {x4 x5 x7 o5 o6 : Int} {x6 : Bool} :
    ∀ (d : Nat) (x8 : Int) (K k : Nat) (c : List Int × (Int × Int)) (o : List (Int × Int)), x8 + (d : Int) = max x4 x8 → d < K → 0 ≤ x8 → x8 ≤ 100 → x4 ≤ 100 → CurOk code k c → k + 2 * d ≤ 1000000 → pairsUp o → o.length + d ≤ 1048576 →
      ∃ c' o', spec_l1Cur_someGraph_l0_0 N k0 K x4 x5 x6 x7 x8 c o5 o6 o = k0 x4 x5 x6 x7 c' o5 o6 o' ∧ CurOk code (k + 2 * d) c' ∧ pairsUp o' ∧ o'.length ≤ o.length + d := by
  intro d
  induction d with
  | zero =>
    intro x8 K k c o hd hK h0 h1 h4 hc hk ho hl
    obtain ⟨K, rfl⟩ := succ_of hK
    refine ⟨c, o, ?_, hc, ho, by omega⟩
    simp only [spec_l1Cur_someGraph_l0_0, ilt_f (show ¬ x8 < x4 by omega), br_f]
  | succ d ih =>
    intro x8 K k c o hd hK h0 h1 h4 hc hk ho hl
    obtain ⟨K, rfl⟩ := succ_of hK
    have hlt : x8 < x4 := by omega
    have hw : IntKind.i64.wrap (x8 + 1) = x8 + 1 := wrap_ok (by omega) (by omega)
    simp only [spec_l1Cur_someGraph_l0_0, ilt_t hlt, br_t, hw]
    obtain ⟨x, c1, e1, e2, _⟩ := pick_ok (N := N) hco hc (by omega) x5
    rw [e1, bind_some']
    simp only []
    by_cases hx : x = 0
    · rw [ieq_t hx, br_t]
      obtain ⟨o1, p1, p2, p3, p4⟩ := putPair_eq (N := N) (e := (x7, x8)) ho (by omega) hN
      rw [p1, bind_some']
      simp only []
      obtain ⟨c', o', q1, q2, q3, q4⟩ := ih (x8 + 1) K (k + 2) c1 o1 (by omega) (by omega) (by omega) (by omega) h4 e2 (by omega) p2 (by omega)
      exact ⟨c', o', q1, cur_mono q2 (by omega), q3, by omega⟩
    · rw [ieq_f hx, br_f]
      obtain ⟨c', o', q1, q2, q3, q4⟩ := ih (x8 + 1) K (k + 2) c1 o (by omega) (by omega) (by omega) (by omega) h4 e2 (by omega) ho (by omega)
      exact ⟨c', o', q1, cur_mono q2 (by omega), q3, by omega⟩
theorem sg_out {R : Type} {N : Nat} {code : List Int} (hco : codeOk code) (hN : 1048577 ≤ N) {k0 : List Int × (Int × Int) → Int → Int → List (Int × Int) → Option R} {x x1 o1 o2 : Int} {x2 : Bool} (hx : x ≤ 8) :
    ∀ (d : Nat) (x3 : Int) (K k : Nat) (c : List Int × (Int × Int)) (o : List (Int × Int)), x3 + (d : Int) = max x x3 → d < K → 0 ≤ x3 → x3 ≤ 8 → CurOk code k c → k + 20 * d ≤ 1000000 → pairsUp o → o.length + 10 * d ≤ 1048576 →
      ∃ c' o', spec_l1Cur_someGraph_l0 N k0 K x x1 x2 x3 c o1 o2 o = k0 c' o1 o2 o' ∧ CurOk code (k + 20 * d) c' ∧ pairsUp o' ∧ o'.length ≤ o.length + 10 * d := by
  intro d
  induction d with
  | zero =>
    intro x3 K k c o hd hK h0 h1 hc hk ho hl
    obtain ⟨K, rfl⟩ := succ_of hK
    refine ⟨c, o, ?_, hc, ho, by omega⟩
    simp only [spec_l1Cur_someGraph_l0, ilt_f (show ¬ x3 < x by omega), br_f]
  | succ d ih =>
    intro x3 K k c o hd hK h0 h1 hc hk ho hl
    obtain ⟨K, rfl⟩ := succ_of hK
    have hlt : x3 < x := by omega
    have hw : IntKind.i64.wrap (x3 + 1) = x3 + 1 := wrap_ok (by omega) (by omega)
    simp only [spec_l1Cur_someGraph_l0, ilt_t hlt, br_t, hw]
    obtain ⟨e, he⟩ : ∃ e : Nat, x3 + 1 + (e : Int) = max x (x3 + 1) := ⟨(max x (x3 + 1) - (x3 + 1)).toNat, by omega⟩
    have he8 : e ≤ 8 := by omega
    obtain ⟨c1, p1, q1, q2, q3, q4⟩ := sg_in (R := R) (N := N) hco hN (k0 := fun x4 x5 x6 x7 o4 o5 o6 o7 => (br (ilt 0 x7)
        ((br (!x6)
          (((spec_l1Cur_pick N (o4.1, (o4.2.1, o4.2.2)) x7).bind fun r6 =>
            ((spec_l2PutPair N o7 (r6.1.1, x7)).bind fun r7 =>
              spec_l1Cur_someGraph_l0 N k0 K x4 x5 x6 (IntKind.i64.wrap (x7 + 1)) r6.2.1 o5 o6 r7.1.1)))
          (spec_l1Cur_someGraph_l0 N k0 K x4 x5 x6 (IntKind.i64.wrap (x7 + 1)) o4 o5 o6 o7)))
        (spec_l1Cur_someGraph_l0 N k0 K x4 x5 x6 (IntKind.i64.wrap (x7 + 1)) o4 o5 o6 o7))) (x4 := x) (x5 := x1) (x6 := x2) (x7 := x3) (o5 := o1) (o6 := o2) e (x3 + 1) N k c o he (by omega) (by omega) (by omega) (by omega) hc (by omega) ho (by omega)
    rw [q1]
    simp only [hw]
    have keep : ∃ c' o', spec_l1Cur_someGraph_l0 N k0 K x x1 x2 (x3 + 1) c1 o1 o2 p1 = k0 c' o1 o2 o' ∧ CurOk code (k + 20 * (d + 1)) c' ∧ pairsUp o' ∧ o'.length ≤ o.length + 10 * (d + 1) := by
      obtain ⟨c', o', r1, r2, r3, r4⟩ := ih (x3 + 1) K (k + 2 * e) c1 p1 (by omega) (by omega) (by omega) (by omega) q2 (by omega) q3 (by omega)
      exact ⟨c', o', r1, cur_mono r2 (by omega), r3, by omega⟩
    by_cases hz : 0 < x3
    · rw [ilt_t hz, br_t]
      cases x2 with
      | true => exact keep
      | false =>
        simp only [Bool.not_false, br_t]
        obtain ⟨y, c2, e1, e2, _⟩ := pick_ok (N := N) hco q2 (by omega) x3
        rw [show ((c1.1, (c1.2.1, c1.2.2)) : List Int × (Int × Int)) = c1 from rfl, e1, bind_some']
        simp only []
        obtain ⟨o3, p2, p3, p4, p5⟩ := putPair_eq (N := N) (e := (y, x3)) q3 (by omega) hN
        rw [p2, bind_some']
        simp only []
        obtain ⟨c', o', r1, r2, r3, r4⟩ := ih (x3 + 1) K (k + 2 * e + 2) c2 o3 (by omega) (by omega) (by omega) (by omega) e2 (by omega) p3 (by omega)
        exact ⟨c', o', r1, cur_mono r2 (by omega), r3, by omega⟩
    · rw [ilt_f hz, br_f]
      exact keep
noncomputable def sgTail (N : Nat) (o : List Int × (Int × Int)) (o2 : Int) (o3 : List (Int × Int)) : Option (((Int × List (Int × Int)) × Unit) × ((List Int × (Int × Int)) × Unit)) :=
  ((spec_l1Cur_pick N o 50).bind fun r6 =>
    (br (ieq r6.1.1 0)
      (((spec_l1Cur_among N r6.2.1 [(-1), 8, 9, 0, 4611686018427387904]).bind fun r7 =>
        some (((r7.1.1, o3), ()), (r7.2.1, ()))))
      ((br (ieq r6.1.1 1)
        (((spec_l1Cur_pick N (r6.2.1.1, (r6.2.1.2.1, r6.2.1.2.2)) 4).bind fun r8 =>
          ((spec_l1Cur_pick N r8.2.1 9).bind fun r9 =>
            (chk (room o3 [(r8.1.1, (IntKind.i64.wrap (r9.1.1 - 1)))])
              (some (((o2, (tApp o3 [(r8.1.1, (IntKind.i64.wrap (r9.1.1 - 1)))])), ()), (r9.2.1, ())))))))
        ((br (ieq r6.1.1 2)
          ((br (ilt 0 (tLen o3))
            (((spec_l1Cur_pick N (r6.2.1.1, (r6.2.1.2.1, r6.2.1.2.2)) (tLen o3)).bind fun r10 =>
              (chk (inb o3 r10.1.1)
                (chk (room o3 [(rdP o3 r10.1.1)])
                (some (((o2, (tApp o3 [(rdP o3 r10.1.1)])), ()), (r10.2.1, ())))))))
            (some (((o2, o3), ()), (r6.2.1, ())))))
          (some (((o2, o3), ()), (r6.2.1, ())))))))))
theorem sgTail_ok {N : Nat} {code : List Int} {k : Nat} {c : List Int × (Int × Int)} {o2 : Int} {o3 : List (Int × Int)} (hco : codeOk code) (h : CurOk code k c) (hk : k ≤ 900000) (ho : o3.length ≤ 1000) :
    ∃ g c', sgTail N c o2 o3 = some ((g, ()), (c', ())) ∧ CurOk code (k + 10) c' ∧ g.2.length ≤ o3.length + 1 := by
  unfold sgTail
  obtain ⟨x, c1, e1, e2, _⟩ := pick_ok (N := N) hco h (by omega) 50
  rw [e1, bind_some']
  simp only [show ((c1.1, (c1.2.1, c1.2.2)) : List Int × (Int × Int)) = c1 from rfl]
  by_cases h0 : x = 0
  · rw [ieq_t h0, br_t]
    obtain ⟨y, c2, f1, f2, _⟩ := among_ok (N := N) hco e2 (by omega) (l := [(-1), 8, 9, 0, 4611686018427387904]) (by simp)
    rw [f1, bind_some']
    exact ⟨_, _, rfl, cur_mono f2 (by omega), by simp only []; omega⟩
  · rw [ieq_f h0, br_f]
    by_cases h1 : x = 1
    · rw [ieq_t h1, br_t]
      obtain ⟨y, c2, f1, f2, _⟩ := pick_ok (N := N) hco e2 (by omega) 4
      rw [f1, bind_some']
      simp only []
      obtain ⟨z, c3, g1, g2, _⟩ := pick_ok (N := N) hco f2 (by omega) 9
      rw [g1, bind_some']
      simp only []
      rw [room_ok (by simp; omega), chk_t]
      exact ⟨_, _, rfl, cur_mono g2 (by omega), by simp [tApp]⟩
    · rw [ieq_f h1, br_f]
      by_cases h2 : x = 2
      · rw [ieq_t h2, br_t, tLen_n]
        by_cases h3 : 0 < o3.length
        · rw [ilt_t (by omega), br_t]
          obtain ⟨y, c2, f1, f2, f3, _, f5⟩ := pick_ok (N := N) hco e2 (by omega) (o3.length : Int)
          rw [f1, bind_some']
          simp only []
          obtain ⟨n, rfl⟩ := Int.eq_ofNat_of_zero_le f3
          have hn : n < o3.length := by have := f5 (by omega); omega
          rw [inb_n hn, chk_t, room_ok (by simp; omega), chk_t]
          exact ⟨_, _, rfl, cur_mono f2 (by omega), by simp [tApp]⟩
        · rw [ilt_f (by omega), br_f]
          exact ⟨_, _, rfl, cur_mono e2 (by omega), by simp only []; omega⟩
      · rw [ieq_f h2, br_f]
        exact ⟨_, _, rfl, cur_mono e2 (by omega), by simp only []; omega⟩
theorem sg_fin {N : Nat} {code : List Int} {k : Nat} {c : List Int × (Int × Int)} {n x1 : Int} {x2 : Bool} (hco : codeOk code) (hN : 1048577 ≤ N) (h : CurOk code k c) (hk : k ≤ 100000) (hn : 0 ≤ n ∧ n ≤ 8) :
    ∃ g c', spec_l1Cur_someGraph_l0 N (fun o o1 o2 o3 => sgTail N o o2 o3) N n x1 x2 0 c 0 n [] = some ((g, ()), (c', ())) ∧ CurOk code (k + 180) c' ∧ g.2.length ≤ 100 := by
  obtain ⟨d, hd⟩ : ∃ d : Nat, n = (d : Int) := ⟨n.toNat, by omega⟩
  obtain ⟨c1, o1, e1, e2, e3, e4⟩ := sg_out (N := N) hco hN (k0 := fun o o1 o2 o3 => sgTail N o o2 o3) (x := n) (x1 := x1) (x2 := x2) (o1 := 0) (o2 := n) hn.2 d 0 N k c [] (by omega) (by omega) (by omega) (by omega) h (by omega) List.Pairwise.nil (by simp; omega)
  simp at e4
  obtain ⟨g, c2, f1, f2, f3⟩ := sgTail_ok (N := N) (o2 := n) hco e2 (by omega) (show o1.length ≤ 1000 by omega)
  exact ⟨g, c2, e1.trans f1, cur_mono f2 (by omega), by omega⟩
theorem someGraph_ok {N : Nat} {code : List Int} {k : Nat} {c : List Int × (Int × Int)} {most : Int} (hco : codeOk code) (hN : 1048577 ≤ N) (h : CurOk code k c) (hk : k ≤ 90000) (hm : 6 ≤ most ∧ most ≤ 8) :
    ∃ g c', spec_l1Cur_someGraph N c most = some ((g, ()), (c', ())) ∧ CurOk code (k + 200) c' ∧ g.2.length ≤ 100 := by
  unfold spec_l1Cur_someGraph
  obtain ⟨n, c1, a1, a2, a3⟩ := among_ok (N := N) hco h (by omega) (l := [4, 5, 3, 6, 2, 1, 0]) (by simp)
  rw [a1, bind_some']
  simp only []
  have hn : 0 ≤ n ∧ n ≤ 6 := by simp at a3; omega
  have rest : ∀ (n : Int) (kk : Nat) (c : List Int × (Int × Int)), 0 ≤ n → CurOk code kk c → kk ≤ k + 6 → ∃ g c', ((spec_l1Least N n most).bind fun r3 =>
      ((spec_l1Cur_among N c [1, 3, 4, 6]).bind fun r4 =>
        ((spec_l1Cur_one N r4.2.1 5).bind fun r5 =>
          spec_l1Cur_someGraph_l0 N (fun o o1 o2 o3 => sgTail N o o2 o3) N r3.1.1 r4.1.1 r5.1.1 0 r5.2.1 0 r3.1.1 []))) = some ((g, ()), (c', ())) ∧ CurOk code (k + 200) c' ∧ g.2.length ≤ 100 := by
    intro n kk c hn hc hkk
    rw [l1Least_eq, bind_some']
    simp only []
    obtain ⟨y, c2, b1, b2, _⟩ := among_ok (N := N) hco hc (by omega) (l := [1, 3, 4, 6]) (by simp)
    rw [b1, bind_some']
    simp only []
    obtain ⟨b, c3, d1, d2⟩ := one_ok (N := N) hco b2 (by omega) 5
    rw [d1, bind_some']
    simp only []
    have hr : 0 ≤ (if n < most then n else most) ∧ (if n < most then n else most) ≤ 8 := by split <;> omega
    obtain ⟨g, c', f1, f2, f3⟩ := sg_fin (N := N) (x1 := y) (x2 := b) hco hN d2 (by omega) hr
    exact ⟨g, c', f1, cur_mono f2 (by omega), f3⟩
  by_cases h6 : 6 < most
  · rw [ilt_t h6, br_t]
    obtain ⟨b, c2, d1, d2⟩ := one_ok (N := N) hco a2 (by omega) 4
    rw [d1, bind_some']
    simp only []
    cases b with
    | true =>
      rw [br_t]
      obtain ⟨y, c3, e1, e2, e3, e4, e5⟩ := pick_ok (N := N) hco d2 (by omega) 2
      rw [e1, bind_some']
      simp only []
      have := e5 (by omega)
      rw [wrap_ok (by omega) (by omega)]
      exact rest (7 + y) _ c3 (by omega) e2 (by omega)
    | false =>
      rw [br_f]
      exact rest n _ c2 hn.1 d2 (by omega)
  · rw [ilt_f h6, br_f]
    exact rest n _ c1 hn.1 a2 (by omega)
end Go.Proofs.Ytbnjcjpnpidhmaa
