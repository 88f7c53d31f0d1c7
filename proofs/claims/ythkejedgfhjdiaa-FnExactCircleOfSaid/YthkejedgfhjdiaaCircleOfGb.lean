/- Statements on data alone. -/
import Derived.Test.YthkejedgfhjdiaaPvPure
import Derived.Test.YthkejedgfhjdiaaCircleOfGa
set_option linter.all false
set_option linter.all false
namespace Go.Proofs.Ythkejedgfhjdiaa
open Go Go.PV Classical
theorem Reach_in_eq {R : Type} {N : Nat} (k0 : List Int → Int → Int → Int → List (Int × Int) → List Int → Option R) {set : List Int} {i : Nat} {rd m : Int} {es : List (Int × Int)} (hx : es.length ≤ 1048576) (hi : i < set.length) (hN : 1048577 ≤ N) : ∀ (d n K : Nat) (out : List Int), out.length ≤ 1048575 → n + d = out.length → d < K →
    spec_l2Reach_l0_0_0 N k0 K set rd i n m es out = k0 set rd i m es (if set[i] ∉ out ∧ ∃ y ∈ out.drop n, nearG es y set[i] then putI set[i] out else out) := by
  intro d
  induction d with
  | zero =>
    intro n K out hl hd hK
    obtain ⟨k, rfl⟩ := succ_of hK
    simp only [spec_l2Reach_l0_0_0, ilt_lenf (show ¬ n < out.length by omega), br_f]
    rw [List.drop_of_length_le (by omega), if_neg (by simp)]
  | succ d ih =>
    intro n K out hl hd hK
    obtain ⟨k, rfl⟩ := succ_of hK
    have hn : n < out.length := by omega
    simp only [spec_l2Reach_l0_0_0, ilt_len hn, br_t, inb_n hi, chk_t, rdI_n hi, l1Has_eq (show out.length ≤ 1048576 by omega) hN, bind_some', inb_n hn]
    by_cases hs : set[i] ∈ out
    · rw [decide_eq_true hs, Bool.not_true, br_f, if_neg (fun h => h.1 hs)]
    · rw [decide_eq_false hs, Bool.not_false, br_t, l2Near_eq (g := (m, es)) hx hN, bind_some', wrap_succ (by omega), rdI_n hn]
      by_cases hnr : nearG es out[n] set[i]
      · rw [decide_eq_true hnr, br_t, l1Put_eq (by omega) hN]
        simp only [bind_some']
        rw [if_pos ⟨hs, out[n], by rw [drop_cons hn]; exact List.mem_cons_self .., hnr⟩]
        have hpl := putI_len_new hs
        obtain ⟨k', rfl⟩ : ∃ k', k = k' + 1 := ⟨k - 1, by omega⟩
        have hin : set[i] ∈ putI set[i] out := (putI_mem _ _ _).2 (.inl rfl)
        simp only [spec_l2Reach_l0_0_0]
        rw [ilt_len (show n + 1 < (putI set[i] out).length by omega), br_t, inb_n hi, chk_t, rdI_n hi, l1Has_eq (by omega) hN, bind_some', decide_eq_true hin, Bool.not_true, br_f]
      · rw [decide_eq_false hnr, br_f, ih (n + 1) k out hl (by omega) (by omega)]
        have : (set[i] ∉ out ∧ ∃ y ∈ out.drop n, nearG es y set[i]) ↔ (set[i] ∉ out ∧ ∃ y ∈ out.drop (n + 1), nearG es y set[i]) := by
          rw [drop_cons hn]
          constructor
          · rintro ⟨h1, y, hy, h2⟩
            rcases List.mem_cons.1 hy with rfl | hy
            · exact absurd h2 hnr
            · exact ⟨h1, y, hy, h2⟩
          · rintro ⟨h1, y, hy, h2⟩
            exact ⟨h1, y, List.mem_cons_of_mem _ hy, h2⟩
        by_cases hc : set[i] ∉ out ∧ ∃ y ∈ out.drop (n + 1), nearG es y set[i]
        · rw [if_pos hc, if_pos (this.2 hc)]
        · rw [if_neg hc, if_neg (fun h => hc (this.1 h))]
theorem l2Reach_eq {N : Nat} {m : Int} {es : List (Int × Int)} {set : List Int} {x : Int} (hx : es.length ≤ 1048576) (hs : set.length ≤ 1048575) (hxs : x ∈ set) (hN : 1048577 ≤ N) : spec_l2Reach N (m, es) set x = some ((reachS es set x, ()), ()) := by
  unfold spec_l2Reach
  have hsub : ∀ (l out : List Int), (∀ z ∈ l, z ∈ set) → strict out ∧ (∀ z ∈ out, z ∈ set) → strict (roundR es l out) ∧ ∀ z ∈ roundR es l out, z ∈ set := by
    intro l
    induction l with
    | nil => intro out _ h; exact h
    | cons s l ih =>
      intro out hl h
      obtain ⟨s1, s2, s3, s4, s5⟩ := stepR_facts (es := es) (s := s) h.1
      refine ih _ (fun z hz => hl z (List.mem_cons_of_mem _ hz)) ⟨s1, fun z hz => ?_⟩
      rcases s3 z hz with h' | ⟨rfl, _⟩
      · exact h.2 z h'
      · exact hl z (List.mem_cons_self ..)
  have hlen : ∀ out : List Int, strict out ∧ (∀ z ∈ out, z ∈ set) → out.length ≤ set.length := fun out h => nodup_le (strict_nodup h.1) h.2
  refine (loop_iter (L := fun K n o => spec_l2Reach_l0 N (fun o => some ((o, ()), ())) K set n m es o) (k := fun o => some ((o, ()), ())) (Inv := fun _ o => strict o ∧ ∀ z ∈ o, z ∈ set) (step := fun _ o => roundR es set o) (fun K n s hn _ => ?_) (fun K n s hn hi => ?_) (fun n s hn h => hsub set s (fun z hz => hz) h) (s := [x]) (m := set.length) (K := N) (by omega) ⟨List.pairwise_singleton .., fun z hz => by simp at hz; rw [hz]; exact hxs⟩)
  · simp only [spec_l2Reach_l0, ilt_lenf hn, br_f]
  · simp only [spec_l2Reach_l0, ilt_len hn, br_t]
    have key := (loop_list (xs := set) (L := fun K' i o => spec_l2Reach_l0_0 N (fun setv2 round1 o3 o4 o5 => spec_l2Reach_l0 N (fun o => some ((o, ()), ())) K setv2 (IntKind.i64.wrap (round1 + 1)) o3 o4 o5) K' set n i m es o) (k := fun o => spec_l2Reach_l0 N (fun o => some ((o, ()), ())) K set (IntKind.i64.wrap ((n : Int) + 1)) m es o) (stepR es) (fun _ o => strict o ∧ ∀ z ∈ o, z ∈ set) (fun K' i s hi' _ => ?_) (fun K' i s hi' h => ?_) (fun i s hi' h => ?_) (s := s) (K := N) (by omega) hi).1
    · rw [wrap_succ (by omega)] at key
      exact key
    · simp only [spec_l2Reach_l0_0, ilt_lenf hi', br_f]
    · have := hlen s h
      simp only [spec_l2Reach_l0_0, ilt_len hi', br_t]
      have e := Reach_in_eq (N := N) (fun setv3 round2 i1 o6 o7 o8 => spec_l2Reach_l0_0 N (fun setv2 round1 o3 o4 o5 => spec_l2Reach_l0 N (fun o => some ((o, ()), ())) K setv2 (IntKind.i64.wrap (round1 + 1)) o3 o4 o5) K' setv3 round2 (IntKind.i64.wrap (i1 + 1)) o6 o7 o8) (rd := (n : Int)) (m := m) hx hi' hN s.length 0 N s (by omega) (by omega) (by omega)
      rw [show ((0 : Nat) : Int) = 0 from rfl, List.drop_zero] at e
      rw [e, wrap_succ (by omega)]
      rfl
    · have := hsub [set[i]] s (fun z hz => by simp at hz; rw [hz]; exact List.getElem_mem hi') h
      exact this
theorem Rch_congr {es : List (Int × Int)} {A B : Int → Prop} {x : Int} (h : ∀ y z, nearG es y z → A z → B z) : ∀ {z : Int}, Rch es A x z → Rch es B x z := by
  intro z hz
  induction hz with
  | base => exact .base
  | step _ hn hA ih => exact .step ih hn (h _ _ hn hA)
def inM (m : Nat) (o : List Int) : Prop := o.Nodup ∧ ∀ z ∈ o, 0 ≤ z ∧ z < (m : Int)
theorem inM_len {m : Nat} {o : List Int} (h : inM m o) : o.length ≤ m := by
  have := nodup_le (b := (List.range m).map fun i : Nat => (i : Int)) h.1 fun z hz => by
    have := h.2 z hz
    exact List.mem_map.2 ⟨z.toNat, List.mem_range.2 (by omega), by omega⟩
  simpa using this
theorem rising_in {lo hi : Int} {xs : List Int} (h : rising lo hi xs) : ∀ x ∈ xs, lo ≤ x ∧ x ≤ hi := all_rdI.2 fun i hi => (h i hi).1
def InN (n : Nat) (x : Int) : Prop := 0 ≤ x ∧ x < (n : Int)
def EdgesIn (n : Nat) (es : List (Int × Int)) : Prop := ∀ e ∈ es, InN n e.1 ∧ InN n e.2
def Cn (es : List (Int × Int)) (x y : Int) : Prop := Rch es (fun _ => True) x y
theorem Cn_refl {es : List (Int × Int)} {x : Int} : Cn es x x := Rch.base
theorem Cn_trans {es : List (Int × Int)} {x y z : Int} (h : Cn es x y) (h' : Cn es y z) : Cn es x z := by
  induction h' with
  | base => exact h
  | step _ hn ht ih => exact Rch.step ih hn ht
theorem Cn_near {es : List (Int × Int)} {x y : Int} (h : nearG es x y) : Cn es x y := Rch.step Rch.base h trivial
theorem Cn_symm {es : List (Int × Int)} {x y : Int} (h : Cn es x y) : Cn es y x := by
  induction h with
  | base => exact Cn_refl
  | step _ hn _ ih => exact Cn_trans (Cn_near (Or.symm hn)) ih
theorem Cn_mono {es es' : List (Int × Int)} (hs : ∀ e ∈ es, e ∈ es') {x y : Int} (h : Cn es x y) : Cn es' x y := by
  induction h with
  | base => exact Cn_refl
  | step _ hn _ ih => exact Cn_trans ih (Cn_near (hn.imp (hs _) (hs _)))
theorem Cn_nil {x y : Int} : Cn [] x y ↔ x = y := by
  constructor
  · intro h
    cases h with
    | base => rfl
    | step _ hn _ => rcases hn with hn | hn <;> exact absurd hn (by simp)
  · rintro rfl
    exact Cn_refl
theorem Cn_add {es : List (Int × Int)} {e : Int × Int} {x y : Int} : Cn (es ++ [e]) x y ↔ Cn es x y ∨ (Cn es x e.1 ∧ Cn es e.2 y) ∨ (Cn es x e.2 ∧ Cn es e.1 y) := by
  constructor
  · intro h
    induction h with
    | base => exact .inl Cn_refl
    | @step y z _ hn _ ih =>
      have hn' : nearG es y z ∨ (y, z) = e ∨ (z, y) = e := by
        rcases hn with hn | hn
        · rcases List.mem_append.1 hn with h | h
          · exact .inl (.inl h)
          · exact .inr (.inl (by simpa using h))
        · rcases List.mem_append.1 hn with h | h
          · exact .inl (.inr h)
          · exact .inr (.inr (by simpa using h))
      rcases hn' with hn' | rfl | rfl
      · have hyz := Cn_near hn'
        rcases ih with h | ⟨h1, h2⟩ | ⟨h1, h2⟩
        · exact .inl (Cn_trans h hyz)
        · exact .inr (.inl ⟨h1, Cn_trans h2 hyz⟩)
        · exact .inr (.inr ⟨h1, Cn_trans h2 hyz⟩)
      · rcases ih with h | ⟨h1, h2⟩ | ⟨h1, h2⟩
        · exact .inr (.inl ⟨h, Cn_refl⟩)
        · exact .inr (.inl ⟨h1, Cn_refl⟩)
        · exact .inl h1
      · rcases ih with h | ⟨h1, h2⟩ | ⟨h1, h2⟩
        · exact .inr (.inr ⟨h, Cn_refl⟩)
        · exact .inl h1
        · exact .inr (.inr ⟨h1, Cn_refl⟩)
  · have hm : ∀ {x y}, Cn es x y → Cn (es ++ [e]) x y := fun h => Cn_mono (fun e h => List.mem_append_left _ h) h
    have he : Cn (es ++ [e]) e.1 e.2 := Cn_near (.inl (by simp))
    rintro (h | ⟨h1, h2⟩ | ⟨h1, h2⟩)
    · exact hm h
    · exact Cn_trans (hm h1) (Cn_trans he (hm h2))
    · exact Cn_trans (hm h1) (Cn_trans (Cn_symm he) (hm h2))
/-! ### Nodes that stand for their parts -/
structure Rep (n : Nat) (es : List (Int × Int)) (ρ : Int → Int) : Prop where
  rng : ∀ x, InN n x → InN n (ρ x)
  idem : ∀ x, InN n x → ρ (ρ x) = ρ x
  cn : ∀ x y, InN n x → InN n y → (ρ x = ρ y ↔ Cn es x y)
def fixN (n : Nat) (ρ : Int → Int) : List Nat := (List.range n).filter fun i => decide (ρ i = i)
theorem mem_fixN {n : Nat} {ρ : Int → Int} {i : Nat} : i ∈ fixN n ρ ↔ i < n ∧ ρ i = i := by
  unfold fixN
  rw [List.mem_filter, List.mem_range, decide_eq_true_iff]
theorem fixN_nodup (n : Nat) (ρ : Int → Int) : (fixN n ρ).Nodup := List.Pairwise.filter _ List.nodup_range
theorem rep_nil (n : Nat) : Rep n [] (fun x => x) := ⟨fun _ h => h, fun _ _ => rfl, fun _ _ _ _ => Cn_nil.symm⟩
theorem fix_nil (n : Nat) : (fixN n fun x => x).length = n := by
  unfold fixN
  rw [List.filter_eq_self.2 (by simp), List.length_range]
noncomputable def joinF (ρ : Int → Int) (e : Int × Int) : Int → Int := fun x => if ρ x = ρ e.1 then ρ e.2 else ρ x
theorem rep_add {n : Nat} {es : List (Int × Int)} {ρ : Int → Int} (h : Rep n es ρ) {e : Int × Int} (h1 : InN n e.1) (h2 : InN n e.2) : Rep n (es ++ [e]) (joinF ρ e) := by
  have hr : ∀ x, InN n x → ρ (joinF ρ e x) = joinF ρ e x := by
    intro x hx
    unfold joinF
    by_cases hc : ρ x = ρ e.1
    · rw [if_pos hc, h.idem _ h2]
    · rw [if_neg hc, h.idem _ hx]
  refine ⟨fun x hx => ?_, fun x hx => ?_, fun x y hx hy => ?_⟩
  · unfold joinF
    by_cases hc : ρ x = ρ e.1
    · rw [if_pos hc]; exact h.rng _ h2
    · rw [if_neg hc]; exact h.rng _ hx
  · have e1 := hr x hx
    have e2 : joinF ρ e (joinF ρ e x) = if joinF ρ e x = ρ e.1 then ρ e.2 else joinF ρ e x := by
      show (if ρ (joinF ρ e x) = ρ e.1 then ρ e.2 else ρ (joinF ρ e x)) = _
      rw [e1]
    rw [e2]
    by_cases hc : joinF ρ e x = ρ e.1
    · rw [if_pos hc]
      unfold joinF at hc ⊢
      by_cases hd : ρ x = ρ e.1
      · rw [if_pos hd]
      · rw [if_neg hd] at hc
        exact absurd hc hd
    · rw [if_neg hc]
  · rw [Cn_add, ← h.cn x y hx hy, ← h.cn x e.1 hx h1, ← h.cn e.2 y h2 hy, ← h.cn x e.2 hx h2, ← h.cn e.1 y h1 hy]
    unfold joinF
    by_cases ha : ρ x = ρ e.1 <;> by_cases hb : ρ y = ρ e.1
    · rw [if_pos ha, if_pos hb]
      simp [ha, hb]
    · rw [if_pos ha, if_neg hb]
      constructor
      · intro h; exact .inr (.inl ⟨ha, h⟩)
      · rintro (h | ⟨_, h⟩ | ⟨_, h⟩)
        · exact absurd (h ▸ ha) hb
        · exact h
        · exact absurd h.symm hb
    · rw [if_neg ha, if_pos hb]
      constructor
      · intro h; exact .inr (.inr ⟨h, hb.symm⟩)
      · rintro (h | ⟨h, _⟩ | ⟨h, _⟩)
        · exact absurd (h.trans hb) ha
        · exact absurd h ha
        · exact h
    · rw [if_neg ha, if_neg hb]
      constructor
      · intro h; exact .inl h
      · rintro (h | ⟨h, _⟩ | ⟨_, h⟩)
        · exact h
        · exact absurd h ha
        · exact absurd h.symm hb
theorem nat_of {n : Nat} {x : Int} (h : InN n x) : ∃ i : Nat, i < n ∧ x = (i : Int) := by
  obtain ⟨h1, h2⟩ := h
  exact ⟨x.toNat, by omega, by omega⟩
theorem in_nat {n i : Nat} (h : i < n) : InN n (i : Int) := ⟨by omega, by omega⟩
/-- A join of two parts takes one of those that stand for parts away. -/
theorem fix_add {n : Nat} {es : List (Int × Int)} {ρ : Int → Int} (h : Rep n es ρ) {e : Int × Int} (h1 : InN n e.1) (h2 : InN n e.2) : (fixN n (joinF ρ e)).length + (if Cn es e.1 e.2 then 0 else 1) = (fixN n ρ).length := by
  by_cases hc : Cn es e.1 e.2
  · rw [if_pos hc, Nat.add_zero]
    have he := (h.cn _ _ h1 h2).2 hc
    have : joinF ρ e = ρ := by
      funext x
      unfold joinF
      by_cases hx : ρ x = ρ e.1
      · rw [if_pos hx, hx, he]
      · rw [if_neg hx]
    rw [this]
  · rw [if_neg hc]
    have hne : ρ e.1 ≠ ρ e.2 := fun he => hc ((h.cn _ _ h1 h2).1 he)
    obtain ⟨a, ha, ea⟩ := nat_of (h.rng _ h1)
    have hmem : a ∈ fixN n ρ := mem_fixN.2 ⟨ha, by rw [← ea]; exact h.idem _ h1⟩
    have : fixN n (joinF ρ e) = (fixN n ρ).erase a := by
      rw [(fixN_nodup n ρ).erase_eq_filter]
      unfold fixN
      rw [List.filter_filter]
      refine List.filter_congr fun i hi => ?_
      have hi' := in_nat (List.mem_range.1 hi)
      have ida : ρ (ρ e.1) = ρ e.1 := h.idem _ h1
      have idb : ρ (ρ e.2) = ρ e.2 := h.idem _ h2
      unfold joinF
      by_cases hx : ρ (i : Int) = ρ e.1
      · rw [if_pos hx]
        have : ¬ ρ e.2 = (i : Int) := by
          intro hb
          rw [← hb, idb] at hx
          exact hne hx.symm
        rw [decide_eq_false this]
        by_cases hia : i = a
        · simp [hia]
        · have : ¬ ρ (i : Int) = (i : Int) := by
            intro hf
            rw [hx, ea] at hf
            exact hia (by omega)
          simp [this]
      · rw [if_neg hx]
        have : i ≠ a := by
          rintro rfl
          rw [← ea] at hx
          exact hx ida
        simp [this]
    rw [this, List.length_erase_of_mem hmem]
    have := List.length_pos_of_mem hmem
    omega
theorem rep_one {n : Nat} (hn : 1 ≤ n) {es : List (Int × Int)} {ρ : Int → Int} (h : Rep n es ρ) : 1 ≤ (fixN n ρ).length ∧ ((fixN n ρ).length = 1 ↔ ∀ x, InN n x → Cn es 0 x) := by
  have h0 : InN n 0 := ⟨by omega, by omega⟩
  obtain ⟨a, ha, ea⟩ := nat_of (h.rng _ h0)
  have hmem : a ∈ fixN n ρ := mem_fixN.2 ⟨ha, by rw [← ea]; exact h.idem _ h0⟩
  refine ⟨List.length_pos_of_mem hmem, fun hl x hx => ?_, fun hall => ?_⟩
  · obtain ⟨b, hb, eb⟩ := nat_of (h.rng _ hx)
    have hmb : b ∈ fixN n ρ := mem_fixN.2 ⟨hb, by rw [← eb]; exact h.idem _ hx⟩
    obtain ⟨c, hc⟩ := List.length_eq_one_iff.1 hl
    rw [hc] at hmem hmb
    simp at hmem hmb
    exact (h.cn _ _ h0 hx).1 (by rw [ea, eb, hmem, hmb])
  · have : fixN n ρ = [a] := by
      have hall' : ∀ i ∈ fixN n ρ, i = a := by
        intro i hi
        obtain ⟨hi1, hi2⟩ := mem_fixN.1 hi
        have := (h.cn _ _ h0 (in_nat hi1)).2 (hall _ (in_nat hi1))
        rw [hi2, ea] at this
        omega
      have hnd := fixN_nodup n ρ
      cases hf : fixN n ρ with
      | nil => rw [hf] at hmem; exact absurd hmem (by simp)
      | cons b l =>
        rw [hf] at hall' hnd
        cases l with
        | nil => rw [hall' b (by simp)]
        | cons c l =>
          have e1 := hall' b (by simp)
          have e2 := hall' c (by simp)
          rw [e1, e2] at hnd
          simp at hnd
    rw [this]
    rfl
/-! ### Lists without a circle -/
inductive Acy : List (Int × Int) → Prop
  | nil : Acy []
  | snoc {es : List (Int × Int)} {e : Int × Int} : Acy es → ¬ Cn es e.1 e.2 → Acy (es ++ [e])
theorem acy_snoc {es : List (Int × Int)} {e : Int × Int} : Acy (es ++ [e]) ↔ Acy es ∧ ¬ Cn es e.1 e.2 := by
  constructor
  · intro h
    generalize hq : es ++ [e] = q at h
    cases h with
    | nil => simp at hq
    | snoc h1 h2 =>
      obtain ⟨e1, e2⟩ := List.append_inj' hq rfl
      simp at e2
      subst e1; subst e2
      exact ⟨h1, h2⟩
  · exact fun h => .snoc h.1 h.2
theorem acy_count {n : Nat} : ∀ (es : List (Int × Int)), EdgesIn n es → ∃ ρ, Rep n es ρ ∧ n ≤ (fixN n ρ).length + es.length ∧ ((fixN n ρ).length + es.length = n ↔ Acy es) := by
  intro es
  have key : ∀ (m : Nat) (es : List (Int × Int)), es.length = m → EdgesIn n es → ∃ ρ, Rep n es ρ ∧ n ≤ (fixN n ρ).length + es.length ∧ ((fixN n ρ).length + es.length = n ↔ Acy es) := by
    intro m
    induction m with
    | zero =>
      intro es hl _
      have := List.length_eq_zero_iff.1 hl
      subst this
      exact ⟨_, rep_nil n, by rw [fix_nil]; omega, fun _ => .nil, fun _ => by rw [fix_nil]; rfl⟩
    | succ m ih =>
      intro es hl he
      rcases List.eq_nil_or_concat es with rfl | ⟨es', e, e0⟩
      · simp at hl
      · rw [List.concat_eq_append] at e0
        subst e0
        obtain ⟨ρ, h1, h2, h3⟩ := ih es' (by simpa using hl) fun x hx => he x (List.mem_append_left _ hx)
        obtain ⟨he1, he2⟩ := he e (by simp)
        have hf := fix_add h1 he1 he2
        refine ⟨_, rep_add h1 he1 he2, ?_, ?_⟩
        · rw [List.length_append]
          simp only [List.length_singleton]
          split at hf <;> omega
        · rw [acy_snoc, ← h3, List.length_append]
          simp only [List.length_singleton]
          by_cases hc : Cn es' e.1 e.2
          · rw [if_pos hc] at hf
            constructor
            · intro h; omega
            · rintro ⟨_, h⟩; exact absurd hc h
          · rw [if_neg hc] at hf
            constructor
            · intro h; exact ⟨by omega, hc⟩
            · rintro ⟨h, _⟩; omega
  exact key es.length es rfl
theorem tree_iff {n : Nat} (hn : 1 ≤ n) {es : List (Int × Int)} (he : EdgesIn n es) (hl : es.length + 1 = n) : Acy es ↔ ∀ x, InN n x → Cn es 0 x := by
  obtain ⟨ρ, h1, h2, h3⟩ := acy_count es he
  rw [← h3, ← (rep_one hn h1).2]
  omega
/-! ### The joiner -/
def Pth (j : List Int) : Nat → Int → Int → Prop
  | 0, x, r => x = r
  | d + 1, x, r => x = r ∨ (rdI j x ≠ x ∧ (0 ≤ rdI j x ∧ rdI j x < (j.length : Int)) ∧ Pth j d (rdI j x) r)
structure UF (n : Nat) (es : List (Int × Int)) (j : List Int) (d : Nat) (ρ : Int → Int) : Prop extends Rep n es ρ where
  len : j.length = n
  fix : ∀ x, InN n x → rdI j (ρ x) = ρ x
  pth : ∀ x, InN n x → Pth j d x (ρ x)
theorem root_l0_eq {R : Type} {N : Nat} (k0 : Int → Option R) {j : List Int} {r : Int} (hr : rdI j r = r) (hr' : 0 ≤ r ∧ r < (j.length : Int)) : ∀ (d K : Nat) (x : Int), d < K → 0 ≤ x ∧ x < (j.length : Int) → Pth j d x r → impl_joiner_root_l0 N k0 K j x = k0 r := by
  intro d
  induction d with
  | zero =>
    intro K x hK hx hp
    obtain ⟨k, rfl⟩ := succ_of hK
    have : x = r := hp
    subst this
    simp only [impl_joiner_root_l0]
    rw [inb_i hx.1 hx.2, chk_t, ine_f hr, br_f]
  | succ d ih =>
    intro K x hK hx hp
    obtain ⟨k, rfl⟩ := succ_of hK
    simp only [impl_joiner_root_l0]
    rcases hp with rfl | ⟨h1, h2, h3⟩
    · rw [inb_i hx.1 hx.2, chk_t, ine_f hr, br_f]
    · rw [inb_i hx.1 hx.2, chk_t, ine_t h1, br_t, chk_t]
      exact ih k _ (by omega) h2 h3
theorem root_eq {N n d : Nat} {es : List (Int × Int)} {j : List Int} {ρ : Int → Int} (h : UF n es j d ρ) (hd : d < N) {x : Int} (hx : InN n x) : impl_joiner_root N j x = some ((ρ x, ()), ()) := by
  unfold impl_joiner_root
  have hr := h.rng x hx
  refine root_l0_eq _ (h.fix x hx) ⟨hr.1, by rw [h.len]; exact hr.2⟩ d N x hd ⟨hx.1, by rw [h.len]; exact hx.2⟩ (h.pth x hx)
theorem pth_set {j : List Int} {a b : Nat} (ha : a < j.length) (hb : b < j.length) (hra : rdI j a = a) : ∀ (d : Nat) (x r : Int), 0 ≤ x → rdI j r = r → Pth j d x r → (r ≠ a → Pth (tSet j a b) d x r) ∧ (r = a → Pth (tSet j a b) (d + 1) x b) := by
  intro d
  induction d with
  | zero =>
    intro x r hx hr hp
    have : x = r := hp
    subst this
    refine ⟨fun _ => rfl, fun hxa => ?_⟩
    subst hxa
    have e := rdI_set ha (b : Int) (a : Int) (by omega)
    rw [if_pos rfl] at e
    by_cases hab : (a : Int) = b
    · exact .inl hab
    · refine .inr ⟨by rw [e]; exact fun h => hab h.symm, by rw [e, tSet_n, List.length_set]; omega, ?_⟩
      rw [e]
      rfl
  | succ d ih =>
    intro x r hx hr hp
    rcases hp with rfl | ⟨h1, h2, h3⟩
    · refine ⟨fun _ => .inl rfl, fun hxa => ?_⟩
      subst hxa
      have e := rdI_set ha (b : Int) (a : Int) (by omega)
      rw [if_pos rfl] at e
      by_cases hab : (a : Int) = b
      · exact .inl hab
      · refine .inr ⟨by rw [e]; exact fun h => hab h.symm, by rw [e, tSet_n, List.length_set]; omega, ?_⟩
        rw [e]
        exact .inl rfl
    · have hxa : x ≠ a := fun h => h1 (by rw [h, hra])
      have e := rdI_set ha (b : Int) x hx
      rw [if_neg hxa] at e
      obtain ⟨i1, i2⟩ := ih (rdI j x) r h2.1 hr h3
      constructor
      · intro hr'
        exact .inr ⟨by rw [e]; exact h1, by rw [e, tSet_n, List.length_set]; exact h2, by rw [e]; exact i1 hr'⟩
      · intro hr'
        exact .inr ⟨by rw [e]; exact h1, by rw [e, tSet_n, List.length_set]; exact h2, by rw [e]; exact i2 hr'⟩
theorem pth_up {j : List Int} : ∀ (d : Nat) (x r : Int), Pth j d x r → Pth j (d + 1) x r := by
  intro d
  induction d with
  | zero => intro x r h; exact .inl h
  | succ d ih =>
    intro x r h
    rcases h with h | ⟨h1, h2, h3⟩
    · exact .inl h
    · exact .inr ⟨h1, h2, ih _ _ h3⟩
theorem join_eq {N n d : Nat} {es : List (Int × Int)} {j : List Int} {ρ : Int → Int} (h : UF n es j d ρ) (hd : d < N) {e : Int × Int} (h1 : InN n e.1) (h2 : InN n e.2) :
    ∃ j', impl_joiner_join N j e = some ((decide (¬ Cn es e.1 e.2), ()), (j', ())) ∧ UF n (es ++ [e]) j' (d + 1) (joinF ρ e) := by
  obtain ⟨a, ha, ea⟩ := nat_of (h.rng _ h1)
  obtain ⟨b, hb, eb⟩ := nat_of (h.rng _ h2)
  have hla : a < j.length := by rw [h.len]; exact ha
  have hlb : b < j.length := by rw [h.len]; exact hb
  have hra : rdI j a = a := by rw [← ea]; exact h.fix _ h1
  have hrb : rdI j b = b := by rw [← eb]; exact h.fix _ h2
  refine ⟨tSet j a b, ?_, rep_add h.toRep h1 h2, ?_, ?_, ?_⟩
  · unfold impl_joiner_join
    rw [root_eq h hd h1, root_eq h hd h2]
    simp only [bind_some']
    rw [ea, eb, inb_n hla, chk_t]
    congr 4
    by_cases hc : Cn es e.1 e.2
    · have := (h.cn _ _ h1 h2).2 hc
      rw [ea, eb] at this
      rw [ine_f this, decide_eq_false (fun h => h hc)]
    · have : (a : Int) ≠ b := fun hab => hc ((h.cn _ _ h1 h2).1 (by rw [ea, eb, hab]))
      rw [ine_t this, decide_eq_true hc]
  · rw [tSet_n, List.length_set]; exact h.len
  · intro x hx
    unfold joinF
    rw [ea, eb]
    by_cases hc : ρ x = a
    · rw [if_pos hc]
      have := rdI_set hla (b : Int) (b : Int) (by omega)
      rw [this]
      by_cases hba : (b : Int) = a
      · rw [if_pos hba]
      · rw [if_neg hba, hrb]
    · rw [if_neg hc]
      have := rdI_set hla (b : Int) (ρ x) (h.rng x hx).1
      rw [this, if_neg hc]
      exact h.fix x hx
  · intro x hx
    obtain ⟨i1, i2⟩ := pth_set hla hlb hra d x (ρ x) hx.1 (h.fix x hx) (h.pth x hx)
    unfold joinF
    rw [ea, eb]
    by_cases hc : ρ x = a
    · rw [if_pos hc]; exact i2 hc
    · rw [if_neg hc]; exact pth_up _ _ _ (i1 hc)
theorem newJoiner_eq {N n : Nat} (hn : n ≤ 1048576) (hN : 1048577 ≤ N) : ∃ j, impl_newJoiner N (n : Int) = some ((j, ()), ()) ∧ UF n [] j 0 (fun x => x) := by
  have go : ∀ (d i K : Nat), i + d = n → d < K → impl_newJoiner_l0 N (fun o => some ((o, ()), ())) K (n : Int) (i : Int) ((List.range i).map fun i : Nat => (i : Int)) = some (((List.range n).map (fun i : Nat => (i : Int)), ()), ()) := by
    intro d
    induction d with
    | zero =>
      intro i K hd hK
      obtain ⟨k, rfl⟩ := succ_of hK
      have : i = n := by omega
      subst this
      simp only [impl_newJoiner_l0, ilt_nf (Nat.lt_irrefl i), br_f]
    | succ d ih =>
      intro i K hd hK
      obtain ⟨k, rfl⟩ := succ_of hK
      simp only [impl_newJoiner_l0, ilt_n (show i < n by omega), br_t]
      rw [room_ok (by simp; omega), chk_t, wrap_succ (by omega), tApp_d, ← ih (i + 1) k (by omega) (by omega), List.range_succ, List.map_append]
      rfl
  have hlen : ((List.range n).map fun i : Nat => (i : Int)).length = n := by simp
  have hrd : ∀ x, InN n x → rdI ((List.range n).map fun i : Nat => (i : Int)) x = x := by
    intro x hx
    obtain ⟨i, hi, rfl⟩ := nat_of hx
    rw [rdI_n (by rw [hlen]; exact hi)]
    simp
  refine ⟨_, go n 0 N (by omega) (by omega), rep_nil n, hlen, hrd, fun x _ => rfl⟩
def treeE (es : List (Int × Int)) (L : List Int) : List (Int × Int) := L.map fun i => rdP es i
theorem l7Part_eq {N : Nat} {m : Int} {es : List (Int × Int)} {L : List Int} (hL : ∀ i ∈ L, 0 ≤ i ∧ i < (es.length : Int)) (hl : L.length ≤ 1048576) (hN : 1048577 ≤ N) : spec_l7Part N (m, es) L = some (((m, treeE es L), ()), ()) := by
  unfold spec_l7Part
  refine ((loop_list (xs := L) (L := fun K i o => spec_l7Part_l0 N (fun o o1 o2 => some (((o1, o2), ()), ())) K L i m es 0 m o) (k := fun o => some (((m, o), ()), ())) (fun o i => o ++ [rdP es i]) (fun n s => s.length = n) (fun K n s hn _ => ?_) (fun K n s hn hs => ?_) (fun n s hn hs => ?_) (s := []) (K := N) (by omega) rfl).1).trans ?_
  · simp only [spec_l7Part_l0, ilt_lenf hn, br_f]
  · have := hL _ (List.getElem_mem hn)
    simp only [spec_l7Part_l0, ilt_len hn, br_t, inb_n hn, chk_t, rdI_n hn, inb_i this.1 this.2]
    rw [room_ok (by simp; omega), chk_t, wrap_succ (by omega), tApp_d]
  · simp [hs]
  · have go : ∀ (L : List Int) (o : List (Int × Int)), L.foldl (fun o i => o ++ [rdP es i]) o = o ++ treeE es L := by
      intro L
      induction L with
      | nil => intro o; simp [treeE]
      | cons i L ih => intro o; rw [List.foldl_cons, ih]; simp [treeE]
    rw [go]
    rfl
theorem bitsTab : ((List.range 9).all fun n => (List.range n).all fun x => ieq (bitop .and .i64 (shrI .i64 (IntKind.i64.wrap ((shlI .i64 1 (n : Int)) - 1)) (x : Int)) 1) 1) = true := by kernel_rfl
noncomputable def allN (m : Nat) : List Int := (List.range' 0 m).map fun i : Nat => (i : Int)
theorem mem_allN {m : Nat} {x : Int} : x ∈ allN m ↔ InN m x := by
  unfold allN
  rw [List.mem_map]
  constructor
  · rintro ⟨i, hi, rfl⟩
    have := List.mem_range'_1.1 hi
    exact in_nat (by omega)
  · intro h
    obtain ⟨i, hi, rfl⟩ := nat_of h
    exact ⟨i, List.mem_range'_1.2 (by omega), rfl⟩
theorem allN_len (m : Nat) : (allN m).length = m := by simp [allN]
theorem l2Bits_all {N : Nat} {m : Nat} (hm : m ≤ 8) (hN : 1048577 ≤ N) : spec_l2Bits N (m : Int) (IntKind.i64.wrap ((shlI .i64 1 (m : Int)) - 1)) = some ((allN m, ()), ()) := by
  unfold spec_l2Bits
  have tab : ∀ x, x < m → ieq (bitop .and .i64 (shrI .i64 (IntKind.i64.wrap ((shlI .i64 1 (m : Int)) - 1)) (x : Int)) 1) 1 = true := fun x hx =>
    List.all_eq_true.1 (List.all_eq_true.1 bitsTab m (List.mem_range.2 (by omega))) x (List.mem_range.2 hx)
  generalize IntKind.i64.wrap ((shlI .i64 1 (m : Int)) - 1) = c at tab ⊢
  refine (loop_iter (L := fun K n o => spec_l2Bits_l0 N (fun o => some ((o, ()), ())) K (m : Int) c n o) (k := fun o => some ((o, ()), ())) (Inv := fun n o => o.length = n) (step := fun n o => if True then o ++ [(n : Int)] else o) (fun K n s hn _ => ?_) (fun K n s hn hs => ?_) (fun n s hn h => ?_) (s := []) (m := m) (K := N) (by omega) rfl).trans ?_
  · simp only [spec_l2Bits_l0, ilt_nf hn, br_f]
  · simp only [spec_l2Bits_l0, ilt_n hn, br_t]
    rw [ile_t (by omega), chk_t, tab n hn, br_t, room_ok (by simp; omega), chk_t, wrap_succ (by omega), tApp_d, if_pos trivial]
  · rw [if_pos trivial]; simp [h]
  · rw [iter_app, List.nil_append]
    rw [List.filter_eq_self.2 (by simp)]
    rfl
/-- The parts of a graph, one behind the other. -/
noncomputable def pieceF (es : List (Int × Int)) (set : List Int) (st : List (List Int) × List Int) (x : Int) : List (List Int) × List Int :=
  if x ∈ st.2 then st else (st.1 ++ [reachS es set x], (reachS es set x).foldl (fun p z => putI z p) st.2)
theorem fold_put_mem {z : Int} : ∀ (xs p : List Int), z ∈ xs.foldl (fun p x => putI x p) p ↔ z ∈ p ∨ z ∈ xs := by
  intro xs
  induction xs with
  | nil => intro p; simp
  | cons x xs ih =>
    intro p
    rw [List.foldl_cons, ih, putI_mem, List.mem_cons]
    constructor
    · rintro ((h | h) | h)
      · exact .inr (.inl h)
      · exact .inl h
      · exact .inr (.inr h)
    · rintro (h | h | h)
      · exact .inl (.inr h)
      · exact .inl (.inl h)
      · exact .inr h
theorem putI_inM {m : Nat} {o : List Int} {x : Int} (h : strict o ∧ ∀ z ∈ o, InN m z) (hx : InN m x) : strict (putI x o) ∧ ∀ z ∈ putI x o, InN m z := by
  refine ⟨putI_strict h.1, fun z hz => ?_⟩
  rcases (putI_mem x z o).1 hz with rfl | hz
  · exact hx
  · exact h.2 z hz
theorem inN_len {m : Nat} {o : List Int} (h : strict o ∧ ∀ z ∈ o, InN m z) : o.length ≤ m := by
  have := nodup_le (strict_nodup h.1) (b := allN m) fun z hz => mem_allN.2 (h.2 z hz)
  rwa [allN_len] at this
theorem l2Pieces_eq {N : Nat} {m : Nat} {es : List (Int × Int)} (hm : m ≤ 8) (hx : es.length ≤ 1048576) (hN : 1048577 ≤ N) : spec_l2Pieces N ((m : Int), es) (allN m) = some ((((allN m).foldl (pieceF es (allN m)) ([], [])).1, ()), ()) := by
  unfold spec_l2Pieces
  have hlen := allN_len m
  have hin : ∀ x ∈ allN m, (∀ z ∈ reachS es (allN m) x, InN m z) ∧ (reachS es (allN m) x).length ≤ m := by
    intro x hx
    obtain ⟨h1, h2⟩ := reachS_spec (es := es) hx
    have h3 : ∀ z ∈ reachS es (allN m) x, InN m z := fun z hz => mem_allN.1 (Rch_in hx ((h2 z).1 hz))
    exact ⟨h3, inN_len ⟨h1, h3⟩⟩
  have hfold : ∀ (xs o : List Int), (∀ z ∈ xs, InN m z) → (strict o ∧ ∀ z ∈ o, InN m z) → strict (xs.foldl (fun p z => putI z p) o) ∧ ∀ z ∈ xs.foldl (fun p z => putI z p) o, InN m z := by
    intro xs
    induction xs with
    | nil => intro o _ h; exact h
    | cons x xs ih => intro o hz h; exact ih _ (fun z h' => hz z (List.mem_cons_of_mem _ h')) (putI_inM h (hz x (List.mem_cons_self ..)))
  refine (loop_list (xs := allN m) (L := fun K i (st : List (List Int) × List Int) => spec_l2Pieces_l0 N (fun o => some ((o, ()), ())) K (allN m) i (m : Int) es st.1 st.2) (k := fun st => some ((st.1, ()), ())) (pieceF es (allN m)) (fun n st => st.1.length ≤ n ∧ strict st.2 ∧ ∀ z ∈ st.2, InN m z) (fun K n s hn _ => ?_) (fun K n s hn hs => ?_) (fun n s hn hs => ?_) (s := ([], [])) (K := N) (by omega) ⟨Nat.le_refl _, List.Pairwise.nil, by simp⟩).1
  · simp only [spec_l2Pieces_l0, ilt_lenf hn, br_f]
  · have hl := inN_len hs.2
    have hmem := List.getElem_mem hn
    obtain ⟨hr1, hr2⟩ := hin _ hmem
    simp only [spec_l2Pieces_l0, ilt_len hn, br_t, inb_n hn, chk_t, rdI_n hn, l1Has_eq (show s.2.length ≤ 1048576 by omega) hN, bind_some']
    unfold pieceF
    by_cases hc : (allN m)[n] ∈ s.2
    · rw [if_pos hc, decide_eq_true hc, br_t, wrap_succ (by omega)]
    · rw [if_neg hc, decide_eq_false hc, br_f, l2Reach_eq hx (by omega) hmem hN]
      simp only [bind_some']
      have key := (loop_list (xs := reachS es (allN m) (allN m)[n]) (L := fun K' i o => spec_l2Pieces_l0_0 N (fun setv2 i1 o4 o5 o6 o7 o8 => (chk (room o6 [o8]) (spec_l2Pieces_l0 N (fun o => some ((o, ()), ())) K setv2 (IntKind.i64.wrap (i1 + 1)) o4 o5 (tApp o6 [o8]) o7))) K' (allN m) n i (m : Int) es s.1 o (reachS es (allN m) (allN m)[n]))
        (k := fun o => (chk (room s.1 [reachS es (allN m) (allN m)[n]]) (spec_l2Pieces_l0 N (fun o => some ((o, ()), ())) K (allN m) (IntKind.i64.wrap ((n : Int) + 1)) (m : Int) es (tApp s.1 [reachS es (allN m) (allN m)[n]]) o))) (fun p z => putI z p) (fun _ o => strict o ∧ ∀ z ∈ o, InN m z) (fun K' i o hi _ => ?_) (fun K' i o hi ho => ?_) (fun i o hi ho => putI_inM ho (hr1 _ (List.getElem_mem hi))) (s := s.2) (K := N) (by omega) hs.2).1
      · simp only [Int.natCast_zero] at key
        rw [key, room_ok (by simp; omega), chk_t, wrap_succ (by omega), tApp_d]
      · simp only [spec_l2Pieces_l0_0, ilt_lenf hi, br_f]
      · have := inN_len ho
        simp only [spec_l2Pieces_l0_0, ilt_len hi, br_t, inb_n hi, chk_t, rdI_n hi, l1Put_eq (show o.length ≤ 1048576 by omega) hN, bind_some']
        rw [wrap_succ (by omega)]
  · have hmem := List.getElem_mem hn
    obtain ⟨hr1, hr2⟩ := hin _ hmem
    unfold pieceF
    by_cases hc : (allN m)[n] ∈ s.2
    · rw [if_pos hc]
      exact ⟨by omega, hs.2⟩
    · rw [if_neg hc]
      exact ⟨by simp; omega, hfold _ _ hr1 hs.2⟩
theorem piece_len {es : List (Int × Int)} {set : List Int} : ∀ (xs : List Int) (st : List (List Int) × List Int), st.1.length ≤ (xs.foldl (pieceF es set) st).1.length ∧ ((xs.foldl (pieceF es set) st).1.length = st.1.length ↔ ∀ x ∈ xs, x ∈ st.2) := by
  intro xs
  induction xs with
  | nil => intro st; simp
  | cons x xs ih =>
    intro st
    rw [List.foldl_cons]
    by_cases hc : x ∈ st.2
    · have : pieceF es set st x = st := by unfold pieceF; rw [if_pos hc]
      rw [this]
      obtain ⟨h1, h2⟩ := ih st
      refine ⟨h1, h2.trans ⟨fun h y hy => ?_, fun h y hy => h y (List.mem_cons_of_mem _ hy)⟩⟩
      rcases List.mem_cons.1 hy with rfl | hy
      · exact hc
      · exact h y hy
    · obtain ⟨h1, h2⟩ := ih (pieceF es set st x)
      have : (pieceF es set st x).1.length = st.1.length + 1 := by unfold pieceF; rw [if_neg hc]; simp
      refine ⟨by omega, fun h => by omega, fun h => absurd (h x (List.mem_cons_self ..)) hc⟩
theorem reach_cn {m : Nat} {es : List (Int × Int)} (he : EdgesIn m es) {x z : Int} (hx : InN m x) : z ∈ reachS es (allN m) x ↔ Cn es x z := by
  rw [(reachS_spec (mem_allN.2 hx)).2 z]
  refine ⟨Rch_congr (fun _ _ _ _ => trivial), Rch_congr (fun y z hn _ => mem_allN.2 ?_)⟩
  rcases hn with hn | hn
  · exact (he _ hn).2
  · exact (he _ hn).1
theorem pieces_one {m : Nat} {es : List (Int × Int)} (hm : 1 ≤ m) (he : EdgesIn m es) : ((allN m).foldl (pieceF es (allN m)) ([], [])).1.length = 1 ↔ ∀ x, InN m x → Cn es 0 x := by
  obtain ⟨k, rfl⟩ : ∃ k, m = k + 1 := ⟨m - 1, by omega⟩
  have h0 : InN (k + 1) 0 := ⟨by omega, by omega⟩
  have e : allN (k + 1) = 0 :: (List.range' 1 k).map (fun i : Nat => (i : Int)) := by
    unfold allN
    rw [List.range'_succ]
    rfl
  have e2 : pieceF es (allN (k + 1)) ([], []) 0 = ([reachS es (allN (k + 1)) 0], (reachS es (allN (k + 1)) 0).foldl (fun p z => putI z p) []) := by
    unfold pieceF
    rw [if_neg (by simp)]
    rfl
  have : (allN (k + 1)).foldl (pieceF es (allN (k + 1))) ([], []) = ((List.range' 1 k).map (fun i : Nat => (i : Int))).foldl (pieceF es (allN (k + 1))) (pieceF es (allN (k + 1)) ([], []) 0) := by
    conv => lhs; arg 3; rw [e]
    rfl
  rw [this, e2]
  have := (piece_len (es := es) (set := allN (k + 1)) ((List.range' 1 k).map (fun i : Nat => (i : Int))) ([reachS es (allN (k + 1)) 0], (reachS es (allN (k + 1)) 0).foldl (fun p z => putI z p) [])).2
  refine Iff.trans this ⟨fun h x hx => ?_, fun h x hx => ?_⟩
  · have hx' := mem_allN.2 hx
    rw [e] at hx'
    rcases List.mem_cons.1 hx' with rfl | hx'
    · exact Cn_refl
    · rcases (fold_put_mem _ _).1 (h x hx') with h' | h'
      · exact absurd h' (by simp)
      · exact (reach_cn he h0).1 h'
  · refine (fold_put_mem _ _).2 (.inr ((reach_cn he h0).2 (h x (mem_allN.1 ?_))))
    rw [e]
    exact List.mem_cons_of_mem _ hx
theorem treeE_in {m : Nat} {es : List (Int × Int)} (hg : goodG ((m : Int), es)) {L : List Int} (hL : ∀ i ∈ L, 0 ≤ i ∧ i < (es.length : Int)) : EdgesIn m (treeE es L) := by
  intro e he
  obtain ⟨i, hi, rfl⟩ := List.mem_map.1 he
  obtain ⟨h1, h2⟩ := hL i hi
  have := (hg.2 i.toNat (by show i.toNat < es.length; omega)).1
  rw [show ((i.toNat : Nat) : Int) = i by omega] at this
  simp only at this
  exact ⟨⟨this.1, by omega⟩, ⟨by omega, this.2.2⟩⟩
/-- A list is a tree. -/
def treeP (m : Nat) (es : List (Int × Int)) (L : List Int) : Prop := L.length + 1 = m ∧ rising 0 ((es.length : Int) - 1) L ∧ ∀ x, InN m x → Cn (treeE es L) 0 x
theorem l7Tree_eq {N : Nat} {m : Nat} {es : List (Int × Int)} {L : List Int} (hm : 1 ≤ m) (hg : goodG ((m : Int), es)) (hx : es.length ≤ 1048576) (hl : L.length ≤ 1048576) (hN : 1048577 ≤ N) : spec_l7Tree N ((m : Int), es) L = some ((decide (treeP m es L), ()), ()) := by
  have hm8 : m ≤ 8 := by have := hg.1.2; simp only at this; omega
  unfold spec_l7Tree
  simp only [tLen_n]
  rw [wrap_ok (by omega) (by omega), wrap_ok (by omega) (by omega)]
  by_cases h1 : L.length + 1 = m
  · rw [ine_f (by omega), br_f, l1Rising_eq hl hN, bind_some']
    by_cases h2 : rising 0 ((es.length : Int) - 1) L
    · have hL : ∀ i ∈ L, 0 ≤ i ∧ i < (es.length : Int) := fun i hi => by have := rising_in h2 i hi; omega
      have hte := treeE_in hg hL
      rw [decide_eq_true h2]
      simp only [Bool.not_true, br_f]
      rw [l7Part_eq hL (by omega) hN, bind_some', ile_t (by omega), chk_t, l2Bits_all hm8 hN, bind_some']
      simp only []
      rw [l2Pieces_eq hm8 (by simp [treeE]; omega) hN, bind_some']
      congr 3
      by_cases h3 : ∀ x, InN m x → Cn (treeE es L) 0 x
      · rw [decide_eq_true (show treeP m es L from ⟨h1, h2, h3⟩)]
        exact ieq_t (by show (_ : Int) = 1; have := (pieces_one hm hte).2 h3; simp only [tLen_n]; omega)
      · rw [decide_eq_false (fun h : treeP m es L => h3 h.2.2)]
        exact ieq_f (fun h => h3 ((pieces_one hm hte).1 (by simp only [tLen_n] at h; omega)))
    · rw [decide_eq_false h2]
      simp only [Bool.not_false, br_t]
      rw [decide_eq_false (fun h : treeP m es L => h2 h.2.1)]
  · rw [ine_t (by omega), br_t, decide_eq_false (fun h : treeP m es L => h1 h.1)]
theorem l7Some_eq {N : Nat} {g : Int × List (Int × Int)} (hx : g.2.length ≤ 1048576) (hN : 1048577 ≤ N) : spec_l7Some N g = some ((decide (goodG g ∧ 0 < g.1), ()), ()) := by
  unfold spec_l7Some
  rw [l2Good_eq hx hN]
  simp only [bind_some']
  by_cases h : goodG g
  · rw [decide_eq_true h, br_t, ilt_d]
    simp [h]
  · rw [decide_eq_false h, br_f]
    simp [h]
theorem is_l0_eq {N : Nat} {m : Nat} {es : List (Int × Int)} {L : List Int} (hg : goodG ((m : Int), es)) (hL : ∀ i ∈ L, 0 ≤ i ∧ i < (es.length : Int)) (hl : L.length ≤ 1048576) (hN : 1048577 ≤ N) :
    ∀ (d n K : Nat) (j : List Int) (ρ : Int → Int), n + d = L.length → d < K → UF m (treeE es (L.take n)) j n ρ → Acy (treeE es (L.take n)) →
      ∃ (r : Int) (j' : List Int), (0 ≤ r ↔ ¬ Acy (treeE es L)) ∧ slices_IndexFunc_LI_int_kimpl_Graph_isTree_c1_l0 N (fun f1 x o => some ((x, ()), ((o, f1), ()))) (fun f2 o1 => some (((-1), ()), ((o1, f2), ()))) K L ((m : Int), es) (L.length : Int) n j = some ((r, ()), ((j', ((m : Int), es)), ())) := by
  intro d
  induction d with
  | zero =>
    intro n K j ρ hd hK hu ha
    obtain ⟨k, rfl⟩ := succ_of hK
    simp only [slices_IndexFunc_LI_int_kimpl_Graph_isTree_c1_l0, ilt_nf (show ¬ n < L.length by omega), br_f]
    rw [List.take_of_length_le (by omega)] at ha
    exact ⟨-1, j, ⟨fun h => by omega, fun h => absurd ha h⟩, rfl⟩
  | succ d ih =>
    intro n K j ρ hd hK hu ha
    obtain ⟨k, rfl⟩ := succ_of hK
    have hn : n < L.length := by omega
    have hi := hL _ (List.getElem_mem hn)
    have hte := treeE_in hg hL
    have he : InN m (rdP es L[n]).1 ∧ InN m (rdP es L[n]).2 := hte _ (List.mem_map.2 ⟨_, List.getElem_mem hn, rfl⟩)
    obtain ⟨j', h1, h2⟩ := join_eq hu (show n < N by omega) he.1 he.2
    have hsn : treeE es (L.take (n + 1)) = treeE es (L.take n) ++ [rdP es L[n]] := by
      unfold treeE
      rw [List.take_add_one, List.getElem?_eq_getElem hn, List.map_append]
      rfl
    simp only [slices_IndexFunc_LI_int_kimpl_Graph_isTree_c1_l0, ilt_n hn, br_t, inb_n hn, chk_t, impl_Graph_isTree_c1, rdI_n hn, inb_i hi.1 hi.2, h1, bind_some']
    by_cases hc : Cn (treeE es (L.take n)) (rdP es L[n]).1 (rdP es L[n]).2
    · rw [decide_eq_false (fun h => h hc)]
      simp only [Bool.not_false, br_t]
      refine ⟨n, j', ⟨fun _ hacy => ?_, fun _ => by omega⟩, rfl⟩
      have pre : ∀ (a b : List (Int × Int)), Acy (a ++ b) → Acy a := by
        intro a b
        have : ∀ (k : Nat) (b : List (Int × Int)), b.length = k → Acy (a ++ b) → Acy a := by
          intro k
          induction k with
          | zero => intro b hb h; rw [List.length_eq_zero_iff.1 hb, List.append_nil] at h; exact h
          | succ k ih =>
            intro b hb h
            rcases List.eq_nil_or_concat b with rfl | ⟨b', x, rfl⟩
            · simp at hb
            · rw [List.concat_eq_append, ← List.append_assoc] at h
              exact ih b' (by simpa using hb) (acy_snoc.1 h).1
        exact this b.length b rfl
      have hsplit : treeE es L = treeE es (L.take (n + 1)) ++ treeE es (L.drop (n + 1)) := by
        unfold treeE
        rw [← List.map_append, List.take_append_drop]
      rw [hsplit] at hacy
      have := pre _ _ hacy
      rw [hsn] at this
      exact (acy_snoc.1 this).2 hc
    · rw [decide_eq_true hc]
      simp only [Bool.not_true, br_f]
      rw [wrap_succ (by omega)]
      rw [← hsn] at h2
      exact ih (n + 1) k j' _ (by omega) (by omega) h2 (by rw [hsn]; exact .snoc ha hc)
theorem impl_isTree_eq {N : Nat} {m : Nat} {es : List (Int × Int)} {L : List Int} (hm : 1 ≤ m) (hg : goodG ((m : Int), es)) (hx : es.length ≤ 1048576) (hl : L.length ≤ 1048576) (hN : 1048577 ≤ N) : impl_Graph_isTree N ((m : Int), es) L = some ((decide (treeP m es L), ()), ()) := by
  have hm8 : m ≤ 8 := by have := hg.1.2; simp only at this; omega
  unfold impl_Graph_isTree
  simp only [tLen_n]
  rw [wrap_ok (by omega) (by omega)]
  by_cases h1 : L.length + 1 = m
  · rw [ine_f (by omega), br_f, isRising_eq hl (by omega) hN, bind_some']
    by_cases h2 : rising 0 ((es.length : Int) - 1) L
    · have hL : ∀ i ∈ L, 0 ≤ i ∧ i < (es.length : Int) := fun i hi => by have := rising_in h2 i hi; omega
      have hte := treeE_in hg hL
      rw [decide_eq_true h2]
      simp only [Bool.not_true, br_f]
      obtain ⟨j, hj, hu⟩ := newJoiner_eq (N := N) (n := m) (by omega) hN
      rw [hj, bind_some']
      obtain ⟨r, j', hr, hl0⟩ := is_l0_eq (N := N) hg hL hl hN L.length 0 N j _ (by omega) (by omega) hu .nil
      simp only [Int.natCast_zero] at hl0
      unfold slices_ContainsFunc_LI_int_kimpl_Graph_isTree_c1 slices_IndexFunc_LI_int_kimpl_Graph_isTree_c1
      simp only [tLen_n]
      rw [hl0]
      simp only [bind_some']
      congr 3
      have ht := tree_iff hm hte (by simp [treeE]; exact h1)
      by_cases h3 : Acy (treeE es L)
      · rw [decide_eq_true (show treeP m es L from ⟨h1, h2, ht.1 h3⟩), ile_f (fun h => hr.1 h h3)]
        rfl
      · rw [decide_eq_false (fun h : treeP m es L => h3 (ht.2 h.2.2)), ile_t (hr.2 h3)]
        rfl
    · rw [decide_eq_false h2]
      simp only [Bool.not_false, br_t]
      rw [decide_eq_false (fun h : treeP m es L => h2 h.2.1)]
  · rw [ine_t (by omega), br_t, decide_eq_false (fun h : treeP m es L => h1 h.1)]
noncomputable def isTreeV (g : Int × List (Int × Int)) (L : List Int) : Bool × Bool := if goodG g ∧ 0 < g.1 then (decide (treeP g.1.toNat g.2 L), true) else (false, false)
theorem impl_IsTree_eq {N : Nat} {g : Int × List (Int × Int)} {L : List Int} (hx : g.2.length ≤ 1048576) (hl : L.length ≤ 1048576) (hN : 1048577 ≤ N) : impl_IsTree N g L = some (((isTreeV g L).1, (isTreeV g L).2, ()), ()) := by
  obtain ⟨m', es⟩ := g
  unfold impl_IsTree isTreeV
  rw [IsGraph_eq hx hN, bind_some']
  by_cases h : goodG (m', es)
  · obtain ⟨m, rfl⟩ : ∃ m : Nat, m' = m := ⟨m'.toNat, by have := h.1.1; simp only at this; omega⟩
    rw [decide_eq_true h]
    simp only [Bool.not_true, br_f]
    by_cases h0 : 0 < (m : Int)
    · rw [ieq_f (by omega), br_f, if_pos ⟨h, h0⟩, impl_isTree_eq (by omega) h hx hl hN]
      rfl
    · rw [ieq_t (by omega), br_t, if_neg (fun h' => h0 h'.2)]
  · rw [if_neg (fun h' => h h'.1), decide_eq_false h]
    rfl
inductive Wk (lists : List (List Int)) (x : Int) : Int → Prop
  | base : Wk lists x x
  | step {y z : Int} : Wk lists x y → z ∈ rdL lists y → Wk lists x z
def SpI (lists : List (List Int)) (m : Nat) (x : Int) (o q : List Int) : Prop :=
  o.length = m ∧ inM m q ∧ (∀ y, InN m y → (0 ≤ rdI o y ↔ y ∈ q)) ∧ (∀ y, InN m y → rdI o y < (q.length : Int)) ∧ ∀ y ∈ q, Wk lists x y
noncomputable def spF (u : Int) (s : List Int × List Int) (z : Int) : List Int × List Int := if rdI s.1 z < 0 then (tSet s.1 z (rdI s.1 u + 1), s.2 ++ [z]) else s
theorem spF_ok {lists : List (List Int)} {m : Nat} {x u z : Int} {s : List Int × List Int} (h : SpI lists m x s.1 s.2) (hu : u ∈ s.2) (hz : InN m z) (hr : z ∈ rdL lists u) : SpI lists m x (spF u s z).1 (spF u s z).2 ∧ (∃ t, (spF u s z).2 = s.2 ++ t) ∧ z ∈ (spF u s z).2 := by
  obtain ⟨h1, h2, h3, h4, h5⟩ := h
  unfold spF
  by_cases hc : rdI s.1 z < 0
  · rw [if_pos hc]
    obtain ⟨i, hi, rfl⟩ := nat_of hz
    have hzq : ¬ (i : Int) ∈ s.2 := fun h => by have := (h3 _ hz).2 h; omega
    have hum : InN m u := h2.2 u hu
    have hu0 := (h3 u hum).2 hu
    have hu1 := h4 u hum
    refine ⟨⟨by simp only [tSet_n, List.length_set]; exact h1, ⟨?_, ?_⟩, ?_, ?_, ?_⟩, ⟨_, rfl⟩, by simp⟩
    · refine List.nodup_append.2 ⟨h2.1, by simp, ?_⟩
      intro a ha b hb
      simp at hb
      rw [hb]
      exact fun e => hzq (e ▸ ha)
    · intro y hy
      rcases List.mem_append.1 hy with h | h
      · exact h2.2 y h
      · simp at h; rw [h]; exact hz
    · intro y hy
      simp only []
      rw [rdI_set (by omega) _ y hy.1, List.mem_append, List.mem_singleton]
      by_cases hyi : y = i
      · rw [if_pos hyi]
        exact ⟨fun _ => .inr hyi, fun _ => by omega⟩
      · rw [if_neg hyi, h3 y hy]
        exact ⟨.inl, fun h => h.elim _root_.id fun h => absurd h hyi⟩
    · intro y hy
      simp only []
      rw [rdI_set (by omega) _ y hy.1, List.length_append, List.length_singleton]
      by_cases hyi : y = i
      · rw [if_pos hyi]; omega
      · rw [if_neg hyi]
        have := h4 y hy
        omega
    · intro y hy
      rcases List.mem_append.1 hy with h | h
      · exact h5 y h
      · simp at h; rw [h]; exact .step (h5 u hu) hr
  · rw [if_neg hc]
    exact ⟨⟨h1, h2, h3, h4, h5⟩, ⟨[], by simp⟩, (h3 z hz).1 (by omega)⟩
theorem l2Spread_eq {N : Nat} {lists : List (List Int)} {m : Nat} {x : Int} (hm : lists.length = m) (hm' : m ≤ 1048575) (hl : ∀ l ∈ lists, l.length ≤ 1048576 ∧ ∀ z ∈ l, InN m z) (hx : InN m x) (hN : 1048577 ≤ N) :
    ∃ o, spec_l2Spread N lists x = some ((o, ()), ()) ∧ o.length = m ∧ ∀ y, InN m y → (0 ≤ rdI o y ↔ Wk lists x y) := by
  have go : ∀ (d n K : Nat) (o q : List Int), n + d = m → d < K → n ≤ q.length → x ∈ q → SpI lists m x o q → (∀ i, i < n → ∀ z ∈ rdL lists (rdI q i), z ∈ q) →
      ∃ o' q', spec_l2Spread_l1 N (fun o1 => some ((o1, ()), ())) K lists n o q = some ((o', ()), ()) ∧ x ∈ q' ∧ SpI lists m x o' q' ∧ ∀ y ∈ q', ∀ z ∈ rdL lists y, z ∈ q' := by
    intro d
    induction d with
    | zero =>
      intro n K o q hd hK hn hxq hs hc
      obtain ⟨k, rfl⟩ := succ_of hK
      have hqm := inM_len hs.2.1
      simp only [spec_l2Spread_l1, ilt_lenf (show ¬ n < q.length by omega), br_f]
      exact ⟨o, q, rfl, hxq, hs, all_rdI.2 fun i hi => hc i (by omega)⟩
    | succ d ih =>
      intro n K o q hd hK hn hxq hs hc
      obtain ⟨k, rfl⟩ := succ_of hK
      have hqm := inM_len hs.2.1
      by_cases hnq : n < q.length
      · have huq : q[n] ∈ q := List.getElem_mem hnq
        have hum := hs.2.1.2 _ huq
        have hrow : rdL lists q[n] ∈ lists := by
          obtain ⟨i, hi, e⟩ := nat_of (show InN m q[n] from hum)
          rw [e, rdL_n (by omega)]
          exact List.getElem_mem _
        obtain ⟨hr1, hr2⟩ := hl _ hrow
        simp only [spec_l2Spread_l1, ilt_len hnq, br_t, inb_n hnq, chk_t, rdI_n hnq]
        rw [inb_i hum.1 (by omega), chk_t]
        have key := loop_list (xs := rdL lists q[n]) (L := fun K' i (s : List Int × List Int) => spec_l2Spread_l1_0 N (fun x4 x5 o3 o4 => spec_l2Spread_l1 N (fun o1 => some ((o1, ()), ())) k x4 (IntKind.i64.wrap (x5 + 1)) o3 o4) K' lists n (rdL lists q[n]) i s.1 s.2)
          (k := fun s => spec_l2Spread_l1 N (fun o1 => some ((o1, ()), ())) k lists (IntKind.i64.wrap ((n : Int) + 1)) s.1 s.2) (spF q[n]) (fun i s => SpI lists m x s.1 s.2 ∧ (∃ t, s.2 = q ++ t) ∧ ∀ k, k < i → rdI (rdL lists q[n]) k ∈ s.2) (fun K' i s hi _ => ?_) (fun K' i s hi hI => ?_) (fun i s hi hI => ?_) (s := (o, q)) (K := N) (by omega) ⟨hs, ⟨[], by simp⟩, fun k hk => absurd hk (Nat.not_lt_zero k)⟩
        · simp only [Int.natCast_zero] at key
          rw [key.1, wrap_succ (by omega)]
          obtain ⟨hs', ⟨t, ht⟩, hcl⟩ := key.2
          have hql : q.length ≤ ((rdL lists q[n]).foldl (spF q[n]) (o, q)).2.length := by rw [ht]; simp
          have hget : ∀ i : Nat, i < q.length → rdI ((rdL lists q[n]).foldl (spF q[n]) (o, q)).2 i = rdI q i := by
            intro i hi
            rw [ht, rdI_n (by simp; omega), rdI_n hi, List.getElem_append_left hi]
          refine ih (n + 1) k _ _ (by omega) (by omega) (by omega) (by rw [ht]; exact List.mem_append_left _ hxq) hs' fun i hi z hz => ?_
          rw [hget i (by omega)] at hz
          by_cases hin : i = n
          · subst hin
            rw [rdI_n hnq] at hz
            exact (all_rdI (p := fun z => z ∈ ((rdL lists q[i]).foldl (spF q[i]) (o, q)).2)).2 hcl z hz
          · rw [ht]
            exact List.mem_append_left _ (hc i (by omega) z hz)
        · simp only [spec_l2Spread_l1_0, ilt_lenf hi, br_f]
        · obtain ⟨hI1, ⟨t, ht⟩, hI3⟩ := hI
          have hz := hr2 _ (List.getElem_mem hi)
          have hsl := inM_len hI1.2.1
          have hns : n < s.2.length := by rw [ht]; simp; omega
          have hrn : rdI s.2 n = q[n] := by rw [rdI_n hns]; simp only [ht]; rw [List.getElem_append_left hnq]
          have hus : q[n] ∈ s.2 := by rw [ht]; exact List.mem_append_left _ huq
          have hval := (hI1.2.2.1 _ hum).2 hus
          have hval2 := hI1.2.2.2.1 _ hum
          have hlen := hI1.1
          simp only [spec_l2Spread_l1_0, ilt_len hi, br_t, inb_n hi, chk_t, rdI_n hi]
          rw [inb_i hz.1 (by have := hz.2; omega), chk_t]
          unfold spF
          by_cases hcc : rdI s.1 (rdL lists q[n])[i] < 0
          · rw [ilt_t hcc, br_t, if_pos hcc, inb_n hns, chk_t, hrn, inb_i hum.1 (by omega), chk_t, chk_t, room_ok (by simp; omega), chk_t, wrap_succ (by omega), wrap_ok (by omega) (by omega), tApp_d]
          · rw [ilt_f hcc, br_f, if_neg hcc, wrap_succ (by omega)]
        · obtain ⟨hI1, ⟨t, ht⟩, hI3⟩ := hI
          have hus : q[n] ∈ s.2 := by rw [ht]; exact List.mem_append_left _ huq
          obtain ⟨f1, ⟨t', ht'⟩, f3⟩ := spF_ok hI1 hus (hr2 _ (List.getElem_mem hi)) (List.getElem_mem hi)
          refine ⟨f1, ⟨t ++ t', by rw [ht', ht, List.append_assoc]⟩, fun k hk => ?_⟩
          by_cases hki : k = i
          · subst hki; rw [rdI_n hi]; exact f3
          · rw [ht']; exact List.mem_append_left _ (hI3 k (by omega))
      · simp only [spec_l2Spread_l1, ilt_lenf hnq, br_f]
        exact ⟨o, q, rfl, hxq, hs, all_rdI.2 fun i hi => hc i (by omega)⟩
  have fill : ∀ (d n K : Nat) (k0 : List (List Int) → Int → List Int → Option ((List Int × Unit) × Unit)), n + d = m → d < K →
      spec_l2Spread_l0 N k0 K lists x n (List.replicate n (-1) ++ List.replicate d 0) = k0 lists x (List.replicate m (-1)) := by
    intro d
    induction d with
    | zero =>
      intro n K k0 hd hK
      obtain ⟨k, rfl⟩ := succ_of hK
      have hln : (List.replicate n (-1 : Int) ++ List.replicate 0 0).length = n := by simp
      simp only [spec_l2Spread_l0, ilt_lenf (show ¬ n < (List.replicate n (-1 : Int) ++ List.replicate 0 0).length by omega), br_f]
      have : n = m := by omega
      subst this
      simp
    | succ d ih =>
      intro n K k0 hd hK
      obtain ⟨k, rfl⟩ := succ_of hK
      have hn : n < (List.replicate n (-1 : Int) ++ List.replicate (d + 1) 0).length := by simp
      simp only [spec_l2Spread_l0, ilt_len hn, br_t, inb_n hn, chk_t]
      rw [wrap_succ (by omega), ← ih (n + 1) k k0 (by omega) (by omega), tSet_n]
      congr 1
      rw [List.replicate_succ' (n := n), List.replicate_succ, List.set_append_right _ _ (by simp)]
      simp
  unfold spec_l2Spread
  rw [tLen_n, hm, ile_t (by omega), ile_t (Int.le_refl _), fits_ok (by omega)]
  simp only [Bool.and_self, chk_t]
  have hf := fill m 0 N (fun x x1 o => (chk (inb o x1) (spec_l2Spread_l1 N (fun o1 => some ((o1, ()), ())) N x 0 (tSet o x1 0) [x1]))) (by omega) (by omega)
  rw [tRep_n]
  simp only [Int.natCast_zero, List.replicate_zero, List.nil_append] at hf
  rw [hf]
  obtain ⟨i, hi, rfl⟩ := nat_of hx
  have hrep : ∀ y, InN m y → rdI (List.replicate m (-1 : Int)) y = -1 := by
    intro y hy
    obtain ⟨k, hk, rfl⟩ := nat_of hy
    rw [rdI_n (by simp; exact hk)]
    simp
  rw [inb_n (by simp; exact hi), chk_t]
  have i3 : ∀ y, InN m y → (0 ≤ rdI (tSet (List.replicate m (-1)) (i : Int) 0) y ↔ y ∈ [(i : Int)]) := by
    intro y hy
    rw [rdI_set (by simp; exact hi) _ y hy.1]
    by_cases hyi : y = i
    · rw [if_pos hyi]; simp [hyi]
    · rw [if_neg hyi, hrep y hy]; simp [hyi]
  have i4 : ∀ y, InN m y → rdI (tSet (List.replicate m (-1)) (i : Int) 0) y < (([(i : Int)].length : Nat) : Int) := by
    intro y hy
    rw [rdI_set (by simp; exact hi) _ y hy.1]
    by_cases hyi : y = i
    · rw [if_pos hyi]; simp
    · rw [if_neg hyi, hrep y hy]; simp
  obtain ⟨o', q', e1, e2, e3, e4⟩ := go m 0 N (tSet (List.replicate m (-1)) (i : Int) 0) [(i : Int)] (by omega) (by omega) (Nat.zero_le _) (by simp) ⟨by rw [tSet_n]; simp, ⟨by simp, fun z hz => by simp at hz; rw [hz]; exact hx⟩, i3, i4, fun y hy => by simp at hy; rw [hy]; exact .base⟩ fun i hi => absurd hi (Nat.not_lt_zero i)
  refine ⟨o', e1, e3.1, fun y hy => ⟨fun h => e3.2.2.2.2 y ((e3.2.2.1 y hy).1 h), fun h => (e3.2.2.1 y hy).2 ?_⟩⟩
  clear hy
  induction h with
  | base => exact e2
  | step _ hz ih => exact e4 _ ih _ hz
noncomputable def nbrs (m : Nat) (es : List (Int × Int)) : List (List Int) := (List.range m).map fun i : Nat => nbr m es (i : Int)
theorem rd_nbrs {m : Nat} {es : List (Int × Int)} {y : Int} (hy : InN m y) : rdL (nbrs m es) y = nbr m es y := by
  obtain ⟨i, hi, rfl⟩ := nat_of hy
  rw [rdL_n (by simp [nbrs]; exact hi)]
  simp [nbrs]
theorem wk_cn {m : Nat} {es : List (Int × Int)} (he : EdgesIn m es) {x : Int} (hx : InN m x) {y : Int} : Wk (nbrs m es) x y ↔ Cn es x y := by
  constructor
  · intro h
    have : InN m y ∧ Cn es x y := by
      induction h with
      | base => exact ⟨hx, Cn_refl⟩
      | step _ hz ih =>
        rw [rd_nbrs ih.1] at hz
        obtain ⟨i, hi, hn, rfl⟩ := mem_nbr.1 hz
        exact ⟨in_nat hi, Cn_trans ih.2 (Cn_near hn)⟩
    exact this.2
  · intro h
    have : InN m y ∧ Wk (nbrs m es) x y := by
      induction h with
      | base => exact ⟨hx, .base⟩
      | @step y z _ hn _ ih =>
        have hz : InN m z := by
          rcases hn with hn | hn
          · exact (he _ hn).2
          · exact (he _ hn).1
        refine ⟨hz, .step ih.2 ?_⟩
        rw [rd_nbrs ih.1]
        obtain ⟨i, hi, rfl⟩ := nat_of hz
        exact mem_nbr.2 ⟨i, hi, hn, rfl⟩
    exact this.2
theorem l3Far_eq {N : Nat} {m : Nat} {es : List (Int × Int)} (hm : m ≤ 8) (hx : es.length ≤ 1048576) (he : EdgesIn m es) {x : Int} (hxm : InN m x) (hN : 1048577 ≤ N) :
    ∃ o, spec_l3Far N ((m : Int), es) x = some ((o, ()), ()) ∧ o.length = m ∧ ∀ y, InN m y → (0 ≤ rdI o y ↔ Cn es x y) := by
  have go : ∀ (d n K : Nat), n + d = m → d < K →
      spec_l3Far_l0 N (fun x1 o => ((spec_l2Spread N o x1).bind fun r => some ((r.1.1, ()), ()))) K x n (m : Int) es ((List.range n).map (fun i : Nat => nbr m es (i : Int)) ++ List.replicate d []) = ((spec_l2Spread N (nbrs m es) x).bind fun r => some ((r.1.1, ()), ())) := by
    intro d
    induction d with
    | zero =>
      intro n K hd hK
      obtain ⟨k, rfl⟩ := succ_of hK
      have : n = m := by omega
      subst this
      simp only [spec_l3Far_l0, ilt_nf (Nat.lt_irrefl n), br_f, List.replicate_zero, List.append_nil]
      rfl
    | succ d ih =>
      intro n K hd hK
      obtain ⟨k, rfl⟩ := succ_of hK
      simp only [spec_l3Far_l0, ilt_n (show n < m by omega), br_t]
      rw [l2Neighbors_eq hm hx hN, bind_some', inb_n (by simp), chk_t, wrap_succ (by omega), ← ih (n + 1) k (by omega) (by omega), tSet_n]
      congr 1
      rw [List.replicate_succ, List.set_append_right _ _ (by simp), List.range_succ, List.map_append]
      simp
  unfold spec_l3Far
  rw [ile_t (by omega), ile_t (Int.le_refl _), fits_ok (by omega)]
  simp only [Bool.and_self, chk_t]
  have := go m 0 N (by omega) (by omega)
  rw [tRep_n]
  simp only [Int.natCast_zero, List.range_zero, List.map_nil, List.nil_append] at this
  rw [this]
  have hnb : ∀ l ∈ nbrs m es, l.length ≤ 1048576 ∧ ∀ z ∈ l, InN m z := by
    intro l hl
    obtain ⟨i, _, rfl⟩ := List.mem_map.1 hl
    have := nbr_len m es (i : Int)
    refine ⟨by omega, fun z hz => ?_⟩
    obtain ⟨k, hk, _, rfl⟩ := mem_nbr.1 hz
    exact in_nat hk
  obtain ⟨o, h1, h2, h3⟩ := l2Spread_eq (N := N) (lists := nbrs m es) (m := m) (by simp [nbrs]) (by omega) hnb hxm hN
  exact ⟨o, by rw [h1]; rfl, h2, fun y hy => (h3 y hy).trans (wk_cn he hxm)⟩
def lessE (L : List Int) (e : Int) : List Int := L.filter fun x => decide (x ≠ e)
noncomputable def cutL (es : List (Int × Int)) (L : List Int) (e : Int) : List Int :=
  ((List.range' 0 es.length).filter fun i : Nat => decide (¬ Cn (treeE es (lessE L e)) (rdP es (i : Int)).1 (rdP es (i : Int)).2)).map fun i : Nat => (i : Int)
theorem mem_cutL {es : List (Int × Int)} {L : List Int} {e x : Int} : x ∈ cutL es L e ↔ InN es.length x ∧ ¬ Cn (treeE es (lessE L e)) (rdP es x).1 (rdP es x).2 := by
  unfold cutL
  rw [List.mem_map]
  constructor
  · rintro ⟨i, hi, rfl⟩
    obtain ⟨h1, h2⟩ := List.mem_filter.1 hi
    have := List.mem_range'_1.1 h1
    exact ⟨in_nat (by omega), of_decide_eq_true h2⟩
  · rintro ⟨h1, h2⟩
    obtain ⟨i, hi, rfl⟩ := nat_of h1
    exact ⟨i, List.mem_filter.2 ⟨List.mem_range'_1.2 (by omega), decide_eq_true h2⟩, rfl⟩
theorem cutL_len (es : List (Int × Int)) (L : List Int) (e : Int) : (cutL es L e).length ≤ es.length := by
  unfold cutL
  rw [List.length_map]
  exact Nat.le_trans (List.length_filter_le ..) (by simp)
theorem tree_in {m : Nat} {es : List (Int × Int)} {L : List Int} (h : treeP m es L) : ∀ i ∈ L, 0 ≤ i ∧ i < (es.length : Int) := fun i hi => by have := rising_in h.2.1 i hi; omega
theorem lessE_in {es : List (Int × Int)} {L : List Int} (h : ∀ i ∈ L, 0 ≤ i ∧ i < (es.length : Int)) (e : Int) : ∀ i ∈ lessE L e, 0 ≤ i ∧ i < (es.length : Int) := fun i hi => h i (List.mem_filter.1 hi).1
theorem lessE_len (L : List Int) (e : Int) : (lessE L e).length ≤ L.length := List.length_filter_le ..
theorem two_parts {m : Nat} {es : List (Int × Int)} {L : List Int} (hm : 1 ≤ m) (hg : goodG ((m : Int), es)) (h : treeP m es L) {e : Int} (he : e ∈ L) {x : Int} (hx : InN m x) : Cn (treeE es (lessE L e)) (rdP es e).1 x ∨ Cn (treeE es (lessE L e)) (rdP es e).2 x := by
  have h0 := (treeE_in hg (tree_in h)) (rdP es e) (List.mem_map.2 ⟨e, he, rfl⟩)
  have hc : Cn (treeE es L) (rdP es e).1 x := Cn_trans (Cn_symm (h.2.2 _ h0.1)) (h.2.2 _ hx)
  have : Cn (treeE es (lessE L e) ++ [rdP es e]) (rdP es e).1 x := by
    refine Cn_mono (fun p hp => ?_) hc
    obtain ⟨i, hi, rfl⟩ := List.mem_map.1 hp
    by_cases hie : i = e
    · rw [hie]; simp
    · exact List.mem_append_left _ (List.mem_map.2 ⟨i, List.mem_filter.2 ⟨hi, decide_eq_true hie⟩, rfl⟩)
  rcases Cn_add.1 this with h | ⟨_, h⟩ | ⟨_, h⟩
  · exact .inl h
  · exact .inr h
  · exact .inl h
theorem cut_iff {m : Nat} {es : List (Int × Int)} {L : List Int} (hm : 1 ≤ m) (hg : goodG ((m : Int), es)) (h : treeP m es L) {e : Int} (he : e ∈ L) {a b : Int} (ha : InN m a) (hb : InN m b) :
    (Cn (treeE es (lessE L e)) (rdP es e).1 a ↔ Cn (treeE es (lessE L e)) (rdP es e).1 b) ↔ Cn (treeE es (lessE L e)) a b := by
  constructor
  · intro hab
    rcases two_parts hm hg h he ha with h1 | h1
    · exact Cn_trans (Cn_symm h1) (hab.1 h1)
    · rcases two_parts hm hg h he hb with h2 | h2
      · exact Cn_trans (Cn_symm (hab.2 h2)) h2
      · exact Cn_trans (Cn_symm h1) h2
  · intro hab
    exact ⟨fun h => Cn_trans h hab, fun h => Cn_trans h (Cn_symm hab)⟩
theorem edge_in {m : Nat} {es : List (Int × Int)} (hg : goodG ((m : Int), es)) {i : Nat} (hi : i < es.length) : InN m (rdP es (i : Int)).1 ∧ InN m (rdP es (i : Int)).2 := by
  have := (hg.2 i hi).1
  simp only at this
  exact ⟨⟨this.1, by omega⟩, ⟨by omega, this.2.2⟩⟩
theorem neg_eq {o : List Int} {a b : Int} {P Q : Prop} (ha : 0 ≤ rdI o a ↔ P) (hb : 0 ≤ rdI o b ↔ Q) : (!((ilt (rdI o a) 0) == (ilt (rdI o b) 0))) = decide (¬ (P ↔ Q)) := by
  have ha' : ilt (rdI o a) 0 = decide (¬ P) := by
    by_cases h : P
    · rw [ilt_f (by have := ha.2 h; omega)]; simp [h]
    · rw [ilt_t (Int.not_le.1 fun h' => h (ha.1 h'))]; simp [h]
  have hb' : ilt (rdI o b) 0 = decide (¬ Q) := by
    by_cases h : Q
    · rw [ilt_f (by have := hb.2 h; omega)]; simp [h]
    · rw [ilt_t (Int.not_le.1 fun h' => h (hb.1 h'))]; simp [h]
  rw [ha', hb']
  by_cases h1 : P <;> by_cases h2 : Q <;> simp [h1, h2]
theorem only_less (L : List Int) (e : Int) : (L.filter fun x => !decide (x ∈ [e])) = lessE L e := by
  unfold lessE
  refine List.filter_congr fun x _ => ?_
  by_cases h : x = e <;> simp [h]
theorem l7Cut_eq {N : Nat} {m : Nat} {es : List (Int × Int)} {L : List Int} {e : Int} (hm : 1 ≤ m) (hg : goodG ((m : Int), es)) (hx : es.length ≤ 1048576) (h : treeP m es L) (he : e ∈ L) (hN : 1048577 ≤ N) : spec_l7Cut N ((m : Int), es) L e = some ((cutL es L e, ()), ()) := by
  have hm8 : m ≤ 8 := by have := hg.1.2; simp only at this; omega
  have hl := h.1
  have hi := tree_in h e he
  have hte := treeE_in hg (lessE_in (tree_in h) e)
  have h0 := (treeE_in hg (tree_in h)) (rdP es e) (List.mem_map.2 ⟨e, he, rfl⟩)
  have hll := lessE_len L e
  unfold spec_l7Cut
  rw [l3Only_eq (show L.length ≤ 1048576 by omega) (by simp) hN, bind_some']
  simp only []
  rw [only_less, l7Part_eq (lessE_in (tree_in h) e) (by omega) hN, bind_some', inb_i hi.1 hi.2, chk_t]
  simp only []
  obtain ⟨o, h1, h2, h3⟩ := l3Far_eq (N := N) hm8 (by simp [treeE]; omega) hte h0.1 hN
  rw [h1, bind_some']
  refine (loop_iter (L := fun K n out => spec_l7Cut_l0 N (fun o => some ((o, ()), ())) K n (m : Int) es out o) (k := fun out => some ((out, ()), ())) (Inv := fun n out => out.length ≤ n) (step := fun n out => if ¬ Cn (treeE es (lessE L e)) (rdP es (n : Int)).1 (rdP es (n : Int)).2 then out ++ [(n : Int)] else out) (fun K n s hn _ => ?_) (fun K n s hn hs => ?_) (fun n s hn h => ?_) (s := []) (m := es.length) (K := N) (by omega) (Nat.zero_le _)).trans ?_
  · simp only [spec_l7Cut_l0, ilt_lenf hn, br_f]
  · obtain ⟨ea, eb⟩ := edge_in hg hn
    simp only [spec_l7Cut_l0, ilt_len hn, br_t, inb_n hn, chk_t]
    have i1 := inb_i (xs := o) ea.1 (by rw [h2]; exact ea.2)
    have i2 := inb_i (xs := o) eb.1 (by rw [h2]; exact eb.2)
    rw [i1, i2, chk_t, chk_t, neg_eq (h3 _ ea) (h3 _ eb), wrap_succ (by omega), room_ok (by simp; omega), chk_t, br_ite, tApp_d]
    have hci := cut_iff hm hg h he ea eb
    by_cases hc : Cn (treeE es (lessE L e)) (rdP es (n : Int)).1 (rdP es (n : Int)).2
    · rw [decide_eq_false (not_not_intro (hci.2 hc))]; simp [hc]
    · rw [decide_eq_true (mt hci.1 hc)]; simp [hc]
  · by_cases hc : Cn (treeE es (lessE L e)) (rdP es (n : Int)).1 (rdP es (n : Int)).2
    · rw [if_neg (fun h => h hc)]; omega
    · rw [if_pos hc]; simp; omega
  · rw [iter_app, List.nil_append]
    rfl
end Go.Proofs.Ythkejedgfhjdiaa
