/- Statements on data alone. -/
import Derived.Test.YthkejedgfhjdiaaPvPure
import Derived.Test.YthkejedgfhjdiaaLightTreeGa
set_option linter.all false
set_option linter.all false
namespace Go.Proofs.Ythkejedgfhjdiaa
open Go Go.PV Classical
theorem in_nat {n i : Nat} (h : i < n) : InN n (i : Int) := ⟨by omega, by omega⟩
theorem fix_add {n : Nat} {es : List (Int × Int)} {ρ : Int → Int} (h : Rep n es ρ) {e : Int × Int} (h1 : InN n e.1) (h2 : InN n e.2) : (fixN n (joinF ρ e)).length + (if Cn es e.1 e.2 then 0 else 1) = (fixN n ρ).length := by
  by_cases hc : Cn es e.1 e.2
  · rw [if_pos hc, Nat.add_zero]
    have he := (h.cn _ _ h1 h2).2 hc
    have : joinF ρ e = ρ := by
      funext x
      unfold joinF
      by_cases hx : ρ x = ρ e.1
      · rw [if_pos hx, hx, he]
      · rw [if_neg hx]
    rw [this]
  · rw [if_neg hc]
    have hne : ρ e.1 ≠ ρ e.2 := fun he => hc ((h.cn _ _ h1 h2).1 he)
    obtain ⟨a, ha, ea⟩ := nat_of (h.rng _ h1)
    have hmem : a ∈ fixN n ρ := mem_fixN.2 ⟨ha, by rw [← ea]; exact h.idem _ h1⟩
    have : fixN n (joinF ρ e) = (fixN n ρ).erase a := by
      rw [(fixN_nodup n ρ).erase_eq_filter]
      unfold fixN
      rw [List.filter_filter]
      refine List.filter_congr fun i hi => ?_
      have hi' := in_nat (List.mem_range.1 hi)
      have ida : ρ (ρ e.1) = ρ e.1 := h.idem _ h1
      have idb : ρ (ρ e.2) = ρ e.2 := h.idem _ h2
      unfold joinF
      by_cases hx : ρ (i : Int) = ρ e.1
      · rw [if_pos hx]
        have : ¬ ρ e.2 = (i : Int) := by
          intro hb
          rw [← hb, idb] at hx
          exact hne hx.symm
        rw [decide_eq_false this]
        by_cases hia : i = a
        · simp [hia]
        · have : ¬ ρ (i : Int) = (i : Int) := by
            intro hf
            rw [hx, ea] at hf
            exact hia (by omega)
          simp [this]
      · rw [if_neg hx]
        have : i ≠ a := by
          rintro rfl
          rw [← ea] at hx
          exact hx ida
        simp [this]
    rw [this, List.length_erase_of_mem hmem]
    have := List.length_pos_of_mem hmem
    omega
theorem rep_one {n : Nat} (hn : 1 ≤ n) {es : List (Int × Int)} {ρ : Int → Int} (h : Rep n es ρ) : 1 ≤ (fixN n ρ).length ∧ ((fixN n ρ).length = 1 ↔ ∀ x, InN n x → Cn es 0 x) := by
  have h0 : InN n 0 := ⟨by omega, by omega⟩
  obtain ⟨a, ha, ea⟩ := nat_of (h.rng _ h0)
  have hmem : a ∈ fixN n ρ := mem_fixN.2 ⟨ha, by rw [← ea]; exact h.idem _ h0⟩
  refine ⟨List.length_pos_of_mem hmem, fun hl x hx => ?_, fun hall => ?_⟩
  · obtain ⟨b, hb, eb⟩ := nat_of (h.rng _ hx)
    have hmb : b ∈ fixN n ρ := mem_fixN.2 ⟨hb, by rw [← eb]; exact h.idem _ hx⟩
    obtain ⟨c, hc⟩ := List.length_eq_one_iff.1 hl
    rw [hc] at hmem hmb
    simp at hmem hmb
    exact (h.cn _ _ h0 hx).1 (by rw [ea, eb, hmem, hmb])
  · have : fixN n ρ = [a] := by
      have hall' : ∀ i ∈ fixN n ρ, i = a := by
        intro i hi
        obtain ⟨hi1, hi2⟩ := mem_fixN.1 hi
        have := (h.cn _ _ h0 (in_nat hi1)).2 (hall _ (in_nat hi1))
        rw [hi2, ea] at this
        omega
      have hnd := fixN_nodup n ρ
      cases hf : fixN n ρ with
      | nil => rw [hf] at hmem; exact absurd hmem (by simp)
      | cons b l =>
        rw [hf] at hall' hnd
        cases l with
        | nil => rw [hall' b (by simp)]
        | cons c l =>
          have e1 := hall' b (by simp)
          have e2 := hall' c (by simp)
          rw [e1, e2] at hnd
          simp at hnd
    rw [this]
    rfl
/-! ### Lists without a circle -/
inductive Acy : List (Int × Int) → Prop
  | nil : Acy []
  | snoc {es : List (Int × Int)} {e : Int × Int} : Acy es → ¬ Cn es e.1 e.2 → Acy (es ++ [e])
theorem acy_snoc {es : List (Int × Int)} {e : Int × Int} : Acy (es ++ [e]) ↔ Acy es ∧ ¬ Cn es e.1 e.2 := by
  constructor
  · intro h
    generalize hq : es ++ [e] = q at h
    cases h with
    | nil => simp at hq
    | snoc h1 h2 =>
      obtain ⟨e1, e2⟩ := List.append_inj' hq rfl
      simp at e2
      subst e1; subst e2
      exact ⟨h1, h2⟩
  · exact fun h => .snoc h.1 h.2
theorem acy_count {n : Nat} : ∀ (es : List (Int × Int)), EdgesIn n es → ∃ ρ, Rep n es ρ ∧ n ≤ (fixN n ρ).length + es.length ∧ ((fixN n ρ).length + es.length = n ↔ Acy es) := by
  intro es
  have key : ∀ (m : Nat) (es : List (Int × Int)), es.length = m → EdgesIn n es → ∃ ρ, Rep n es ρ ∧ n ≤ (fixN n ρ).length + es.length ∧ ((fixN n ρ).length + es.length = n ↔ Acy es) := by
    intro m
    induction m with
    | zero =>
      intro es hl _
      have := List.length_eq_zero_iff.1 hl
      subst this
      exact ⟨_, rep_nil n, by rw [fix_nil]; omega, fun _ => .nil, fun _ => by rw [fix_nil]; rfl⟩
    | succ m ih =>
      intro es hl he
      rcases List.eq_nil_or_concat es with rfl | ⟨es', e, e0⟩
      · simp at hl
      · rw [List.concat_eq_append] at e0
        subst e0
        obtain ⟨ρ, h1, h2, h3⟩ := ih es' (by simpa using hl) fun x hx => he x (List.mem_append_left _ hx)
        obtain ⟨he1, he2⟩ := he e (by simp)
        have hf := fix_add h1 he1 he2
        refine ⟨_, rep_add h1 he1 he2, ?_, ?_⟩
        · rw [List.length_append]
          simp only [List.length_singleton]
          split at hf <;> omega
        · rw [acy_snoc, ← h3, List.length_append]
          simp only [List.length_singleton]
          by_cases hc : Cn es' e.1 e.2
          · rw [if_pos hc] at hf
            constructor
            · intro h; omega
            · rintro ⟨_, h⟩; exact absurd hc h
          · rw [if_neg hc] at hf
            constructor
            · intro h; exact ⟨by omega, hc⟩
            · rintro ⟨h, _⟩; omega
  exact key es.length es rfl
theorem tree_iff {n : Nat} (hn : 1 ≤ n) {es : List (Int × Int)} (he : EdgesIn n es) (hl : es.length + 1 = n) : Acy es ↔ ∀ x, InN n x → Cn es 0 x := by
  obtain ⟨ρ, h1, h2, h3⟩ := acy_count es he
  rw [← h3, ← (rep_one hn h1).2]
  omega
/-! ### The joiner -/
def Pth (j : List Int) : Nat → Int → Int → Prop
  | 0, x, r => x = r
  | d + 1, x, r => x = r ∨ (rdI j x ≠ x ∧ (0 ≤ rdI j x ∧ rdI j x < (j.length : Int)) ∧ Pth j d (rdI j x) r)
structure UF (n : Nat) (es : List (Int × Int)) (j : List Int) (d : Nat) (ρ : Int → Int) : Prop extends Rep n es ρ where
  len : j.length = n
  fix : ∀ x, InN n x → rdI j (ρ x) = ρ x
  pth : ∀ x, InN n x → Pth j d x (ρ x)
theorem root_l0_eq {R : Type} {N : Nat} (k0 : Int → Option R) {j : List Int} {r : Int} (hr : rdI j r = r) (hr' : 0 ≤ r ∧ r < (j.length : Int)) : ∀ (d K : Nat) (x : Int), d < K → 0 ≤ x ∧ x < (j.length : Int) → Pth j d x r → impl_joiner_root_l0 N k0 K j x = k0 r := by
  intro d
  induction d with
  | zero =>
    intro K x hK hx hp
    obtain ⟨k, rfl⟩ := succ_of hK
    have : x = r := hp
    subst this
    simp only [impl_joiner_root_l0]
    rw [inb_i hx.1 hx.2, chk_t, ine_f hr, br_f]
  | succ d ih =>
    intro K x hK hx hp
    obtain ⟨k, rfl⟩ := succ_of hK
    simp only [impl_joiner_root_l0]
    rcases hp with rfl | ⟨h1, h2, h3⟩
    · rw [inb_i hx.1 hx.2, chk_t, ine_f hr, br_f]
    · rw [inb_i hx.1 hx.2, chk_t, ine_t h1, br_t, chk_t]
      exact ih k _ (by omega) h2 h3
theorem root_eq {N n d : Nat} {es : List (Int × Int)} {j : List Int} {ρ : Int → Int} (h : UF n es j d ρ) (hd : d < N) {x : Int} (hx : InN n x) : impl_joiner_root N j x = some ((ρ x, ()), ()) := by
  unfold impl_joiner_root
  have hr := h.rng x hx
  refine root_l0_eq _ (h.fix x hx) ⟨hr.1, by rw [h.len]; exact hr.2⟩ d N x hd ⟨hx.1, by rw [h.len]; exact hx.2⟩ (h.pth x hx)
theorem pth_set {j : List Int} {a b : Nat} (ha : a < j.length) (hb : b < j.length) (hra : rdI j a = a) : ∀ (d : Nat) (x r : Int), 0 ≤ x → rdI j r = r → Pth j d x r → (r ≠ a → Pth (tSet j a b) d x r) ∧ (r = a → Pth (tSet j a b) (d + 1) x b) := by
  intro d
  induction d with
  | zero =>
    intro x r hx hr hp
    have : x = r := hp
    subst this
    refine ⟨fun _ => rfl, fun hxa => ?_⟩
    subst hxa
    have e := rdI_set ha (b : Int) (a : Int) (by omega)
    rw [if_pos rfl] at e
    by_cases hab : (a : Int) = b
    · exact .inl hab
    · refine .inr ⟨by rw [e]; exact fun h => hab h.symm, by rw [e, tSet_n, List.length_set]; omega, ?_⟩
      rw [e]
      rfl
  | succ d ih =>
    intro x r hx hr hp
    rcases hp with rfl | ⟨h1, h2, h3⟩
    · refine ⟨fun _ => .inl rfl, fun hxa => ?_⟩
      subst hxa
      have e := rdI_set ha (b : Int) (a : Int) (by omega)
      rw [if_pos rfl] at e
      by_cases hab : (a : Int) = b
      · exact .inl hab
      · refine .inr ⟨by rw [e]; exact fun h => hab h.symm, by rw [e, tSet_n, List.length_set]; omega, ?_⟩
        rw [e]
        exact .inl rfl
    · have hxa : x ≠ a := fun h => h1 (by rw [h, hra])
      have e := rdI_set ha (b : Int) x hx
      rw [if_neg hxa] at e
      obtain ⟨i1, i2⟩ := ih (rdI j x) r h2.1 hr h3
      constructor
      · intro hr'
        exact .inr ⟨by rw [e]; exact h1, by rw [e, tSet_n, List.length_set]; exact h2, by rw [e]; exact i1 hr'⟩
      · intro hr'
        exact .inr ⟨by rw [e]; exact h1, by rw [e, tSet_n, List.length_set]; exact h2, by rw [e]; exact i2 hr'⟩
theorem pth_up {j : List Int} : ∀ (d : Nat) (x r : Int), Pth j d x r → Pth j (d + 1) x r := by
  intro d
  induction d with
  | zero => intro x r h; exact .inl h
  | succ d ih =>
    intro x r h
    rcases h with h | ⟨h1, h2, h3⟩
    · exact .inl h
    · exact .inr ⟨h1, h2, ih _ _ h3⟩
theorem join_eq {N n d : Nat} {es : List (Int × Int)} {j : List Int} {ρ : Int → Int} (h : UF n es j d ρ) (hd : d < N) {e : Int × Int} (h1 : InN n e.1) (h2 : InN n e.2) :
    ∃ j', impl_joiner_join N j e = some ((decide (¬ Cn es e.1 e.2), ()), (j', ())) ∧ UF n (es ++ [e]) j' (d + 1) (joinF ρ e) := by
  obtain ⟨a, ha, ea⟩ := nat_of (h.rng _ h1)
  obtain ⟨b, hb, eb⟩ := nat_of (h.rng _ h2)
  have hla : a < j.length := by rw [h.len]; exact ha
  have hlb : b < j.length := by rw [h.len]; exact hb
  have hra : rdI j a = a := by rw [← ea]; exact h.fix _ h1
  have hrb : rdI j b = b := by rw [← eb]; exact h.fix _ h2
  refine ⟨tSet j a b, ?_, rep_add h.toRep h1 h2, ?_, ?_, ?_⟩
  · unfold impl_joiner_join
    rw [root_eq h hd h1, root_eq h hd h2]
    simp only [bind_some']
    rw [ea, eb, inb_n hla, chk_t]
    congr 4
    by_cases hc : Cn es e.1 e.2
    · have := (h.cn _ _ h1 h2).2 hc
      rw [ea, eb] at this
      rw [ine_f this, decide_eq_false (fun h => h hc)]
    · have : (a : Int) ≠ b := fun hab => hc ((h.cn _ _ h1 h2).1 (by rw [ea, eb, hab]))
      rw [ine_t this, decide_eq_true hc]
  · rw [tSet_n, List.length_set]; exact h.len
  · intro x hx
    unfold joinF
    rw [ea, eb]
    by_cases hc : ρ x = a
    · rw [if_pos hc]
      have := rdI_set hla (b : Int) (b : Int) (by omega)
      rw [this]
      by_cases hba : (b : Int) = a
      · rw [if_pos hba]
      · rw [if_neg hba, hrb]
    · rw [if_neg hc]
      have := rdI_set hla (b : Int) (ρ x) (h.rng x hx).1
      rw [this, if_neg hc]
      exact h.fix x hx
  · intro x hx
    obtain ⟨i1, i2⟩ := pth_set hla hlb hra d x (ρ x) hx.1 (h.fix x hx) (h.pth x hx)
    unfold joinF
    rw [ea, eb]
    by_cases hc : ρ x = a
    · rw [if_pos hc]; exact i2 hc
    · rw [if_neg hc]; exact pth_up _ _ _ (i1 hc)
theorem newJoiner_eq {N n : Nat} (hn : n ≤ 1048576) (hN : 1048577 ≤ N) : ∃ j, impl_newJoiner N (n : Int) = some ((j, ()), ()) ∧ UF n [] j 0 (fun x => x) := by
  have go : ∀ (d i K : Nat), i + d = n → d < K → impl_newJoiner_l0 N (fun o => some ((o, ()), ())) K (n : Int) (i : Int) ((List.range i).map fun i : Nat => (i : Int)) = some (((List.range n).map (fun i : Nat => (i : Int)), ()), ()) := by
    intro d
    induction d with
    | zero =>
      intro i K hd hK
      obtain ⟨k, rfl⟩ := succ_of hK
      have : i = n := by omega
      subst this
      simp only [impl_newJoiner_l0, ilt_nf (Nat.lt_irrefl i), br_f]
    | succ d ih =>
      intro i K hd hK
      obtain ⟨k, rfl⟩ := succ_of hK
      simp only [impl_newJoiner_l0, ilt_n (show i < n by omega), br_t]
      rw [room_ok (by simp; omega), chk_t, wrap_succ (by omega), tApp_d, ← ih (i + 1) k (by omega) (by omega), List.range_succ, List.map_append]
      rfl
  have hlen : ((List.range n).map fun i : Nat => (i : Int)).length = n := by simp
  have hrd : ∀ x, InN n x → rdI ((List.range n).map fun i : Nat => (i : Int)) x = x := by
    intro x hx
    obtain ⟨i, hi, rfl⟩ := nat_of hx
    rw [rdI_n (by rw [hlen]; exact hi)]
    simp
  refine ⟨_, go n 0 N (by omega) (by omega), rep_nil n, hlen, hrd, fun x _ => rfl⟩
def treeE (es : List (Int × Int)) (L : List Int) : List (Int × Int) := L.map fun i => rdP es i
theorem l7Part_eq {N : Nat} {m : Int} {es : List (Int × Int)} {L : List Int} (hL : ∀ i ∈ L, 0 ≤ i ∧ i < (es.length : Int)) (hl : L.length ≤ 1048576) (hN : 1048577 ≤ N) : spec_l7Part N (m, es) L = some (((m, treeE es L), ()), ()) := by
  unfold spec_l7Part
  refine ((loop_list (xs := L) (L := fun K i o => spec_l7Part_l0 N (fun o o1 o2 => some (((o1, o2), ()), ())) K L i m es 0 m o) (k := fun o => some (((m, o), ()), ())) (fun o i => o ++ [rdP es i]) (fun n s => s.length = n) (fun K n s hn _ => ?_) (fun K n s hn hs => ?_) (fun n s hn hs => ?_) (s := []) (K := N) (by omega) rfl).1).trans ?_
  · simp only [spec_l7Part_l0, ilt_lenf hn, br_f]
  · have := hL _ (List.getElem_mem hn)
    simp only [spec_l7Part_l0, ilt_len hn, br_t, inb_n hn, chk_t, rdI_n hn, inb_i this.1 this.2]
    rw [room_ok (by simp; omega), chk_t, wrap_succ (by omega), tApp_d]
  · simp [hs]
  · have go : ∀ (L : List Int) (o : List (Int × Int)), L.foldl (fun o i => o ++ [rdP es i]) o = o ++ treeE es L := by
      intro L
      induction L with
      | nil => intro o; simp [treeE]
      | cons i L ih => intro o; rw [List.foldl_cons, ih]; simp [treeE]
    rw [go]
    rfl
theorem bitsTab : ((List.range 9).all fun n => (List.range n).all fun x => ieq (bitop .and .i64 (shrI .i64 (IntKind.i64.wrap ((shlI .i64 1 (n : Int)) - 1)) (x : Int)) 1) 1) = true := by kernel_rfl
noncomputable def allN (m : Nat) : List Int := (List.range' 0 m).map fun i : Nat => (i : Int)
theorem mem_allN {m : Nat} {x : Int} : x ∈ allN m ↔ InN m x := by
  unfold allN
  rw [List.mem_map]
  constructor
  · rintro ⟨i, hi, rfl⟩
    have := List.mem_range'_1.1 hi
    exact in_nat (by omega)
  · intro h
    obtain ⟨i, hi, rfl⟩ := nat_of h
    exact ⟨i, List.mem_range'_1.2 (by omega), rfl⟩
theorem allN_len (m : Nat) : (allN m).length = m := by simp [allN]
theorem l2Bits_all {N : Nat} {m : Nat} (hm : m ≤ 8) (hN : 1048577 ≤ N) : spec_l2Bits N (m : Int) (IntKind.i64.wrap ((shlI .i64 1 (m : Int)) - 1)) = some ((allN m, ()), ()) := by
  unfold spec_l2Bits
  have tab : ∀ x, x < m → ieq (bitop .and .i64 (shrI .i64 (IntKind.i64.wrap ((shlI .i64 1 (m : Int)) - 1)) (x : Int)) 1) 1 = true := fun x hx =>
    List.all_eq_true.1 (List.all_eq_true.1 bitsTab m (List.mem_range.2 (by omega))) x (List.mem_range.2 hx)
  generalize IntKind.i64.wrap ((shlI .i64 1 (m : Int)) - 1) = c at tab ⊢
  refine (loop_iter (L := fun K n o => spec_l2Bits_l0 N (fun o => some ((o, ()), ())) K (m : Int) c n o) (k := fun o => some ((o, ()), ())) (Inv := fun n o => o.length = n) (step := fun n o => if True then o ++ [(n : Int)] else o) (fun K n s hn _ => ?_) (fun K n s hn hs => ?_) (fun n s hn h => ?_) (s := []) (m := m) (K := N) (by omega) rfl).trans ?_
  · simp only [spec_l2Bits_l0, ilt_nf hn, br_f]
  · simp only [spec_l2Bits_l0, ilt_n hn, br_t]
    rw [ile_t (by omega), chk_t, tab n hn, br_t, room_ok (by simp; omega), chk_t, wrap_succ (by omega), tApp_d, if_pos trivial]
  · rw [if_pos trivial]; simp [h]
  · rw [iter_app, List.nil_append]
    rw [List.filter_eq_self.2 (by simp)]
    rfl
noncomputable def pieceF (es : List (Int × Int)) (set : List Int) (st : List (List Int) × List Int) (x : Int) : List (List Int) × List Int :=
  if x ∈ st.2 then st else (st.1 ++ [reachS es set x], (reachS es set x).foldl (fun p z => putI z p) st.2)
theorem fold_put_mem {z : Int} : ∀ (xs p : List Int), z ∈ xs.foldl (fun p x => putI x p) p ↔ z ∈ p ∨ z ∈ xs := by
  intro xs
  induction xs with
  | nil => intro p; simp
  | cons x xs ih =>
    intro p
    rw [List.foldl_cons, ih, putI_mem, List.mem_cons]
    constructor
    · rintro ((h | h) | h)
      · exact .inr (.inl h)
      · exact .inl h
      · exact .inr (.inr h)
    · rintro (h | h | h)
      · exact .inl (.inr h)
      · exact .inl (.inl h)
      · exact .inr h
theorem putI_inM {m : Nat} {o : List Int} {x : Int} (h : strict o ∧ ∀ z ∈ o, InN m z) (hx : InN m x) : strict (putI x o) ∧ ∀ z ∈ putI x o, InN m z := by
  refine ⟨putI_strict h.1, fun z hz => ?_⟩
  rcases (putI_mem x z o).1 hz with rfl | hz
  · exact hx
  · exact h.2 z hz
theorem inN_len {m : Nat} {o : List Int} (h : strict o ∧ ∀ z ∈ o, InN m z) : o.length ≤ m := by
  have := nodup_le (strict_nodup h.1) (b := allN m) fun z hz => mem_allN.2 (h.2 z hz)
  rwa [allN_len] at this
theorem l2Pieces_eq {N : Nat} {m : Nat} {es : List (Int × Int)} (hm : m ≤ 8) (hx : es.length ≤ 1048576) (hN : 1048577 ≤ N) : spec_l2Pieces N ((m : Int), es) (allN m) = some ((((allN m).foldl (pieceF es (allN m)) ([], [])).1, ()), ()) := by
  unfold spec_l2Pieces
  have hlen := allN_len m
  have hin : ∀ x ∈ allN m, (∀ z ∈ reachS es (allN m) x, InN m z) ∧ (reachS es (allN m) x).length ≤ m := by
    intro x hx
    obtain ⟨h1, h2⟩ := reachS_spec (es := es) hx
    have h3 : ∀ z ∈ reachS es (allN m) x, InN m z := fun z hz => mem_allN.1 (Rch_in hx ((h2 z).1 hz))
    exact ⟨h3, inN_len ⟨h1, h3⟩⟩
  have hfold : ∀ (xs o : List Int), (∀ z ∈ xs, InN m z) → (strict o ∧ ∀ z ∈ o, InN m z) → strict (xs.foldl (fun p z => putI z p) o) ∧ ∀ z ∈ xs.foldl (fun p z => putI z p) o, InN m z := by
    intro xs
    induction xs with
    | nil => intro o _ h; exact h
    | cons x xs ih => intro o hz h; exact ih _ (fun z h' => hz z (List.mem_cons_of_mem _ h')) (putI_inM h (hz x (List.mem_cons_self ..)))
  refine (loop_list (xs := allN m) (L := fun K i (st : List (List Int) × List Int) => spec_l2Pieces_l0 N (fun o => some ((o, ()), ())) K (allN m) i (m : Int) es st.1 st.2) (k := fun st => some ((st.1, ()), ())) (pieceF es (allN m)) (fun n st => st.1.length ≤ n ∧ strict st.2 ∧ ∀ z ∈ st.2, InN m z) (fun K n s hn _ => ?_) (fun K n s hn hs => ?_) (fun n s hn hs => ?_) (s := ([], [])) (K := N) (by omega) ⟨Nat.le_refl _, List.Pairwise.nil, by simp⟩).1
  · simp only [spec_l2Pieces_l0, ilt_lenf hn, br_f]
  · have hl := inN_len hs.2
    have hmem := List.getElem_mem hn
    obtain ⟨hr1, hr2⟩ := hin _ hmem
    simp only [spec_l2Pieces_l0, ilt_len hn, br_t, inb_n hn, chk_t, rdI_n hn, l1Has_eq (show s.2.length ≤ 1048576 by omega) hN, bind_some']
    unfold pieceF
    by_cases hc : (allN m)[n] ∈ s.2
    · rw [if_pos hc, decide_eq_true hc, br_t, wrap_succ (by omega)]
    · rw [if_neg hc, decide_eq_false hc, br_f, l2Reach_eq hx (by omega) hmem hN]
      simp only [bind_some']
      have key := (loop_list (xs := reachS es (allN m) (allN m)[n]) (L := fun K' i o => spec_l2Pieces_l0_0 N (fun setv2 i1 o4 o5 o6 o7 o8 => (chk (room o6 [o8]) (spec_l2Pieces_l0 N (fun o => some ((o, ()), ())) K setv2 (IntKind.i64.wrap (i1 + 1)) o4 o5 (tApp o6 [o8]) o7))) K' (allN m) n i (m : Int) es s.1 o (reachS es (allN m) (allN m)[n]))
        (k := fun o => (chk (room s.1 [reachS es (allN m) (allN m)[n]]) (spec_l2Pieces_l0 N (fun o => some ((o, ()), ())) K (allN m) (IntKind.i64.wrap ((n : Int) + 1)) (m : Int) es (tApp s.1 [reachS es (allN m) (allN m)[n]]) o))) (fun p z => putI z p) (fun _ o => strict o ∧ ∀ z ∈ o, InN m z) (fun K' i o hi _ => ?_) (fun K' i o hi ho => ?_) (fun i o hi ho => putI_inM ho (hr1 _ (List.getElem_mem hi))) (s := s.2) (K := N) (by omega) hs.2).1
      · simp only [Int.natCast_zero] at key
        rw [key, room_ok (by simp; omega), chk_t, wrap_succ (by omega), tApp_d]
      · simp only [spec_l2Pieces_l0_0, ilt_lenf hi, br_f]
      · have := inN_len ho
        simp only [spec_l2Pieces_l0_0, ilt_len hi, br_t, inb_n hi, chk_t, rdI_n hi, l1Put_eq (show o.length ≤ 1048576 by omega) hN, bind_some']
        rw [wrap_succ (by omega)]
  · have hmem := List.getElem_mem hn
    obtain ⟨hr1, hr2⟩ := hin _ hmem
    unfold pieceF
    by_cases hc : (allN m)[n] ∈ s.2
    · rw [if_pos hc]
      exact ⟨by omega, hs.2⟩
    · rw [if_neg hc]
      exact ⟨by simp; omega, hfold _ _ hr1 hs.2⟩
theorem piece_len {es : List (Int × Int)} {set : List Int} : ∀ (xs : List Int) (st : List (List Int) × List Int), st.1.length ≤ (xs.foldl (pieceF es set) st).1.length ∧ ((xs.foldl (pieceF es set) st).1.length = st.1.length ↔ ∀ x ∈ xs, x ∈ st.2) := by
  intro xs
  induction xs with
  | nil => intro st; simp
  | cons x xs ih =>
    intro st
    rw [List.foldl_cons]
    by_cases hc : x ∈ st.2
    · have : pieceF es set st x = st := by unfold pieceF; rw [if_pos hc]
      rw [this]
      obtain ⟨h1, h2⟩ := ih st
      refine ⟨h1, h2.trans ⟨fun h y hy => ?_, fun h y hy => h y (List.mem_cons_of_mem _ hy)⟩⟩
      rcases List.mem_cons.1 hy with rfl | hy
      · exact hc
      · exact h y hy
    · obtain ⟨h1, h2⟩ := ih (pieceF es set st x)
      have : (pieceF es set st x).1.length = st.1.length + 1 := by unfold pieceF; rw [if_neg hc]; simp
      refine ⟨by omega, fun h => by omega, fun h => absurd (h x (List.mem_cons_self ..)) hc⟩
theorem reach_cn {m : Nat} {es : List (Int × Int)} (he : EdgesIn m es) {x z : Int} (hx : InN m x) : z ∈ reachS es (allN m) x ↔ Cn es x z := by
  rw [(reachS_spec (mem_allN.2 hx)).2 z]
  refine ⟨Rch_congr (fun _ _ _ _ => trivial), Rch_congr (fun y z hn _ => mem_allN.2 ?_)⟩
  rcases hn with hn | hn
  · exact (he _ hn).2
  · exact (he _ hn).1
theorem pieces_one {m : Nat} {es : List (Int × Int)} (hm : 1 ≤ m) (he : EdgesIn m es) : ((allN m).foldl (pieceF es (allN m)) ([], [])).1.length = 1 ↔ ∀ x, InN m x → Cn es 0 x := by
  obtain ⟨k, rfl⟩ : ∃ k, m = k + 1 := ⟨m - 1, by omega⟩
  have h0 : InN (k + 1) 0 := ⟨by omega, by omega⟩
  have e : allN (k + 1) = 0 :: (List.range' 1 k).map (fun i : Nat => (i : Int)) := by
    unfold allN
    rw [List.range'_succ]
    rfl
  have e2 : pieceF es (allN (k + 1)) ([], []) 0 = ([reachS es (allN (k + 1)) 0], (reachS es (allN (k + 1)) 0).foldl (fun p z => putI z p) []) := by
    unfold pieceF
    rw [if_neg (by simp)]
    rfl
  have : (allN (k + 1)).foldl (pieceF es (allN (k + 1))) ([], []) = ((List.range' 1 k).map (fun i : Nat => (i : Int))).foldl (pieceF es (allN (k + 1))) (pieceF es (allN (k + 1)) ([], []) 0) := by
    conv => lhs; arg 3; rw [e]
    rfl
  rw [this, e2]
  have := (piece_len (es := es) (set := allN (k + 1)) ((List.range' 1 k).map (fun i : Nat => (i : Int))) ([reachS es (allN (k + 1)) 0], (reachS es (allN (k + 1)) 0).foldl (fun p z => putI z p) [])).2
  refine Iff.trans this ⟨fun h x hx => ?_, fun h x hx => ?_⟩
  · have hx' := mem_allN.2 hx
    rw [e] at hx'
    rcases List.mem_cons.1 hx' with rfl | hx'
    · exact Cn_refl
    · rcases (fold_put_mem _ _).1 (h x hx') with h' | h'
      · exact absurd h' (by simp)
      · exact (reach_cn he h0).1 h'
  · refine (fold_put_mem _ _).2 (.inr ((reach_cn he h0).2 (h x (mem_allN.1 ?_))))
    rw [e]
    exact List.mem_cons_of_mem _ hx
theorem treeE_in {m : Nat} {es : List (Int × Int)} (hg : goodG ((m : Int), es)) {L : List Int} (hL : ∀ i ∈ L, 0 ≤ i ∧ i < (es.length : Int)) : EdgesIn m (treeE es L) := by
  intro e he
  obtain ⟨i, hi, rfl⟩ := List.mem_map.1 he
  obtain ⟨h1, h2⟩ := hL i hi
  have := (hg.2 i.toNat (by show i.toNat < es.length; omega)).1
  rw [show ((i.toNat : Nat) : Int) = i by omega] at this
  simp only at this
  exact ⟨⟨this.1, by omega⟩, ⟨by omega, this.2.2⟩⟩
def treeP (m : Nat) (es : List (Int × Int)) (L : List Int) : Prop := L.length + 1 = m ∧ rising 0 ((es.length : Int) - 1) L ∧ ∀ x, InN m x → Cn (treeE es L) 0 x
theorem l7Tree_eq {N : Nat} {m : Nat} {es : List (Int × Int)} {L : List Int} (hm : 1 ≤ m) (hg : goodG ((m : Int), es)) (hx : es.length ≤ 1048576) (hl : L.length ≤ 1048576) (hN : 1048577 ≤ N) : spec_l7Tree N ((m : Int), es) L = some ((decide (treeP m es L), ()), ()) := by
  have hm8 : m ≤ 8 := by have := hg.1.2; simp only at this; omega
  unfold spec_l7Tree
  simp only [tLen_n]
  rw [wrap_ok (by omega) (by omega), wrap_ok (by omega) (by omega)]
  by_cases h1 : L.length + 1 = m
  · rw [ine_f (by omega), br_f, l1Rising_eq hl hN, bind_some']
    by_cases h2 : rising 0 ((es.length : Int) - 1) L
    · have hL : ∀ i ∈ L, 0 ≤ i ∧ i < (es.length : Int) := fun i hi => by have := rising_in h2 i hi; omega
      have hte := treeE_in hg hL
      rw [decide_eq_true h2]
      simp only [Bool.not_true, br_f]
      rw [l7Part_eq hL (by omega) hN, bind_some', ile_t (by omega), chk_t, l2Bits_all hm8 hN, bind_some']
      simp only []
      rw [l2Pieces_eq hm8 (by simp [treeE]; omega) hN, bind_some']
      congr 3
      by_cases h3 : ∀ x, InN m x → Cn (treeE es L) 0 x
      · rw [decide_eq_true (show treeP m es L from ⟨h1, h2, h3⟩)]
        exact ieq_t (by show (_ : Int) = 1; have := (pieces_one hm hte).2 h3; simp only [tLen_n]; omega)
      · rw [decide_eq_false (fun h : treeP m es L => h3 h.2.2)]
        exact ieq_f (fun h => h3 ((pieces_one hm hte).1 (by simp only [tLen_n] at h; omega)))
    · rw [decide_eq_false h2]
      simp only [Bool.not_false, br_t]
      rw [decide_eq_false (fun h : treeP m es L => h2 h.2.1)]
  · rw [ine_t (by omega), br_t, decide_eq_false (fun h : treeP m es L => h1 h.1)]
theorem l7Some_eq {N : Nat} {g : Int × List (Int × Int)} (hx : g.2.length ≤ 1048576) (hN : 1048577 ≤ N) : spec_l7Some N g = some ((decide (goodG g ∧ 0 < g.1), ()), ()) := by
  unfold spec_l7Some
  rw [l2Good_eq hx hN]
  simp only [bind_some']
  by_cases h : goodG g
  · rw [decide_eq_true h, br_t, ilt_d]
    simp [h]
  · rw [decide_eq_false h, br_f]
    simp [h]
inductive Wk (lists : List (List Int)) (x : Int) : Int → Prop
  | base : Wk lists x x
  | step {y z : Int} : Wk lists x y → z ∈ rdL lists y → Wk lists x z
def SpI (lists : List (List Int)) (m : Nat) (x : Int) (o q : List Int) : Prop :=
  o.length = m ∧ inM m q ∧ (∀ y, InN m y → (0 ≤ rdI o y ↔ y ∈ q)) ∧ (∀ y, InN m y → rdI o y < (q.length : Int)) ∧ ∀ y ∈ q, Wk lists x y
noncomputable def spF (u : Int) (s : List Int × List Int) (z : Int) : List Int × List Int := if rdI s.1 z < 0 then (tSet s.1 z (rdI s.1 u + 1), s.2 ++ [z]) else s
theorem spF_ok {lists : List (List Int)} {m : Nat} {x u z : Int} {s : List Int × List Int} (h : SpI lists m x s.1 s.2) (hu : u ∈ s.2) (hz : InN m z) (hr : z ∈ rdL lists u) : SpI lists m x (spF u s z).1 (spF u s z).2 ∧ (∃ t, (spF u s z).2 = s.2 ++ t) ∧ z ∈ (spF u s z).2 := by
  obtain ⟨h1, h2, h3, h4, h5⟩ := h
  unfold spF
  by_cases hc : rdI s.1 z < 0
  · rw [if_pos hc]
    obtain ⟨i, hi, rfl⟩ := nat_of hz
    have hzq : ¬ (i : Int) ∈ s.2 := fun h => by have := (h3 _ hz).2 h; omega
    have hum : InN m u := h2.2 u hu
    have hu0 := (h3 u hum).2 hu
    have hu1 := h4 u hum
    refine ⟨⟨by simp only [tSet_n, List.length_set]; exact h1, ⟨?_, ?_⟩, ?_, ?_, ?_⟩, ⟨_, rfl⟩, by simp⟩
    · refine List.nodup_append.2 ⟨h2.1, by simp, ?_⟩
      intro a ha b hb
      simp at hb
      rw [hb]
      exact fun e => hzq (e ▸ ha)
    · intro y hy
      rcases List.mem_append.1 hy with h | h
      · exact h2.2 y h
      · simp at h; rw [h]; exact hz
    · intro y hy
      simp only []
      rw [rdI_set (by omega) _ y hy.1, List.mem_append, List.mem_singleton]
      by_cases hyi : y = i
      · rw [if_pos hyi]
        exact ⟨fun _ => .inr hyi, fun _ => by omega⟩
      · rw [if_neg hyi, h3 y hy]
        exact ⟨.inl, fun h => h.elim _root_.id fun h => absurd h hyi⟩
    · intro y hy
      simp only []
      rw [rdI_set (by omega) _ y hy.1, List.length_append, List.length_singleton]
      by_cases hyi : y = i
      · rw [if_pos hyi]; omega
      · rw [if_neg hyi]
        have := h4 y hy
        omega
    · intro y hy
      rcases List.mem_append.1 hy with h | h
      · exact h5 y h
      · simp at h; rw [h]; exact .step (h5 u hu) hr
  · rw [if_neg hc]
    exact ⟨⟨h1, h2, h3, h4, h5⟩, ⟨[], by simp⟩, (h3 z hz).1 (by omega)⟩
theorem l2Spread_eq {N : Nat} {lists : List (List Int)} {m : Nat} {x : Int} (hm : lists.length = m) (hm' : m ≤ 1048575) (hl : ∀ l ∈ lists, l.length ≤ 1048576 ∧ ∀ z ∈ l, InN m z) (hx : InN m x) (hN : 1048577 ≤ N) :
    ∃ o, spec_l2Spread N lists x = some ((o, ()), ()) ∧ o.length = m ∧ ∀ y, InN m y → (0 ≤ rdI o y ↔ Wk lists x y) := by
  have go : ∀ (d n K : Nat) (o q : List Int), n + d = m → d < K → n ≤ q.length → x ∈ q → SpI lists m x o q → (∀ i, i < n → ∀ z ∈ rdL lists (rdI q i), z ∈ q) →
      ∃ o' q', spec_l2Spread_l1 N (fun o1 => some ((o1, ()), ())) K lists n o q = some ((o', ()), ()) ∧ x ∈ q' ∧ SpI lists m x o' q' ∧ ∀ y ∈ q', ∀ z ∈ rdL lists y, z ∈ q' := by
    intro d
    induction d with
    | zero =>
      intro n K o q hd hK hn hxq hs hc
      obtain ⟨k, rfl⟩ := succ_of hK
      have hqm := inM_len hs.2.1
      simp only [spec_l2Spread_l1, ilt_lenf (show ¬ n < q.length by omega), br_f]
      exact ⟨o, q, rfl, hxq, hs, all_rdI.2 fun i hi => hc i (by omega)⟩
    | succ d ih =>
      intro n K o q hd hK hn hxq hs hc
      obtain ⟨k, rfl⟩ := succ_of hK
      have hqm := inM_len hs.2.1
      by_cases hnq : n < q.length
      · have huq : q[n] ∈ q := List.getElem_mem hnq
        have hum := hs.2.1.2 _ huq
        have hrow : rdL lists q[n] ∈ lists := by
          obtain ⟨i, hi, e⟩ := nat_of (show InN m q[n] from hum)
          rw [e, rdL_n (by omega)]
          exact List.getElem_mem _
        obtain ⟨hr1, hr2⟩ := hl _ hrow
        simp only [spec_l2Spread_l1, ilt_len hnq, br_t, inb_n hnq, chk_t, rdI_n hnq]
        rw [inb_i hum.1 (by omega), chk_t]
        have key := loop_list (xs := rdL lists q[n]) (L := fun K' i (s : List Int × List Int) => spec_l2Spread_l1_0 N (fun x4 x5 o3 o4 => spec_l2Spread_l1 N (fun o1 => some ((o1, ()), ())) k x4 (IntKind.i64.wrap (x5 + 1)) o3 o4) K' lists n (rdL lists q[n]) i s.1 s.2)
          (k := fun s => spec_l2Spread_l1 N (fun o1 => some ((o1, ()), ())) k lists (IntKind.i64.wrap ((n : Int) + 1)) s.1 s.2) (spF q[n]) (fun i s => SpI lists m x s.1 s.2 ∧ (∃ t, s.2 = q ++ t) ∧ ∀ k, k < i → rdI (rdL lists q[n]) k ∈ s.2) (fun K' i s hi _ => ?_) (fun K' i s hi hI => ?_) (fun i s hi hI => ?_) (s := (o, q)) (K := N) (by omega) ⟨hs, ⟨[], by simp⟩, fun k hk => absurd hk (Nat.not_lt_zero k)⟩
        · simp only [Int.natCast_zero] at key
          rw [key.1, wrap_succ (by omega)]
          obtain ⟨hs', ⟨t, ht⟩, hcl⟩ := key.2
          have hql : q.length ≤ ((rdL lists q[n]).foldl (spF q[n]) (o, q)).2.length := by rw [ht]; simp
          have hget : ∀ i : Nat, i < q.length → rdI ((rdL lists q[n]).foldl (spF q[n]) (o, q)).2 i = rdI q i := by
            intro i hi
            rw [ht, rdI_n (by simp; omega), rdI_n hi, List.getElem_append_left hi]
          refine ih (n + 1) k _ _ (by omega) (by omega) (by omega) (by rw [ht]; exact List.mem_append_left _ hxq) hs' fun i hi z hz => ?_
          rw [hget i (by omega)] at hz
          by_cases hin : i = n
          · subst hin
            rw [rdI_n hnq] at hz
            exact (all_rdI (p := fun z => z ∈ ((rdL lists q[i]).foldl (spF q[i]) (o, q)).2)).2 hcl z hz
          · rw [ht]
            exact List.mem_append_left _ (hc i (by omega) z hz)
        · simp only [spec_l2Spread_l1_0, ilt_lenf hi, br_f]
        · obtain ⟨hI1, ⟨t, ht⟩, hI3⟩ := hI
          have hz := hr2 _ (List.getElem_mem hi)
          have hsl := inM_len hI1.2.1
          have hns : n < s.2.length := by rw [ht]; simp; omega
          have hrn : rdI s.2 n = q[n] := by rw [rdI_n hns]; simp only [ht]; rw [List.getElem_append_left hnq]
          have hus : q[n] ∈ s.2 := by rw [ht]; exact List.mem_append_left _ huq
          have hval := (hI1.2.2.1 _ hum).2 hus
          have hval2 := hI1.2.2.2.1 _ hum
          have hlen := hI1.1
          simp only [spec_l2Spread_l1_0, ilt_len hi, br_t, inb_n hi, chk_t, rdI_n hi]
          rw [inb_i hz.1 (by have := hz.2; omega), chk_t]
          unfold spF
          by_cases hcc : rdI s.1 (rdL lists q[n])[i] < 0
          · rw [ilt_t hcc, br_t, if_pos hcc, inb_n hns, chk_t, hrn, inb_i hum.1 (by omega), chk_t, chk_t, room_ok (by simp; omega), chk_t, wrap_succ (by omega), wrap_ok (by omega) (by omega), tApp_d]
          · rw [ilt_f hcc, br_f, if_neg hcc, wrap_succ (by omega)]
        · obtain ⟨hI1, ⟨t, ht⟩, hI3⟩ := hI
          have hus : q[n] ∈ s.2 := by rw [ht]; exact List.mem_append_left _ huq
          obtain ⟨f1, ⟨t', ht'⟩, f3⟩ := spF_ok hI1 hus (hr2 _ (List.getElem_mem hi)) (List.getElem_mem hi)
          refine ⟨f1, ⟨t ++ t', by rw [ht', ht, List.append_assoc]⟩, fun k hk => ?_⟩
          by_cases hki : k = i
          · subst hki; rw [rdI_n hi]; exact f3
          · rw [ht']; exact List.mem_append_left _ (hI3 k (by omega))
      · simp only [spec_l2Spread_l1, ilt_lenf hnq, br_f]
        exact ⟨o, q, rfl, hxq, hs, all_rdI.2 fun i hi => hc i (by omega)⟩
  have fill : ∀ (d n K : Nat) (k0 : List (List Int) → Int → List Int → Option ((List Int × Unit) × Unit)), n + d = m → d < K →
      spec_l2Spread_l0 N k0 K lists x n (List.replicate n (-1) ++ List.replicate d 0) = k0 lists x (List.replicate m (-1)) := by
    intro d
    induction d with
    | zero =>
      intro n K k0 hd hK
      obtain ⟨k, rfl⟩ := succ_of hK
      have hln : (List.replicate n (-1 : Int) ++ List.replicate 0 0).length = n := by simp
      simp only [spec_l2Spread_l0, ilt_lenf (show ¬ n < (List.replicate n (-1 : Int) ++ List.replicate 0 0).length by omega), br_f]
      have : n = m := by omega
      subst this
      simp
    | succ d ih =>
      intro n K k0 hd hK
      obtain ⟨k, rfl⟩ := succ_of hK
      have hn : n < (List.replicate n (-1 : Int) ++ List.replicate (d + 1) 0).length := by simp
      simp only [spec_l2Spread_l0, ilt_len hn, br_t, inb_n hn, chk_t]
      rw [wrap_succ (by omega), ← ih (n + 1) k k0 (by omega) (by omega), tSet_n]
      congr 1
      rw [List.replicate_succ' (n := n), List.replicate_succ, List.set_append_right _ _ (by simp)]
      simp
  unfold spec_l2Spread
  rw [tLen_n, hm, ile_t (by omega), ile_t (Int.le_refl _), fits_ok (by omega)]
  simp only [Bool.and_self, chk_t]
  have hf := fill m 0 N (fun x x1 o => (chk (inb o x1) (spec_l2Spread_l1 N (fun o1 => some ((o1, ()), ())) N x 0 (tSet o x1 0) [x1]))) (by omega) (by omega)
  rw [tRep_n]
  simp only [Int.natCast_zero, List.replicate_zero, List.nil_append] at hf
  rw [hf]
  obtain ⟨i, hi, rfl⟩ := nat_of hx
  have hrep : ∀ y, InN m y → rdI (List.replicate m (-1 : Int)) y = -1 := by
    intro y hy
    obtain ⟨k, hk, rfl⟩ := nat_of hy
    rw [rdI_n (by simp; exact hk)]
    simp
  rw [inb_n (by simp; exact hi), chk_t]
  have i3 : ∀ y, InN m y → (0 ≤ rdI (tSet (List.replicate m (-1)) (i : Int) 0) y ↔ y ∈ [(i : Int)]) := by
    intro y hy
    rw [rdI_set (by simp; exact hi) _ y hy.1]
    by_cases hyi : y = i
    · rw [if_pos hyi]; simp [hyi]
    · rw [if_neg hyi, hrep y hy]; simp [hyi]
  have i4 : ∀ y, InN m y → rdI (tSet (List.replicate m (-1)) (i : Int) 0) y < (([(i : Int)].length : Nat) : Int) := by
    intro y hy
    rw [rdI_set (by simp; exact hi) _ y hy.1]
    by_cases hyi : y = i
    · rw [if_pos hyi]; simp
    · rw [if_neg hyi, hrep y hy]; simp
  obtain ⟨o', q', e1, e2, e3, e4⟩ := go m 0 N (tSet (List.replicate m (-1)) (i : Int) 0) [(i : Int)] (by omega) (by omega) (Nat.zero_le _) (by simp) ⟨by rw [tSet_n]; simp, ⟨by simp, fun z hz => by simp at hz; rw [hz]; exact hx⟩, i3, i4, fun y hy => by simp at hy; rw [hy]; exact .base⟩ fun i hi => absurd hi (Nat.not_lt_zero i)
  refine ⟨o', e1, e3.1, fun y hy => ⟨fun h => e3.2.2.2.2 y ((e3.2.2.1 y hy).1 h), fun h => (e3.2.2.1 y hy).2 ?_⟩⟩
  clear hy
  induction h with
  | base => exact e2
  | step _ hz ih => exact e4 _ ih _ hz
noncomputable def nbrs (m : Nat) (es : List (Int × Int)) : List (List Int) := (List.range m).map fun i : Nat => nbr m es (i : Int)
theorem rd_nbrs {m : Nat} {es : List (Int × Int)} {y : Int} (hy : InN m y) : rdL (nbrs m es) y = nbr m es y := by
  obtain ⟨i, hi, rfl⟩ := nat_of hy
  rw [rdL_n (by simp [nbrs]; exact hi)]
  simp [nbrs]
theorem wk_cn {m : Nat} {es : List (Int × Int)} (he : EdgesIn m es) {x : Int} (hx : InN m x) {y : Int} : Wk (nbrs m es) x y ↔ Cn es x y := by
  constructor
  · intro h
    have : InN m y ∧ Cn es x y := by
      induction h with
      | base => exact ⟨hx, Cn_refl⟩
      | step _ hz ih =>
        rw [rd_nbrs ih.1] at hz
        obtain ⟨i, hi, hn, rfl⟩ := mem_nbr.1 hz
        exact ⟨in_nat hi, Cn_trans ih.2 (Cn_near hn)⟩
    exact this.2
  · intro h
    have : InN m y ∧ Wk (nbrs m es) x y := by
      induction h with
      | base => exact ⟨hx, .base⟩
      | @step y z _ hn _ ih =>
        have hz : InN m z := by
          rcases hn with hn | hn
          · exact (he _ hn).2
          · exact (he _ hn).1
        refine ⟨hz, .step ih.2 ?_⟩
        rw [rd_nbrs ih.1]
        obtain ⟨i, hi, rfl⟩ := nat_of hz
        exact mem_nbr.2 ⟨i, hi, hn, rfl⟩
    exact this.2
theorem l3Far_eq {N : Nat} {m : Nat} {es : List (Int × Int)} (hm : m ≤ 8) (hx : es.length ≤ 1048576) (he : EdgesIn m es) {x : Int} (hxm : InN m x) (hN : 1048577 ≤ N) :
    ∃ o, spec_l3Far N ((m : Int), es) x = some ((o, ()), ()) ∧ o.length = m ∧ ∀ y, InN m y → (0 ≤ rdI o y ↔ Cn es x y) := by
  have go : ∀ (d n K : Nat), n + d = m → d < K →
      spec_l3Far_l0 N (fun x1 o => ((spec_l2Spread N o x1).bind fun r => some ((r.1.1, ()), ()))) K x n (m : Int) es ((List.range n).map (fun i : Nat => nbr m es (i : Int)) ++ List.replicate d []) = ((spec_l2Spread N (nbrs m es) x).bind fun r => some ((r.1.1, ()), ())) := by
    intro d
    induction d with
    | zero =>
      intro n K hd hK
      obtain ⟨k, rfl⟩ := succ_of hK
      have : n = m := by omega
      subst this
      simp only [spec_l3Far_l0, ilt_nf (Nat.lt_irrefl n), br_f, List.replicate_zero, List.append_nil]
      rfl
    | succ d ih =>
      intro n K hd hK
      obtain ⟨k, rfl⟩ := succ_of hK
      simp only [spec_l3Far_l0, ilt_n (show n < m by omega), br_t]
      rw [l2Neighbors_eq hm hx hN, bind_some', inb_n (by simp), chk_t, wrap_succ (by omega), ← ih (n + 1) k (by omega) (by omega), tSet_n]
      congr 1
      rw [List.replicate_succ, List.set_append_right _ _ (by simp), List.range_succ, List.map_append]
      simp
  unfold spec_l3Far
  rw [ile_t (by omega), ile_t (Int.le_refl _), fits_ok (by omega)]
  simp only [Bool.and_self, chk_t]
  have := go m 0 N (by omega) (by omega)
  rw [tRep_n]
  simp only [Int.natCast_zero, List.range_zero, List.map_nil, List.nil_append] at this
  rw [this]
  have hnb : ∀ l ∈ nbrs m es, l.length ≤ 1048576 ∧ ∀ z ∈ l, InN m z := by
    intro l hl
    obtain ⟨i, _, rfl⟩ := List.mem_map.1 hl
    have := nbr_len m es (i : Int)
    refine ⟨by omega, fun z hz => ?_⟩
    obtain ⟨k, hk, _, rfl⟩ := mem_nbr.1 hz
    exact in_nat hk
  obtain ⟨o, h1, h2, h3⟩ := l2Spread_eq (N := N) (lists := nbrs m es) (m := m) (by simp [nbrs]) (by omega) hnb hxm hN
  exact ⟨o, by rw [h1]; rfl, h2, fun y hy => (h3 y hy).trans (wk_cn he hxm)⟩
theorem edge_in {m : Nat} {es : List (Int × Int)} (hg : goodG ((m : Int), es)) {i : Nat} (hi : i < es.length) : InN m (rdP es (i : Int)).1 ∧ InN m (rdP es (i : Int)).2 := by
  have := (hg.2 i hi).1
  simp only at this
  exact ⟨⟨this.1, by omega⟩, ⟨by omega, this.2.2⟩⟩
theorem treeE_snoc (es : List (Int × Int)) (L : List Int) (i : Int) : treeE es (L ++ [i]) = treeE es L ++ [rdP es i] := by simp [treeE]
theorem l7Closes_eq {N : Nat} {m : Nat} {es : List (Int × Int)} {b : List Int} {e : Nat} (hg : goodG ((m : Int), es)) (hx : es.length ≤ 1048576) (hb : ∀ i ∈ b, 0 ≤ i ∧ i < (es.length : Int)) (hl : b.length ≤ 1048575) (he : e < es.length) (hN : 1048577 ≤ N) :
    spec_l7Closes N ((m : Int), es) (b ++ [(e : Int)]) = some ((decide (Cn (treeE es b) (rdP es (e : Int)).1 (rdP es (e : Int)).2), ()), ()) := by
  have hm8 : m ≤ 8 := by have := hg.1.2; simp only at this; omega
  have hlen : (b ++ [(e : Int)]).length = b.length + 1 := by simp
  have hw : IntKind.i64.wrap (tLen (b ++ [(e : Int)]) - 1) = (b.length : Int) := by rw [tLen_n, hlen, wrap_ok (by omega) (by omega)]; omega
  have hrd : rdI (b ++ [(e : Int)]) (b.length : Int) = e := by rw [rdI_n (by omega)]; simp
  have hcut : tCut (b ++ [(e : Int)]) 0 (b.length : Int) = b := by
    rw [show (0 : Int) = ((0 : Nat) : Int) from rfl, tCut_n]
    simp
  obtain ⟨ea, eb⟩ := edge_in hg he
  obtain ⟨o, h1, h2, h3⟩ := l3Far_eq (N := N) hm8 (show (treeE es b).length ≤ 1048576 by simp [treeE]; omega) (treeE_in hg hb) ea hN
  unfold spec_l7Closes
  rw [hw, hrd, hcut, inb_n (by omega), chk_t, inb_n he, chk_t, tLen_n, ile_t (by omega), ile_t (by omega), ile_t (by omega)]
  simp only [Bool.and_self, chk_t]
  rw [l7Part_eq hb (by omega) hN, bind_some']
  simp only []
  rw [h1, bind_some', inb_i eb.1 (by rw [h2]; exact eb.2), chk_t, ile_d]
  congr 3
  have := h3 _ eb
  by_cases hc : Cn (treeE es b) (rdP es (e : Int)).1 (rdP es (e : Int)).2
  · rw [decide_eq_true hc, decide_eq_true (this.2 hc)]
  · rw [decide_eq_false hc, decide_eq_false (fun h => hc (this.1 h))]
theorem rep_le {n : Nat} {es es' : List (Int × Int)} {ρ ρ' : Int → Int} (h : Rep n es ρ) (h' : Rep n es' ρ') (hc : ∀ x y, InN n x → InN n y → Cn es x y → Cn es' x y) :
    (fixN n ρ').length ≤ (fixN n ρ).length ∧ ((fixN n ρ').length = (fixN n ρ).length → ∀ x y, InN n x → InN n y → Cn es' x y → Cn es x y) := by
  have hnd : ((fixN n ρ').map fun i : Nat => ρ (i : Int)).Nodup := by
    have := fixN_nodup n ρ'
    refine List.pairwise_map.2 (List.Pairwise.imp_of_mem (fun {a b} ha hb hab he => hab ?_) this)
    obtain ⟨a1, a2⟩ := mem_fixN.1 ha
    obtain ⟨b1, b2⟩ := mem_fixN.1 hb
    have := (h'.cn _ _ (in_nat a1) (in_nat b1)).2 (hc _ _ (in_nat a1) (in_nat b1) ((h.cn _ _ (in_nat a1) (in_nat b1)).1 he))
    rw [a2, b2] at this
    omega
  have hsub : ∀ z ∈ (fixN n ρ').map (fun i : Nat => ρ (i : Int)), z ∈ (fixN n ρ).map fun i : Nat => (i : Int) := by
    intro z hz
    obtain ⟨i, hi, rfl⟩ := List.mem_map.1 hz
    have hin := in_nat (mem_fixN.1 hi).1
    obtain ⟨a, ha, ea⟩ := nat_of (h.rng _ hin)
    exact List.mem_map.2 ⟨a, mem_fixN.2 ⟨ha, by rw [← ea]; exact h.idem _ hin⟩, ea.symm⟩
  have hle := nodup_le hnd hsub
  rw [List.length_map, List.length_map] at hle
  refine ⟨hle, fun heq x y hx hy hxy => ?_⟩
  have hsur : ∀ z ∈ (fixN n ρ).map (fun i : Nat => (i : Int)), z ∈ (fixN n ρ').map fun i : Nat => ρ (i : Int) := by
    intro z hz
    by_cases hm : z ∈ (fixN n ρ').map fun i : Nat => ρ (i : Int)
    · exact hm
    · have := nodup_le (a := z :: (fixN n ρ').map fun i : Nat => ρ (i : Int)) (List.nodup_cons.2 ⟨hm, hnd⟩) (b := (fixN n ρ).map fun i : Nat => (i : Int)) fun w hw => by
        rcases List.mem_cons.1 hw with rfl | hw
        · exact hz
        · exact hsub w hw
      rw [List.length_cons, List.length_map, List.length_map] at this
      omega
  have rep : ∀ x, InN n x → ∃ u : Nat, u < n ∧ ρ' (u : Int) = u ∧ ρ x = ρ (u : Int) := by
    intro x hx
    obtain ⟨a, ha, ea⟩ := nat_of (h.rng _ hx)
    have hm : (a : Int) ∈ (fixN n ρ).map fun i : Nat => (i : Int) := List.mem_map.2 ⟨a, mem_fixN.2 ⟨ha, by rw [← ea]; exact h.idem _ hx⟩, rfl⟩
    obtain ⟨u, hu, hua⟩ := List.mem_map.1 (hsur _ hm)
    exact ⟨u, (mem_fixN.1 hu).1, (mem_fixN.1 hu).2, by rw [ea]; exact hua.symm⟩
  obtain ⟨u, u1, u2, u3⟩ := rep x hx
  obtain ⟨v, v1, v2, v3⟩ := rep y hy
  have hxu := (h.cn _ _ hx (in_nat u1)).1 u3
  have hyv := (h.cn _ _ hy (in_nat v1)).1 v3
  have huv : Cn es' (u : Int) (v : Int) := Cn_trans (Cn_symm (hc _ _ hx (in_nat u1) hxu)) (Cn_trans hxy (hc _ _ hy (in_nat v1) hyv))
  have := (h'.cn _ _ (in_nat u1) (in_nat v1)).2 huv
  rw [u2, v2] at this
  have huv' : u = v := by omega
  subst huv'
  exact Cn_trans hxu (Cn_symm hyv)
def spE (es : List (Int × Int)) (L : List Int) (e : Int) : Prop := Cn (treeE es L) (rdP es e).1 (rdP es e).2
theorem spE_mono {es : List (Int × Int)} {L L' : List Int} (h : ∀ x ∈ L, x ∈ L') {e : Int} (hs : spE es L e) : spE es L' e := by
  refine Cn_mono (fun p hp => ?_) hs
  obtain ⟨i, hi, rfl⟩ := List.mem_map.1 hp
  exact List.mem_map.2 ⟨i, h i hi, rfl⟩
theorem spE_self {es : List (Int × Int)} {L : List Int} {e : Int} (h : e ∈ L) : spE es L e := Cn_near (.inl (List.mem_map.2 ⟨e, h, rfl⟩))
theorem spE_span {es : List (Int × Int)} {L L' : List Int} (h : ∀ x ∈ L, spE es L' x) {a b : Int} (hs : Cn (treeE es L) a b) : Cn (treeE es L') a b := by
  refine Cn_sub (fun p hp => ?_) hs
  obtain ⟨i, hi, rfl⟩ := List.mem_map.1 hp
  exact h i hi
noncomputable def stepK (es : List (Int × Int)) (L : List Int) (e : Int) : List Int := if spE es L e then L else L ++ [e]
theorem stepK_sub {es : List (Int × Int)} : ∀ (Q S : List Int), ∃ t, Q.foldl (stepK es) S = S ++ t ∧ ∀ x ∈ t, x ∈ Q := by
  intro Q
  induction Q with
  | nil => intro S; exact ⟨[], by simp, by simp⟩
  | cons e Q ih =>
    intro S
    obtain ⟨t, h1, h2⟩ := ih (stepK es S e)
    rw [List.foldl_cons, h1]
    unfold stepK
    by_cases h : spE es S e
    · rw [if_pos h]; exact ⟨t, rfl, fun x hx => List.mem_cons_of_mem _ (h2 x hx)⟩
    · rw [if_neg h]
      refine ⟨[e] ++ t, by rw [List.append_assoc], fun x hx => ?_⟩
      rcases List.mem_append.1 hx with hx | hx
      · simp at hx; rw [hx]; exact List.mem_cons_self ..
      · exact List.mem_cons_of_mem _ (h2 x hx)
theorem stepK_acy {es : List (Int × Int)} : ∀ (Q S : List Int), Acy (treeE es S) → Acy (treeE es (Q.foldl (stepK es) S)) := by
  intro Q
  induction Q with
  | nil => intro S h; exact h
  | cons e Q ih =>
    intro S h
    rw [List.foldl_cons]
    refine ih _ ?_
    unfold stepK
    by_cases hs : spE es S e
    · rw [if_pos hs]; exact h
    · rw [if_neg hs, treeE_snoc]; exact .snoc h hs
theorem stepK_nodup {es : List (Int × Int)} : ∀ (Q S : List Int), S.Nodup → (Q.foldl (stepK es) S).Nodup := by
  intro Q
  induction Q with
  | nil => intro S h; exact h
  | cons e Q ih =>
    intro S h
    rw [List.foldl_cons]
    refine ih _ ?_
    unfold stepK
    by_cases hs : spE es S e
    · rw [if_pos hs]; exact h
    · rw [if_neg hs]
      refine List.nodup_append.2 ⟨h, by simp, fun a ha b hb => ?_⟩
      simp at hb
      subst hb
      rintro rfl
      exact hs (spE_self ha)
theorem acy_filter {es : List (Int × Int)} (p : Int → Bool) : ∀ (L : List Int), Acy (treeE es L) → Acy (treeE es (L.filter p)) := by
  have key : ∀ (n : Nat) (L : List Int), L.length = n → Acy (treeE es L) → Acy (treeE es (L.filter p)) := by
    intro n
    induction n with
    | zero => intro L hl _; rw [List.length_eq_zero_iff.1 hl]; exact .nil
    | succ n ih =>
      intro L hl h
      rcases List.eq_nil_or_concat L with rfl | ⟨L', e, rfl⟩
      · simp at hl
      · rw [List.concat_eq_append] at h hl ⊢
        rw [treeE_snoc] at h
        obtain ⟨h1, h2⟩ := acy_snoc.1 h
        have i1 := ih L' (by simpa using hl) h1
        rw [List.filter_append]
        by_cases hp : p e = true
        · rw [List.filter_cons_of_pos hp, List.filter_nil, treeE_snoc]
          exact .snoc i1 fun hc => h2 (spE_mono (fun x hx => (List.mem_filter.1 hx).1) hc)
        · rw [List.filter_cons_of_neg hp, List.filter_nil, List.append_nil]
          exact i1
  exact fun L => key L.length L rfl
theorem ind_acy {m : Nat} {es : List (Int × Int)} {L : List Int} (hE : EdgesIn m (treeE es L)) (hn : L.Nodup) (h : Acy (treeE es L)) {e : Int} (he : e ∈ L) : ¬ spE es (L.filter fun x => decide (x ≠ e)) e := by
  intro hs
  have hE' : EdgesIn m (treeE es (L.filter fun x => decide (x ≠ e))) := fun p hp => by
    obtain ⟨i, hi, rfl⟩ := List.mem_map.1 hp
    exact hE _ (List.mem_map.2 ⟨i, (List.mem_filter.1 hi).1, rfl⟩)
  obtain ⟨ρ, a1, a2, a3⟩ := acy_count (n := m) _ hE
  obtain ⟨ρ', b1, b2, b3⟩ := acy_count (n := m) _ hE'
  have ha := a3.2 h
  have hc : ∀ x y, InN m x → InN m y → Cn (treeE es L) x y → Cn (treeE es (L.filter fun x => decide (x ≠ e))) x y := fun x y _ _ hxy => spE_span (fun z hz => by
    by_cases hze : z = e
    · rw [hze]; exact hs
    · exact spE_self (List.mem_filter.2 ⟨hz, decide_eq_true hze⟩)) hxy
  have hle := (rep_le a1 b1 hc).1
  have hlen : (L.filter fun x => decide (x ≠ e)).length + 1 = L.length := by
    have e1 : (L.filter fun x => decide (x ≠ e)) = L.erase e := by
      rw [hn.erase_eq_filter]
      refine List.filter_congr fun x _ => ?_
      by_cases hx : x = e <;> simp [hx]
    rw [e1, List.length_erase_of_mem he]
    have := List.length_pos_of_mem he
    omega
  have l1 : (treeE es L).length = L.length := by simp [treeE]
  have l2 : (treeE es (L.filter fun x => decide (x ≠ e))).length = (L.filter fun x => decide (x ≠ e)).length := by simp [treeE]
  rw [l1] at ha
  rw [l2] at b2
  omega
/-! Run from a part of the outcome. -/
theorem run_part {m : Nat} {es : List (Int × Int)} {Q S : List Int} (hE : EdgesIn m (treeE es (Q.foldl (stepK es) []))) (hS : ∀ x ∈ S, x ∈ Q.foldl (stepK es) []) : ∀ x, x ∈ Q.foldl (stepK es) S ↔ x ∈ Q.foldl (stepK es) [] := by
  have hac := stepK_acy (es := es) Q [] .nil
  have hnd := stepK_nodup (es := es) Q [] List.Pairwise.nil
  have key : ∀ (n : Nat) (Q1 Q2 : List Int), Q1.length = n → Q1 ++ Q2 = Q → ∀ x, x ∈ Q1.foldl (stepK es) S ↔ x ∈ S ∨ x ∈ Q1.foldl (stepK es) [] := by
    intro n
    induction n with
    | zero => intro Q1 Q2 hl _ x; rw [List.length_eq_zero_iff.1 hl]; simp
    | succ n ih =>
      intro Q1 Q2 hl hq x
      rcases List.eq_nil_or_concat Q1 with rfl | ⟨Q1', e, rfl⟩
      · simp at hl
      · rw [List.concat_eq_append] at hl hq ⊢
        have hi := ih Q1' (e :: Q2) (by simpa using hl) (by rw [← hq]; simp)
        have hK1 : ∀ z ∈ (Q1' ++ [e]).foldl (stepK es) [], z ∈ Q.foldl (stepK es) [] := by
          intro z hz
          obtain ⟨t, ht, _⟩ := stepK_sub (es := es) Q2 ((Q1' ++ [e]).foldl (stepK es) [])
          rw [← hq, List.foldl_append, ht]
          exact List.mem_append_left _ hz
        rw [List.foldl_append, List.foldl_append] at *
        simp only [List.foldl_cons, List.foldl_nil] at *
        generalize Q1'.foldl (stepK es) S = S1 at *
        generalize hK1' : Q1'.foldl (stepK es) [] = K1 at *
        by_cases hk : spE es K1 e
        · have hs : spE es S1 e := spE_mono (fun z hz => (hi z).2 (.inr hz)) hk
          have e1 : stepK es S1 e = S1 := by unfold stepK; rw [if_pos hs]
          have e2 : stepK es K1 e = K1 := by unfold stepK; rw [if_pos hk]
          rw [e1, e2]
          exact hi x
        · have e2 : stepK es K1 e = K1 ++ [e] := by unfold stepK; rw [if_neg hk]
          rw [e2] at hK1 ⊢
          by_cases heS : e ∈ S
          · have e1 : stepK es S1 e = S1 := by unfold stepK; rw [if_pos (spE_self ((hi e).2 (.inl heS)))]
            rw [e1, hi x, List.mem_append, List.mem_singleton]
            constructor
            · rintro (h | h)
              · exact .inl h
              · exact .inr (.inl h)
            · rintro (h | h | rfl)
              · exact .inl h
              · exact .inr h
              · exact .inl heS
          · have hs : ¬ spE es S1 e := by
              intro hs
              refine ind_acy hE hnd hac (hK1 e (by simp)) (spE_mono (fun z hz => ?_) hs)
              have hne : z ≠ e := by
                rintro rfl
                rcases (hi z).1 hz with h | h
                · exact heS h
                · exact hk (spE_self h)
              refine List.mem_filter.2 ⟨?_, decide_eq_true hne⟩
              rcases (hi z).1 hz with h | h
              · exact hS z h
              · exact hK1 z (List.mem_append_left _ h)
            have e1 : stepK es S1 e = S1 ++ [e] := by unfold stepK; rw [if_neg hs]
            rw [e1, List.mem_append, List.mem_singleton, hi x, List.mem_append, List.mem_singleton, or_assoc]
  intro x
  rw [key Q.length Q [] rfl (by simp) x]
  exact ⟨fun h => h.elim (hS x) _root_.id, .inr⟩
def befE (wt : Int → Nat) (f e : Int) : Prop := wt f < wt e ∨ (wt f = wt e ∧ f < e)
theorem greedy_spec {es : List (Int × Int)} {wt : Int → Nat} : ∀ (Q : List Int), Q.Pairwise (befE wt) → ∀ e ∈ Q, e ∉ Q.foldl (stepK es) [] → spE es ((Q.foldl (stepK es) []).filter fun f => decide (befE wt f e)) e := by
  have key : ∀ (n : Nat) (Q : List Int), Q.length = n → Q.Pairwise (befE wt) → ∀ e ∈ Q, e ∉ Q.foldl (stepK es) [] → spE es ((Q.foldl (stepK es) []).filter fun f => decide (befE wt f e)) e := by
    intro n
    induction n with
    | zero => intro Q hl _ e he; rw [List.length_eq_zero_iff.1 hl] at he; simp at he
    | succ n ih =>
      intro Q hl hp e he hn
      rcases List.eq_nil_or_concat Q with rfl | ⟨Q', x, rfl⟩
      · simp at hl
      · rw [List.concat_eq_append] at *
        obtain ⟨p1, _, p3⟩ := List.pairwise_append.1 hp
        rw [List.foldl_append] at hn ⊢
        simp only [List.foldl_cons, List.foldl_nil] at hn ⊢
        obtain ⟨t, ht, hts⟩ := stepK_sub (es := es) Q' []
        rw [List.nil_append] at ht
        have hsub : ∀ z ∈ Q'.foldl (stepK es) [], z ∈ stepK es (Q'.foldl (stepK es) []) x := by
          intro z hz
          unfold stepK
          split
          · exact hz
          · exact List.mem_append_left _ hz
        rcases List.mem_append.1 he with he | he
        · have h1 := ih Q' (by simpa using hl) p1 e he fun h => hn (hsub e h)
          exact spE_mono (fun z hz => List.mem_filter.2 ⟨hsub z (List.mem_filter.1 hz).1, (List.mem_filter.1 hz).2⟩) h1
        · simp at he
          subst he
          have hs : spE es (Q'.foldl (stepK es) []) e := by
            by_cases hs : spE es (Q'.foldl (stepK es) []) e
            · exact hs
            · exfalso
              apply hn
              have e1 : stepK es (Q'.foldl (stepK es) []) e = Q'.foldl (stepK es) [] ++ [e] := if_neg hs
              rw [e1]
              simp
          refine spE_mono (fun z hz => List.mem_filter.2 ⟨hsub z hz, decide_eq_true ?_⟩) hs
          rw [ht] at hz
          exact p3 z (hts z hz) e (by simp)
  exact fun Q => key Q.length Q rfl
def wsumN (wt : Int → Nat) (L : List Int) : Nat := (L.map wt).sum
def ltN (wt : Int → Nat) (L : List Int) (v : Nat) : Nat := (L.filter fun f => decide (wt f < v)).length
theorem ltTab : ((List.range 100).all fun x => ((List.range' 1 99).filter fun v => decide (x < v)).length == 99 - x) = true := by kernel_rfl
theorem sum_swap {wt : Int → Nat} (hw : ∀ e, wt e ≤ 99) : ∀ L : List Int, wsumN wt L + ((List.range' 1 99).map (ltN wt L)).sum = 99 * L.length := by
  intro L
  induction L with
  | nil =>
    have : ∀ xs : List Nat, (xs.map (ltN wt [])).sum = 0 := by
      intro xs
      induction xs with
      | nil => rfl
      | cons x xs ih => rw [List.map_cons, List.sum_cons, ih]; rfl
    rw [this]
    rfl
  | cons e L ih =>
    have h1 : ∀ xs : List Nat, (xs.map (ltN wt (e :: L))).sum = (xs.filter fun v => decide (wt e < v)).length + (xs.map (ltN wt L)).sum := by
      intro xs
      induction xs with
      | nil => rfl
      | cons x xs ihx =>
        rw [List.map_cons, List.sum_cons, ihx, List.map_cons, List.sum_cons, List.filter_cons]
        have : ltN wt (e :: L) x = (if wt e < x then 1 else 0) + ltN wt L x := by
          unfold ltN
          rw [List.filter_cons]
          by_cases h : wt e < x
          · simp [h]; omega
          · simp [h]
        rw [this]
        by_cases h : wt e < x
        · simp [h]; omega
        · simp [h]; omega
    have h2 := eq_of_beq (List.all_eq_true.1 ltTab (wt e) (List.mem_range.2 (by have := hw e; omega)))
    rw [h1, h2, List.length_cons]
    have h3 := hw e
    have h4 : wsumN wt (e :: L) = wt e + wsumN wt L := by simp [wsumN]
    rw [h4]
    omega
theorem sums_eq {f g : Nat → Nat} : ∀ (xs : List Nat), (∀ v ∈ xs, f v ≤ g v) → (xs.map g).sum ≤ (xs.map f).sum → ∀ v ∈ xs, f v = g v := by
  intro xs
  induction xs with
  | nil => intro _ _ v hv; simp at hv
  | cons x xs ih =>
    intro hle hs v hv
    simp only [List.map_cons, List.sum_cons] at hs
    have h0 := hle x (List.mem_cons_self ..)
    have hrest : (xs.map f).sum ≤ (xs.map g).sum := by
      have go : ∀ ys : List Nat, (∀ v ∈ ys, f v ≤ g v) → (ys.map f).sum ≤ (ys.map g).sum := by
        intro ys
        induction ys with
        | nil => intro _; simp
        | cons y ys ihy =>
          intro hy
          have h1 := hy y (List.mem_cons_self ..)
          have h2 := ihy fun v hv => hy v (List.mem_cons_of_mem _ hv)
          simp only [List.map_cons, List.sum_cons]
          omega
      exact go xs fun v hv => hle v (List.mem_cons_of_mem _ hv)
    rcases List.mem_cons.1 hv with rfl | hv
    · omega
    · exact ih (fun v hv => hle v (List.mem_cons_of_mem _ hv)) (by omega) v hv
/-! What is as light as the greedy outcome, and has all of its earlier edges, has no other edge there. -/
theorem light_other {m : Nat} {es : List (Int × Int)} {wt : Int → Nat} (hw : ∀ e, wt e ≤ 99) {Q F : List Int} (hQ : Q.Pairwise (befE wt)) (hEQ : EdgesIn m (treeE es Q)) (hF : ∀ x ∈ F, x ∈ Q) (hFn : F.Nodup) (hFa : Acy (treeE es F))
    (hlen : F.length = (Q.foldl (stepK es) []).length) (hsum : wsumN wt F = wsumN wt (Q.foldl (stepK es) [])) {e : Int} (he : e ∈ F) (hpre : ∀ f ∈ Q.foldl (stepK es) [], f < e → f ∈ F) : e ∈ Q.foldl (stepK es) [] := by
  by_cases hek : e ∈ Q.foldl (stepK es) []
  · exact hek
  exfalso
  have hKa := stepK_acy (es := es) Q [] .nil
  have hKn := stepK_nodup (es := es) Q [] List.Pairwise.nil
  obtain ⟨t, ht, hts⟩ := stepK_sub (es := es) Q []
  rw [List.nil_append] at ht
  have hKQ : ∀ z ∈ Q.foldl (stepK es) [], z ∈ Q := fun z hz => hts z (by rw [← ht]; exact hz)
  have hg := greedy_spec (es := es) Q hQ
  generalize Q.foldl (stepK es) [] = K at *
  have hsubE : ∀ L : List Int, (∀ x ∈ L, x ∈ Q) → EdgesIn m (treeE es L) := fun L hL p hp => by
    obtain ⟨i, hi, rfl⟩ := List.mem_map.1 hp
    exact hEQ _ (List.mem_map.2 ⟨i, hL i hi, rfl⟩)
  have hspan : ∀ v, ∀ f ∈ Q, wt f < v → spE es (K.filter fun x => decide (wt x < v)) f := by
    intro v f hf hv
    by_cases hk : f ∈ K
    · exact spE_self (List.mem_filter.2 ⟨hk, decide_eq_true hv⟩)
    · refine spE_mono (fun z hz => ?_) (hg f hf hk)
      obtain ⟨z1, z2⟩ := List.mem_filter.1 hz
      have := of_decide_eq_true z2
      refine List.mem_filter.2 ⟨z1, decide_eq_true ?_⟩
      rcases this with h | ⟨h, _⟩ <;> omega
  have hcmp : ∀ v, ltN wt F v ≤ ltN wt K v ∧ (ltN wt F v = ltN wt K v → ∀ x y, InN m x → InN m y → Cn (treeE es (K.filter fun x => decide (wt x < v))) x y → Cn (treeE es (F.filter fun x => decide (wt x < v))) x y) := by
    intro v
    obtain ⟨ρ, a1, a2, a3⟩ := acy_count (n := m) (treeE es (F.filter fun x => decide (wt x < v))) (hsubE _ fun x hx => hF x (List.mem_filter.1 hx).1)
    obtain ⟨ρ', b1, b2, b3⟩ := acy_count (n := m) (treeE es (K.filter fun x => decide (wt x < v))) (hsubE _ fun x hx => hKQ x (List.mem_filter.1 hx).1)
    have ha := a3.2 (acy_filter _ F hFa)
    have hb := b3.2 (acy_filter _ K hKa)
    obtain ⟨r1, r2⟩ := rep_le a1 b1 fun x y _ _ hxy => spE_span (fun z hz => hspan v z (hF z (List.mem_filter.1 hz).1) (of_decide_eq_true (List.mem_filter.1 hz).2)) hxy
    have l1 : (treeE es (F.filter fun x => decide (wt x < v))).length = ltN wt F v := by simp [treeE, ltN]
    have l2 : (treeE es (K.filter fun x => decide (wt x < v))).length = ltN wt K v := by simp [treeE, ltN]
    rw [l1] at ha
    rw [l2] at hb
    exact ⟨by omega, fun h => r2 (by omega)⟩
  have hs1 := sum_swap hw F
  have hs2 := sum_swap hw K
  have heq : ∀ v, v ≤ 99 → ltN wt F v = ltN wt K v := by
    intro v hv
    rcases Nat.eq_zero_or_pos v with rfl | hp
    · have h0 : ∀ L : List Int, (L.filter fun f => decide (wt f < 0)) = [] := fun L => List.filter_eq_nil_iff.2 (by simp)
      unfold ltN
      rw [h0, h0]
    · exact sums_eq (List.range' 1 99) (fun v _ => (hcmp v).1) (by omega) v (List.mem_range'_1.2 (by omega))
  have h99 := hw e
  have hc := (hcmp (wt e)).2 (heq (wt e) h99)
  have hsp := hg e (hF e he) hek
  refine ind_acy (hsubE F hF) hFn hFa he ?_
  refine spE_span (fun z hz => ?_) hsp
  obtain ⟨z1, z2⟩ := List.mem_filter.1 hz
  rcases of_decide_eq_true z2 with hlt | ⟨hq, hlt⟩
  · have hzE := hsubE [z] (fun x hx => by simp at hx; rw [hx]; exact hKQ z z1) (rdP es z) (by simp [treeE])
    have h1 : Cn (treeE es (K.filter fun x => decide (wt x < wt e))) (rdP es z).1 (rdP es z).2 := spE_self (List.mem_filter.2 ⟨z1, decide_eq_true hlt⟩)
    have h2 := hc _ _ hzE.1 hzE.2 h1
    refine Cn_mono (fun p hp => ?_) h2
    obtain ⟨i, hi, rfl⟩ := List.mem_map.1 hp
    obtain ⟨i1, i2⟩ := List.mem_filter.1 hi
    refine List.mem_map.2 ⟨i, List.mem_filter.2 ⟨i1, decide_eq_true ?_⟩, rfl⟩
    rintro rfl
    have := of_decide_eq_true i2
    omega
  · exact spE_self (List.mem_filter.2 ⟨hpre z z1 hlt, decide_eq_true (by omega)⟩)
theorem codes {es : List (Int × Int)} {m : Nat} (hg : goodG ((m : Int), es)) : es.length ≤ 64 := by
  have hm8 : (m : Int) ≤ 8 := hg.1.2
  have key : ∀ i : Nat, i < es.length → (i : Int) ≤ 8 * (rdP es (i : Int)).1 + (rdP es (i : Int)).2 := by
    intro i
    induction i with
    | zero =>
      intro hi
      have := (hg.2 0 hi).1
      simp only at this
      omega
    | succ i ih =>
      intro hi
      have h1 := ih (by omega)
      obtain ⟨h2, h3⟩ := hg.2 (i + 1) hi
      have h4 := (hg.2 i (by show i < es.length; omega)).1
      have h5 := h3 (by omega)
      simp only [Nat.add_sub_cancel] at h2 h4 h5
      unfold edgeLt at h5
      rcases h5 with h | ⟨h, h'⟩ <;> omega
  by_cases h : es.length ≤ 64
  · exact h
  · have h1 := key 64 (by omega)
    have h2 := (hg.2 64 (by show 64 < es.length; omega)).1
    simp only at h2
    omega
end Go.Proofs.Ythkejedgfhjdiaa
