/- Statements on data alone. -/
import Derived.Test.YtgelipdkheahdaaGreatPvPure
import Derived.Test.YtgelipdkheahdaaGreatFixedNodesGc
set_option linter.all false
set_option linter.all false
namespace Go.Proofs.YtgelipdkheahdaaGreat
open Go Go.PV Classical
theorem moreC_pre {k : Nat} {es : List (Int × Int)} : ∀ (d : Nat) (b : List Int) (l : List (List Int)), ∃ t, moreC k es d b l = l ++ t := by
  intro d
  induction d with
  | zero => intro b l; exact ⟨[b], rfl⟩
  | succ d ih =>
    intro b l
    unfold moreC
    refine stepsC_inv (p := fun l' => ∃ t, l' = l ++ t) (fun c l' _ ⟨t, ht⟩ => ?_) k 0 l ⟨[], by simp⟩
    by_cases hf : freeC es b (c : Int)
    · rw [if_pos hf]
      obtain ⟨t2, h2⟩ := ih (b ++ [(c : Int)]) l'
      exact ⟨t ++ t2, by rw [h2, ht, List.append_assoc]⟩
    · rw [if_neg hf]; exact ⟨t, ht⟩
theorem stepsC_mem {f : Nat → List (List Int) → List (List Int)} (hf : ∀ c l, ∃ t, f c l = l ++ t) {x : List Int} {c0 : Nat} (hx : ∀ l, (f c0 l).length ≤ 300 → x ∈ f c0 l) : ∀ (r c : Nat) (l : List (List Int)), c ≤ c0 → c0 < c + r → (stepsC f r c l).length ≤ 300 → x ∈ stepsC f r c l := by
  have mono : ∀ (r c : Nat) (l : List (List Int)), ∃ t, stepsC f r c l = l ++ t := fun r c l =>
    stepsC_inv (p := fun l' => ∃ t, l' = l ++ t) (fun c l' _ ⟨t, ht⟩ => by
      obtain ⟨t2, h2⟩ := hf c l'
      exact ⟨t ++ t2, by rw [h2, ht, List.append_assoc]⟩) r c l ⟨[], by simp⟩
  intro r
  induction r with
  | zero => intro c l h1 h2; omega
  | succ r ih =>
    intro c l h1 h2 h3
    have hl : l.length ≤ 300 := by
      obtain ⟨t, ht⟩ := mono (r + 1) c l
      rw [ht] at h3
      simp at h3
      omega
    unfold stepsC at h3 ⊢
    rw [if_pos hl] at h3 ⊢
    by_cases hc : c = c0
    · subst hc
      obtain ⟨t, ht⟩ := mono r (c + 1) (f c l)
      rw [ht] at h3 ⊢
      rw [List.length_append] at h3
      exact List.mem_append_left _ (hx l (by omega))
    · exact ih (c + 1) (f c l) (by omega) (by omega) h3
theorem moreC_mem {k : Nat} {es : List (Int × Int)} {a : List Int} (ha : ∀ z ∈ a, 0 ≤ z ∧ z < (k : Int)) (hp : ∀ i : Nat, i < a.length → freeC es (a.take i) (rdI a (i : Int))) : ∀ (d i : Nat) (l : List (List Int)), i + d = a.length → (moreC k es d (a.take i) l).length ≤ 300 → a ∈ moreC k es d (a.take i) l := by
  intro d
  induction d with
  | zero =>
    intro i l hi _
    unfold moreC
    rw [List.take_of_length_le (by omega)]
    simp
  | succ d ih =>
    intro i l hi hl
    unfold moreC at hl ⊢
    have hil : i < a.length := by omega
    have hz := ha a[i] (List.getElem_mem hil)
    have hri : rdI a (i : Int) = a[i] := rdI_n hil
    obtain ⟨c0, hc0⟩ : ∃ c0 : Nat, a[i] = (c0 : Int) := ⟨a[i].toNat, by omega⟩
    have hfree := hp i hil
    rw [hri, hc0] at hfree
    refine stepsC_mem (c0 := c0) (fun c l => ?_) (fun l' hl' => ?_) k 0 l (Nat.zero_le _) (by omega) hl
    · by_cases hf : freeC es (a.take i) (c : Int)
      · simp only [if_pos hf]; exact moreC_pre ..
      · simp only [if_neg hf]; exact ⟨[], by simp⟩
    · simp only [if_pos hfree] at hl' ⊢
      have e : a.take i ++ [(c0 : Int)] = a.take (i + 1) := by rw [List.take_add_one, List.getElem?_eq_getElem hil, hc0]; rfl
      rw [e] at hl' ⊢
      exact ih (i + 1) l' (by omega) hl'
theorem mem_allC {g : Int × List (Int × Int)} {k : Int} {a : List Int} (hk : colCase g k) (hl : (allC g k).length ≤ 300) (h : proper g k a) : a ∈ allC g k := by
  obtain ⟨h1, h2, h3⟩ := h
  have hk2 := hk.2
  have hg := hk.1.1
  unfold allC at hl ⊢
  have := moreC_mem (k := k.toNat) (es := g.2) (a := a) (fun z hz => by have := h2 z hz; omega) (fun i hi y hy hc => by
    have hy' : y < i := by simp at hy; omega
    obtain ⟨e1, e2⟩ := hc
    rw [rdI_take hy' (by omega)] at e1
    have hlen : (a.take i).length = i := by simp; omega
    rw [hlen] at e2
    rcases e2 with e2 | e2
    · exact h3 _ e2 e1
    · exact h3 _ e2 e1.symm) g.1.toNat 0 [] (by omega) hl
  exact this
theorem isColoured_eq {N : Nat} {g : Int × List (Int × Int)} {k : Int} {ls : List (List Int)} (hx : g.2.length ≤ 1048576) (hls : ∀ l ∈ ls, l.length ≤ 1048576) (hl : ls.length ≤ 1000) (hN : 1048577 ≤ N) : impl_isColoured N g k ls = some ((decide (colCase g k ∧ ∀ l ∈ ls, proper g k l), ()), ()) := by
  unfold impl_isColoured
  simp only [isColourCase_eq hx hN, bind_some']
  by_cases h1 : colCase g k
  · rw [decide_eq_true h1, br_t, ContainsFunc_LLI_LI_eq (g := fun c => !decide (proper g k c)) (fun c h => by
      have := impl_isColouring_eq h1 hx (hls c h) hN
      simp only [impl_isColoured_c1, this, bind_some']) (by omega) (by omega)]
    simp only [bind_some']
    congr 3
    rw [not_any]
    refine decide_eq_decide.2 ⟨fun h => ⟨h1, fun l hl => ?_⟩, fun h l hl => ?_⟩
    · have := h l hl
      simpa using this
    · have := h.2 l hl
      simpa using this
  · rw [decide_eq_false h1, br_f, decide_eq_false (fun h => h1 h.1)]
theorem l5Given_eq {N : Nat} {g : Int × List (Int × Int)} {k : Int} {a : List Int} (hx : g.2.length ≤ 1048576) (ha : a.length ≤ 1048576) (hN : 1048577 ≤ N) : spec_l5Given N g k a = some ((decide (colCase g k ∧ proper g k a), ()), ()) := by
  unfold spec_l5Given
  simp only [l5Ask_eq hx hN, bind_some']
  by_cases h1 : colCase g k
  · rw [decide_eq_true h1, br_t, l5Proper_eq h1 hx ha hN, bind_some']
    congr 3
    exact decide_eq_decide.2 ⟨fun h => ⟨h1, h⟩, fun h => h.2⟩
  · rw [decide_eq_false h1, br_f, decide_eq_false (fun h => h1 h.1)]
theorem l5Space_ch {N : Nat} {g : Int × List (Int × Int)} {k : Int} (hx : g.2.length ≤ 1048576) (hN : 1048577 ≤ N) : spec_l5Space N g k false = some (((colSpV g k).1, (colSpV g k).2, ()), ()) := by
  unfold spec_l5Space colSpV
  simp only [show ((g.1, g.2) : Int × List (Int × Int)) = g from rfl]
  rw [l5All_eq hx hN, bind_some']
  unfold colsR
  by_cases h : colCase g k ∧ (allC g k).length ≤ 300
  · rw [if_pos h, if_pos h]
    have hr := allC_rows (g := g) (k := k)
    have hg := h.1.1.1
    simp only [Bool.not_true, br_f]
    rw [l5Space_loop (p := isCh) (fun a ha b hb => ?_) (by omega) hN]
    have e1 := hr a ha
    have e2 := hr b hb
    unfold spec_l5Step
    rw [l5Changed_ap (by omega) (by omega) hN, bind_some']
    rw [Bool.not_false, br_t]
    congr 3
    unfold isCh
    by_cases h1 : (apartL a b).length = 1
    · rw [decide_eq_true h1]; exact ieq_t (by simp only [tLen_n]; omega)
    · rw [decide_eq_false h1]; exact ieq_f (by simp only [tLen_n]; omega)
  · rw [if_neg h, if_neg h]
    rfl
theorem impl_ColSp {N : Nat} {g : Int × List (Int × Int)} {k : Int} (hx : g.2.length ≤ 1048576) (hN : 1048577 ≤ N) : impl_ColourSpace N g k = some (((colSpV g k).1, (colSpV g k).2, ()), ()) := by
  unfold impl_ColourSpace colSpV
  simp only [show ((g.1, g.2) : Int × List (Int × Int)) = g from rfl]
  rw [colourings_eq hx hN, bind_some']
  unfold colsR
  by_cases h : colCase g k ∧ (allC g k).length ≤ 300
  · rw [if_pos h, if_pos h]
    obtain ⟨s1, s2⟩ := allC_sorted g k
    have hr := allC_rows (g := g) (k := k)
    have hg := h.1.1.1
    have hst := colSteps_le h.1 h.2
    have hr8 : ∀ x ∈ allC g k, x.length ≤ 8 := fun x hx => by have := hr x hx; omega
    simp only [Bool.not_true, br_f]
    rw [spaceOf_eq (p := isCh) s1 (fun x hx => by have := hr8 x hx; omega) (by omega) (fun a ha b hb => ?_) hN, bind_some']
    · simp only []
      rw [orNone_eq (by simp only []; omega) (by simp only []; omega), bind_some']
    · have e1 := hr a ha
      have e2 := hr b hb
      show (impl_isChange N a b).bind _ = _
      rw [isChange_eq (by omega) (by omega) hN]
      rfl
  · rw [if_neg h, if_neg h]
    rfl
theorem lessN {a b : Nat} (ha : a < 256) (hb : b < 256) : ∃ c : Nat, bitop .andNot .u64 (a : Int) (b : Int) = (c : Int) ∧ c < 256 ∧ ∀ i, c.testBit i = (a.testBit i && !b.testBit i) := by
  have e1 := ofInt64 (n := a) (by omega)
  have e2 := ofInt64 (n := b) (by omega)
  have key : ∀ i, (BitVec.ofInt 64 (a : Int) &&& ~~~(BitVec.ofInt 64 (b : Int))).toNat.testBit i = (a.testBit i && !b.testBit i) := by
    intro i
    rw [BitVec.testBit_toNat, BitVec.getLsbD_and, BitVec.getLsbD_not, ← BitVec.testBit_toNat, ← BitVec.testBit_toNat, e1, e2]
    by_cases hi : i < 64
    · rw [decide_eq_true hi, Bool.true_and]
    · have : a.testBit i = false := Nat.testBit_lt_two_pow (Nat.lt_of_lt_of_le ha (Nat.pow_le_pow_right (n := 2) (i := 8) (by omega) (by omega)))
      rw [this]
      rfl
  have hlt : (BitVec.ofInt 64 (a : Int) &&& ~~~(BitVec.ofInt 64 (b : Int))).toNat < 2 ^ 8 := by
    refine Nat.lt_pow_two_of_testBit _ fun i hi => ?_
    have : a.testBit i = false := Nat.testBit_lt_two_pow (Nat.lt_of_lt_of_le ha (Nat.pow_le_pow_right (n := 2) (i := 8) (by omega) hi))
    rw [key i, this]
    rfl
  refine ⟨_, ?_, hlt, key⟩
  show IntKind.u64.wrap (((BitVec.ofInt 64 (a : Int) &&& ~~~(BitVec.ofInt 64 (b : Int))).toNat : Nat) : Int) = _
  exact wrap64 (by omega)
theorem iter_andB {p : Nat → Bool} : ∀ (d n : Nat) (f : Bool), iter (fun i (f : Bool) => f && p i) d n f = (f && decide (∀ i, n ≤ i → i < n + d → p i = true)) := by
  intro d
  induction d with
  | zero =>
    intro n f
    unfold iter
    rw [decide_eq_true (fun i h1 h2 => by omega), Bool.and_true]
  | succ d ih =>
    intro n f
    unfold iter
    rw [ih, Bool.and_assoc]
    congr 1
    cases h : p n with
    | true =>
      rw [Bool.true_and]
      refine decide_eq_decide.2 ⟨fun h' i h1 h2 => ?_, fun h' i h1 h2 => h' i (by omega) (by omega)⟩
      by_cases hi : i = n
      · subst hi; exact h
      · exact h' i (by omega) (by omega)
    | false =>
      have : ¬ ∀ i, n ≤ i → i < n + (d + 1) → p i = true := fun h' => by have := h' n (Nat.le_refl n) (by omega); rw [h] at this; cases this
      rw [decide_eq_false this]
      rfl
noncomputable def fixL (m : Nat) (xs : List (List Int)) (F c : List Int) : List Int := ((List.range' 0 m).filter fun v : Nat => decide (∀ i : Nat, i < xs.length → rdI F (i : Int) < 0 ∨ rdI (rdL xs (i : Int)) (v : Int) = rdI c (v : Int))).map fun v : Nat => (v : Int)
theorem fixL_len (m : Nat) (xs : List (List Int)) (F c : List Int) : (fixL m xs F c).length ≤ m := by
  unfold fixL
  rw [List.length_map]
  exact Nat.le_trans (List.length_filter_le ..) (by simp)
theorem mem_apartL {a b : List Int} {c : Nat} : (c : Int) ∈ apartL a b ↔ c < a.length ∧ rdI a (c : Int) ≠ rdI b (c : Int) := by
  unfold apartL
  rw [List.mem_map]
  constructor
  · rintro ⟨i, hi, e⟩
    have : i = c := by omega
    subst this
    obtain ⟨h1, h2⟩ := List.mem_filter.1 hi
    exact ⟨by have := List.mem_range'_1.1 h1; omega, of_decide_eq_true h2⟩
  · rintro ⟨h1, h2⟩
    exact ⟨c, List.mem_filter.2 ⟨List.mem_range'_1.2 (by omega), decide_eq_true h2⟩, rfl⟩
theorem spec_fix_eq {N m : Nat} {es : List (Int × Int)} {xs : List (List Int)} {st : List (Int × Int)} {F c : List Int} (hm : m ≤ 8) (hF : F.length = xs.length) (hx : xs.length ≤ 1048576) (hr : ∀ x ∈ xs, x.length = m) (hc : c.length = m) (hN : 1048577 ≤ N) :
    spec_FixedNodes_l0 N (fun o => some ((o, true, ()), ())) N c 0 (m : Int) es [] F xs st = some ((fixL m xs F c, true, ()), ()) := by
  have inner : ∀ (v : Nat) (o : List Int) (kk : List Int → Int → Bool → Int → List (Int × Int) → List Int → List Int → List (List Int) → List (Int × Int) → Option ((List Int × Bool × Unit) × Unit)), v < m →
      spec_FixedNodes_l0_0 N kk N c (v : Int) true 0 (m : Int) es o F xs st = kk c (v : Int) (decide (∀ i : Nat, i < xs.length → rdI F (i : Int) < 0 ∨ rdI (rdL xs (i : Int)) (v : Int) = rdI c (v : Int))) (m : Int) es o F xs st := by
    intro v o kk hv
    have := loop_iter (L := fun K n f => spec_FixedNodes_l0_0 N kk K c (v : Int) f (n : Int) (m : Int) es o F xs st) (k := fun f => kk c (v : Int) f (m : Int) es o F xs st) (Inv := fun _ _ => True) (step := fun i f => f && decide (rdI F (i : Int) < 0 ∨ rdI (rdL xs (i : Int)) (v : Int) = rdI c (v : Int))) (m := F.length) (fun K n f hn _ => ?_) (fun K n f hn _ => ?_) (fun _ _ _ _ => trivial) (K := N) (s := true) (by omega) trivial
    · simp only [Int.natCast_zero] at this
      rw [this, iter_andB (p := fun i : Nat => decide (rdI F (i : Int) < 0 ∨ rdI (rdL xs (i : Int)) (v : Int) = rdI c (v : Int))), Bool.true_and]
      congr 1
      refine decide_eq_decide.2 ⟨fun h i hi => of_decide_eq_true (h i (Nat.zero_le _) (by omega)), fun h i _ hi => decide_eq_true (h i (by omega))⟩
    · simp only [spec_FixedNodes_l0_0, ilt_lenf hn, br_f]
    · have hnx : n < xs.length := by omega
      have hrow : (rdL xs (n : Int)).length = m := by rw [rdL_n hnx]; exact hr _ (List.getElem_mem hnx)
      simp only [spec_FixedNodes_l0_0, ilt_len hn, br_t, inb_n hn, chk_t]
      rw [wrap_succ (by omega)]
      cases f with
      | false => rw [br_f, Bool.false_and]
      | true =>
        rw [br_t, Bool.true_and]
        by_cases h1 : rdI F (n : Int) < 0
        · rw [ilt_t h1, br_t, decide_eq_true (.inl h1)]
        · rw [ilt_f h1, br_f, inb_n hnx, chk_t, inb_n (by omega), chk_t, inb_n (by omega), chk_t]
          by_cases h2 : rdI (rdL xs (n : Int)) (v : Int) = rdI c (v : Int)
          · rw [ieq_t h2, decide_eq_true (.inr h2)]
          · rw [ieq_f h2, decide_eq_false (fun h => h.elim h1 h2)]
  have := loop_iter (L := fun K n o => spec_FixedNodes_l0 N (fun o => some ((o, true, ()), ())) K c (n : Int) (m : Int) es o F xs st) (k := fun o => some ((o, true, ()), ())) (Inv := fun n o => o.length ≤ n) (step := fun v o => if ∀ i : Nat, i < xs.length → rdI F (i : Int) < 0 ∨ rdI (rdL xs (i : Int)) (v : Int) = rdI c (v : Int) then o ++ [(v : Int)] else o) (m := m) (fun K n o hn _ => ?_) (fun K n o hn ho => ?_) (fun n o hn ho => ?_) (K := N) (s := []) (by omega) (Nat.zero_le _)
  · simp only [Int.natCast_zero] at this
    rw [this, iter_app, List.nil_append]
    rfl
  · simp only [spec_FixedNodes_l0, ilt_nf hn, br_f]
  · simp only [spec_FixedNodes_l0, ilt_n hn, br_t]
    rw [inner n o _ hn, room_ok (by simp; omega), chk_t, wrap_succ (by omega), tApp_d]
    by_cases h : ∀ i : Nat, i < xs.length → rdI F (i : Int) < 0 ∨ rdI (rdL xs (i : Int)) (n : Int) = rdI c (n : Int)
    · rw [decide_eq_true h, br_t, if_pos h]
    · rw [decide_eq_false h, br_f, if_neg h]
  · by_cases h : ∀ i : Nat, i < xs.length → rdI F (i : Int) < 0 ∨ rdI (rdL xs (i : Int)) (n : Int) = rdI c (n : Int)
    · rw [if_pos h]; simp; omega
    · rw [if_neg h]; omega
theorem impl_fix_eq {R : Type} {N m : Nat} {es : List (Int × Int)} {xs : List (List Int)} {st : List (Int × Int)} {F c : List Int} {k0 : Int → Int → List (Int × Int) → Option R} (hm : m ≤ 8) (hF : F.length = xs.length) (hx : xs.length ≤ 1048576) (hr : ∀ x ∈ xs, x.length = m) (hc : c.length = m) (hN : 1048577 ≤ N) :
    ∃ a : Nat, a < 256 ∧ (∀ v : Nat, a.testBit v = true ↔ v < m ∧ ∃ i : Nat, i < xs.length ∧ 0 ≤ rdI F (i : Int) ∧ rdI c (v : Int) ≠ rdI (rdL xs (i : Int)) (v : Int)) ∧ impl_FixedNodes_l0 N k0 N c 0 (tLen F) 0 (m : Int) es F xs st = k0 (a : Int) (m : Int) es := by
  have go : ∀ (d n K : Nat) (a : Nat), n + d = xs.length → d < K → a < 256 → (∀ v : Nat, a.testBit v = true ↔ v < m ∧ ∃ i : Nat, i < n ∧ 0 ≤ rdI F (i : Int) ∧ rdI c (v : Int) ≠ rdI (rdL xs (i : Int)) (v : Int)) →
      ∃ b : Nat, b < 256 ∧ (∀ v : Nat, b.testBit v = true ↔ v < m ∧ ∃ i : Nat, i < xs.length ∧ 0 ≤ rdI F (i : Int) ∧ rdI c (v : Int) ≠ rdI (rdL xs (i : Int)) (v : Int)) ∧ impl_FixedNodes_l0 N k0 K c ((a : Nat) : Int) (tLen F) (n : Int) (m : Int) es F xs st = k0 (b : Int) (m : Int) es := by
    intro d
    induction d with
    | zero =>
      intro n K a hd hK ha hb
      obtain ⟨k, rfl⟩ := succ_of hK
      have e : n = xs.length := by omega
      subst e
      refine ⟨a, ha, hb, ?_⟩
      simp only [impl_FixedNodes_l0, ilt_lenf (show ¬ xs.length < F.length by omega), br_f]
    | succ d ih =>
      intro n K a hd hK ha hb
      obtain ⟨k, rfl⟩ := succ_of hK
      have hn : n < xs.length := by omega
      have hrow : (rdL xs (n : Int)).length = m := by rw [rdL_n hn]; exact hr _ (List.getElem_mem hn)
      simp only [impl_FixedNodes_l0, ilt_len (show n < F.length by omega), br_t, inb_n (show n < F.length by omega), chk_t]
      rw [wrap_succ (by omega)]
      by_cases h0 : 0 ≤ rdI F (n : Int)
      · obtain ⟨q, q1, q2, q3⟩ := bagOf_eq (N := N) (xs := apartL c (rdL xs (n : Int))) (fun y hy => by have := (apart_mem hy).1; rw [hc] at this; have h1 := this.1; have h2 := this.2; omega) (by unfold apartL; rw [List.length_map]; exact Nat.le_trans (List.length_filter_le ..) (by simp; omega)) hN
        rw [ile_t h0, br_t, inb_n hn, chk_t, places_ap (by omega) (by omega) hN, bind_some']
        simp only []
        rw [q1, bind_some']
        simp only []
        rw [orN (by omega) (by omega)]
        refine ih (n + 1) k (a ||| q) (by omega) (by omega) (Nat.or_lt_two_pow (n := 8) ha q2) fun v => ?_
        rw [Nat.testBit_or, Bool.or_eq_true, hb v, q3 v, mem_apartL, hc]
        constructor
        · rintro (⟨h1, i, h2, h3⟩ | ⟨h1, h2⟩)
          · exact ⟨h1, i, by omega, h3⟩
          · exact ⟨h1, n, by omega, h0, h2⟩
        · rintro ⟨h1, i, h2, h3, h4⟩
          by_cases hi : i = n
          · subst hi; exact .inr ⟨h1, h4⟩
          · exact .inl ⟨h1, i, by omega, h3, h4⟩
      · rw [ile_f h0, br_f]
        refine ih (n + 1) k a (by omega) (by omega) ha fun v => ?_
        rw [hb v]
        constructor
        · rintro ⟨h1, i, h2, h3⟩
          exact ⟨h1, i, by omega, h3⟩
        · rintro ⟨h1, i, h2, h3, h4⟩
          by_cases hi : i = n
          · subst hi; exact absurd h3 h0
          · exact ⟨h1, i, by omega, h3, h4⟩
  have := go xs.length 0 N 0 (by omega) (by omega) (by omega) fun v => by simp
  exact this
noncomputable def fixV (g : Int × List (Int × Int)) (k : Int) (c : List Int) : List Int × Bool :=
  if (colCase g k ∧ proper g k c) ∧ (allC g k).length ≤ 300 then (fixL g.1.toNat (allC g k) (bfsD (nbL (allC g k).length (stepsL isCh (allC g k))) (allC g k).length (((allC g k).idxOf c : Nat) : Int)) c, true) else ([], false)
theorem fixV_len (g : Int × List (Int × Int)) (k : Int) (c : List Int) : (fixV g k c).1.length ≤ 8 := by
  unfold fixV
  split
  · rename_i h
    have hg := h.1.1.1.1
    exact Nat.le_trans (fixL_len ..) (by omega)
  · simp
theorem Fixed_both {N : Nat} {g : Int × List (Int × Int)} {k : Int} {c : List Int} (hx : g.2.length ≤ 1048576) (hcl : c.length ≤ 1048576) (hN : 1048577 ≤ N) :
    spec_FixedNodes N g k c = some (((fixV g k c).1, (fixV g k c).2, ()), ()) ∧ impl_FixedNodes N g k c = some (((fixV g k c).1, (fixV g k c).2, ()), ()) := by
  unfold spec_FixedNodes impl_FixedNodes fixV
  simp only [show ((g.1, g.2) : Int × List (Int × Int)) = g from rfl]
  rw [l5Given_eq hx hcl hN, bind_some', l5Space_ch hx hN, impl_ColSp hx hN, bind_some', bind_some', isColoured_eq hx (fun l hl => by simp at hl; rw [hl]; exact hcl) (by simp) hN]
  unfold colSpV
  by_cases h1 : colCase g k ∧ proper g k c
  · rw [decide_eq_true h1]
    simp only [Bool.not_true, br_f]
    by_cases h2 : (allC g k).length ≤ 300
    · rw [if_pos ⟨h1.1, h2⟩, if_pos ⟨h1, h2⟩, decide_eq_true (show colCase g k ∧ ∀ l ∈ [c], proper g k l from ⟨h1.1, fun l hl => by simp at hl; rw [hl]; exact h1.2⟩)]
      simp only [Bool.not_true, br_f, bind_some']
      have hg := h1.1.1.1
      have hst := colSteps_le h1.1 h2
      have hin := mem_allC h1.1 h2 h1.2
      have hi := idx_lt hin
      have hr := allC_rows (g := g) (k := k)
      have hr20 : ∀ x ∈ allC g k, x.length ≤ 1048576 := fun x hx => by have := hr x hx; omega
      have hok := stepsL_ok (p := isCh) (xs := allC g k)
      have hl := nbL_ok (n := (allC g k).length) (by omega) hok
      have hF := (bfsD_spec hl (in_nat hi)).1
      have hcm : c.length = g.1.toNat := by have := h1.2.1; omega
      have eg1 : ((g.1.toNat : Nat) : Int) = g.1 := by omega
      constructor
      · rw [index_in (by omega) hr20 hin hN, bind_some']
        unfold spec_l2Dist
        simp only []
        rw [l2Lists_eq (by omega) (by omega) hok hN, bind_some']
        simp only []
        rw [l2Spread_bfs hl (by omega) (in_nat hi) hN, bind_some', bind_some']
        have := spec_fix_eq (N := N) (m := g.1.toNat) (es := g.2) (st := stepsL isCh (allC g k)) (c := c) (by omega) hF (by omega) hr hcm hN
        rw [eg1] at this
        exact this
      · rw [place_in (allC_sorted g k).1 (by omega) hr20 hin hN, bind_some', sroads_eq (by omega) (by omega) hok hN, bind_some']
        simp only []
        rw [spread_eq hl (by omega) (in_nat hi) hN, bind_some']
        simp only []
        obtain ⟨a, a1, a2, a3⟩ := impl_fix_eq (R := (List Int × Bool × Unit) × Unit) (N := N) (m := g.1.toNat) (es := g.2) (st := stepsL isCh (allC g k)) (c := c) (k0 := fun x o o1 => ((impl_Graph_all N (o, o1)).bind fun r5 => ((impl_bag_list N (bitop .andNot .u64 r5.1.1 x)).bind fun r6 => some ((r6.1.1, true, ()), ())))) (by omega) hF (by omega) hr hcm hN
        rw [eg1] at a3
        rw [a3]
        have hal := all8 g.1.toNat (by omega)
        rw [eg1] at hal
        unfold impl_Graph_all
        simp only []
        rw [ile_t hg.1, chk_t, hal, bind_some']
        have hp : 2 ^ g.1.toNat ≤ 2 ^ 8 := Nat.pow_le_pow_right (by omega) (by omega)
        obtain ⟨b, b1, b2, b3⟩ := lessN (a := 2 ^ g.1.toNat - 1) (b := a) (by omega) a1
        simp only []
        rw [b1, bagList_eq b2 hN, bind_some']
        congr 3
        unfold fixL
        have e8 : List.range' 0 8 = List.range' 0 g.1.toNat ++ List.range' g.1.toNat (8 - g.1.toNat) := by
          have := List.range'_append_1 (s := 0) (m := g.1.toNat) (n := 8 - g.1.toNat)
          rw [show 0 + g.1.toNat = g.1.toNat by omega, show g.1.toNat + (8 - g.1.toNat) = 8 by omega] at this
          exact this.symm
        rw [e8, List.filter_append, List.map_append]
        have e2 : (List.range' g.1.toNat (8 - g.1.toNat)).filter (fun c => decide (b.testBit c = true)) = [] := by
          refine List.filter_eq_nil_iff.2 fun v hv => ?_
          have := List.mem_range'_1.1 hv
          rw [b3 v, Nat.testBit_two_pow_sub_one, decide_eq_false (show ¬ v < g.1.toNat by omega)]
          simp
        rw [e2, List.map_nil, List.append_nil]
        refine congrArg (List.map fun v : Nat => (v : Int)) (List.filter_congr fun v hv => ?_)
        have hv := List.mem_range'_1.1 hv
        rw [b3 v, Nat.testBit_two_pow_sub_one, decide_eq_true (show v < g.1.toNat by omega), Bool.true_and]
        refine decide_eq_decide.2 ⟨fun h i hi' => ?_, fun h => ?_⟩
        · have h' : ¬ a.testBit v = true := by simpa using h
          by_cases h0 : rdI (bfsD (nbL (allC g k).length (stepsL isCh (allC g k))) (allC g k).length (((allC g k).idxOf c : Nat) : Int)) (i : Int) < 0
          · exact .inl h0
          · by_cases he : rdI (rdL (allC g k) (i : Int)) (v : Int) = rdI c (v : Int)
            · exact .inr he
            · exact absurd ((a2 v).2 ⟨by omega, i, hi', by omega, fun e => he e.symm⟩) h'
        · cases hb : a.testBit v with
          | false => rfl
          | true =>
            obtain ⟨_, i, h2, h3, h4⟩ := (a2 v).1 hb
            rcases h i h2 with h5 | h5
            · omega
            · exact absurd h5.symm h4
    · rw [if_neg (fun h => h2 h.2), if_neg (fun h => h2 h.2)]
      exact ⟨rfl, rfl⟩
  · rw [decide_eq_false h1, if_neg (show ¬ ((colCase g k ∧ proper g k c) ∧ (allC g k).length ≤ 300) from fun h => h1 h.1)]
    refine ⟨rfl, ?_⟩
    by_cases h2 : colCase g k ∧ (allC g k).length ≤ 300
    · rw [if_pos h2, decide_eq_false (show ¬ (colCase g k ∧ ∀ l ∈ [c], proper g k l) from fun h => h1 ⟨h.1, h.2 c (by simp)⟩)]
      rfl
    · rw [if_neg h2]
      rfl
theorem FixedNodes_pure {g : Int × List (Int × Int)} {k : Int} {a : List Int} (hx : g.2.length ≤ 9223372036854775807) : laws_FnExactFixedNodes 1048577 g k a = some ((true, ()), ()) := by
  unfold laws_FnExactFixedNodes
  have hN : 1048577 ≤ 1048577 := Nat.le_refl _
  rw [tLen_n]
  by_cases ha : a.length ≤ 1048576
  · rw [ilt_f (by omega), br_f]
    obtain ⟨r, h1, h2⟩ := szGraph_eq (N := 1048577) hx
    simp only [h1, bind_some']
    by_cases h : 0 ≤ r
    · rw [ilt_f (by omega), br_f]
      have h3 := h2 h
      obtain ⟨e1, e2⟩ := Fixed_both (N := 1048577) (k := k) h3 ha hN
      have c1 := fixV_len g k a
      generalize fixV g k a = cw at e1 e2 c1
      have k0 : (0 : Int) ≤ 1 ∧ (1 : Int) ≤ 1152921504606846976 := by omega
      have k3 : (0 : Int) ≤ 1 ∧ (1 : Int) ≤ 2305843009213693952 := by omega
      obtain ⟨g', hmk⟩ := markGraph_eq (N := 1048577) k0 h3 hN
      have k1 : (0 : Int) ≤ 1 + 2 * (g.2.length : Int) ∧ 1 + 2 * (g.2.length : Int) ≤ 2305843009213693952 := by omega
      simp only [toGraph_eq h3 hN, toIntS_eq ha hN, bind_some', e1, e2, eqGraph_eq h3 hN, eqIntS_eq (show a.length ≤ 1099511627776 by omega) (show a.length < 1048577 by omega), eqIntS_eq (show cw.1.length ≤ 1099511627776 by omega) (show cw.1.length < 1048577 by omega), decide_true, Bool.not_true, br_f, hmk,
        markIntS_eq k1 ha hN, ilt_f (show ¬ 1 + 2 * (g.2.length : Int) + (a.length : Int) < 0 by omega),
        markIntS_eq k3 (show cw.1.length ≤ 1048576 by omega) hN, heldIntS_eq k3 (show cw.1.length ≤ 1048576 by omega) hN, ilt_f (show ¬ 1 + (cw.1.length : Int) < 0 by omega), ine_f (rfl : 1 + (cw.1.length : Int) = 1 + (cw.1.length : Int))]
      simp [br_ite]
    · rw [ilt_t (by omega), br_t]
  · rw [ilt_t (by omega), br_t]
theorem FixedNodes_pureT : ∀ x : argsT (psOf [QILQII, I, LI]), WfA [QILQII, I, LI] x → ∃ k m, (laws_FnExactFixedNodes_S k).f x = some ((true, ()), m) :=
  fun x h => ⟨1048577, (), FixedNodes_pure (len_ok h.1.2.1)⟩
end Go.Proofs.YtgelipdkheahdaaGreat
