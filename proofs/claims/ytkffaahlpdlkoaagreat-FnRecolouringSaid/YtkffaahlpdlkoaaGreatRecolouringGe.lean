/- Statements on data alone. -/
import Derived.Test.YtkffaahlpdlkoaaGreatPvPure
import Derived.Test.YtkffaahlpdlkoaaGreatRecolouringGd
set_option linter.all false
set_option linter.all false
namespace Go.Proofs.YtkffaahlpdlkoaaGreat
open Go Go.PV Classical
theorem moreC_pre {k : Nat} {es : List (Int × Int)} : ∀ (d : Nat) (b : List Int) (l : List (List Int)), ∃ t, moreC k es d b l = l ++ t := by
  intro d
  induction d with
  | zero => intro b l; exact ⟨[b], rfl⟩
  | succ d ih =>
    intro b l
    unfold moreC
    refine stepsC_inv (p := fun l' => ∃ t, l' = l ++ t) (fun c l' _ ⟨t, ht⟩ => ?_) k 0 l ⟨[], by simp⟩
    by_cases hf : freeC es b (c : Int)
    · rw [if_pos hf]
      obtain ⟨t2, h2⟩ := ih (b ++ [(c : Int)]) l'
      exact ⟨t ++ t2, by rw [h2, ht, List.append_assoc]⟩
    · rw [if_neg hf]; exact ⟨t, ht⟩
theorem stepsC_mem {f : Nat → List (List Int) → List (List Int)} (hf : ∀ c l, ∃ t, f c l = l ++ t) {x : List Int} {c0 : Nat} (hx : ∀ l, (f c0 l).length ≤ 300 → x ∈ f c0 l) : ∀ (r c : Nat) (l : List (List Int)), c ≤ c0 → c0 < c + r → (stepsC f r c l).length ≤ 300 → x ∈ stepsC f r c l := by
  have mono : ∀ (r c : Nat) (l : List (List Int)), ∃ t, stepsC f r c l = l ++ t := fun r c l =>
    stepsC_inv (p := fun l' => ∃ t, l' = l ++ t) (fun c l' _ ⟨t, ht⟩ => by
      obtain ⟨t2, h2⟩ := hf c l'
      exact ⟨t ++ t2, by rw [h2, ht, List.append_assoc]⟩) r c l ⟨[], by simp⟩
  intro r
  induction r with
  | zero => intro c l h1 h2; omega
  | succ r ih =>
    intro c l h1 h2 h3
    have hl : l.length ≤ 300 := by
      obtain ⟨t, ht⟩ := mono (r + 1) c l
      rw [ht] at h3
      simp at h3
      omega
    unfold stepsC at h3 ⊢
    rw [if_pos hl] at h3 ⊢
    by_cases hc : c = c0
    · subst hc
      obtain ⟨t, ht⟩ := mono r (c + 1) (f c l)
      rw [ht] at h3 ⊢
      rw [List.length_append] at h3
      exact List.mem_append_left _ (hx l (by omega))
    · exact ih (c + 1) (f c l) (by omega) (by omega) h3
theorem moreC_mem {k : Nat} {es : List (Int × Int)} {a : List Int} (ha : ∀ z ∈ a, 0 ≤ z ∧ z < (k : Int)) (hp : ∀ i : Nat, i < a.length → freeC es (a.take i) (rdI a (i : Int))) : ∀ (d i : Nat) (l : List (List Int)), i + d = a.length → (moreC k es d (a.take i) l).length ≤ 300 → a ∈ moreC k es d (a.take i) l := by
  intro d
  induction d with
  | zero =>
    intro i l hi _
    unfold moreC
    rw [List.take_of_length_le (by omega)]
    simp
  | succ d ih =>
    intro i l hi hl
    unfold moreC at hl ⊢
    have hil : i < a.length := by omega
    have hz := ha a[i] (List.getElem_mem hil)
    have hri : rdI a (i : Int) = a[i] := rdI_n hil
    obtain ⟨c0, hc0⟩ : ∃ c0 : Nat, a[i] = (c0 : Int) := ⟨a[i].toNat, by omega⟩
    have hfree := hp i hil
    rw [hri, hc0] at hfree
    refine stepsC_mem (c0 := c0) (fun c l => ?_) (fun l' hl' => ?_) k 0 l (Nat.zero_le _) (by omega) hl
    · by_cases hf : freeC es (a.take i) (c : Int)
      · simp only [if_pos hf]; exact moreC_pre ..
      · simp only [if_neg hf]; exact ⟨[], by simp⟩
    · simp only [if_pos hfree] at hl' ⊢
      have e : a.take i ++ [(c0 : Int)] = a.take (i + 1) := by rw [List.take_add_one, List.getElem?_eq_getElem hil, hc0]; rfl
      rw [e] at hl' ⊢
      exact ih (i + 1) l' (by omega) hl'
theorem mem_allC {g : Int × List (Int × Int)} {k : Int} {a : List Int} (hk : colCase g k) (hl : (allC g k).length ≤ 300) (h : proper g k a) : a ∈ allC g k := by
  obtain ⟨h1, h2, h3⟩ := h
  have hk2 := hk.2
  have hg := hk.1.1
  unfold allC at hl ⊢
  have := moreC_mem (k := k.toNat) (es := g.2) (a := a) (fun z hz => by have := h2 z hz; omega) (fun i hi y hy hc => by
    have hy' : y < i := by simp at hy; omega
    obtain ⟨e1, e2⟩ := hc
    rw [rdI_take hy' (by omega)] at e1
    have hlen : (a.take i).length = i := by simp; omega
    rw [hlen] at e2
    rcases e2 with e2 | e2
    · exact h3 _ e2 e1
    · exact h3 _ e2 e1.symm) g.1.toNat 0 [] (by omega) hl
  exact this
theorem isColoured_eq {N : Nat} {g : Int × List (Int × Int)} {k : Int} {ls : List (List Int)} (hx : g.2.length ≤ 1048576) (hls : ∀ l ∈ ls, l.length ≤ 1048576) (hl : ls.length ≤ 1000) (hN : 1048577 ≤ N) : Zq36 N g k ls = some ((decide (colCase g k ∧ ∀ l ∈ ls, proper g k l), ()), ()) := by
  unfold Zq36
  simp only [isColourCase_eq hx hN, bind_some']
  by_cases h1 : colCase g k
  · rw [decide_eq_true h1, br_t, ContainsFunc_LLI_LI_eq (g := fun c => !decide (proper g k c)) (fun c h => by
      have := impl_isColouring_eq h1 hx (hls c h) hN
      simp only [Zq37, this, bind_some']) (by omega) (by omega)]
    simp only [bind_some']
    congr 3
    rw [not_any]
    refine decide_eq_decide.2 ⟨fun h => ⟨h1, fun l hl => ?_⟩, fun h l hl => ?_⟩
    · have := h l hl
      simpa using this
    · have := h.2 l hl
      simpa using this
  · rw [decide_eq_false h1, br_f, decide_eq_false (fun h => h1 h.1)]
theorem l5Given_eq {N : Nat} {g : Int × List (Int × Int)} {k : Int} {a : List Int} (hx : g.2.length ≤ 1048576) (ha : a.length ≤ 1048576) (hN : 1048577 ≤ N) : Zq115 N g k a = some ((decide (colCase g k ∧ proper g k a), ()), ()) := by
  unfold Zq115
  simp only [l5Ask_eq hx hN, bind_some']
  by_cases h1 : colCase g k
  · rw [decide_eq_true h1, br_t, l5Proper_eq h1 hx ha hN, bind_some']
    congr 3
    exact decide_eq_decide.2 ⟨fun h => ⟨h1, h⟩, fun h => h.2⟩
  · rw [decide_eq_false h1, br_f, decide_eq_false (fun h => h1 h.1)]
theorem l5Space_ch {N : Nat} {g : Int × List (Int × Int)} {k : Int} (hx : g.2.length ≤ 1048576) (hN : 1048577 ≤ N) : Zq119 N g k false = some (((colSpV g k).1, (colSpV g k).2, ()), ()) := by
  unfold Zq119 colSpV
  simp only [show ((g.1, g.2) : Int × List (Int × Int)) = g from rfl]
  rw [l5All_eq hx hN, bind_some']
  unfold colsR
  by_cases h : colCase g k ∧ (allC g k).length ≤ 300
  · rw [if_pos h, if_pos h]
    have hr := allC_rows (g := g) (k := k)
    have hg := h.1.1.1
    simp only [Bool.not_true, br_f]
    rw [l5Space_loop (p := isCh) (fun a ha b hb => ?_) (by omega) hN]
    have e1 := hr a ha
    have e2 := hr b hb
    unfold Zq120
    rw [l5Changed_ap (by omega) (by omega) hN, bind_some']
    rw [Bool.not_false, br_t]
    congr 3
    unfold isCh
    by_cases h1 : (apartL a b).length = 1
    · rw [decide_eq_true h1]; exact ieq_t (by simp only [tLen_n]; omega)
    · rw [decide_eq_false h1]; exact ieq_f (by simp only [tLen_n]; omega)
  · rw [if_neg h, if_neg h]
    rfl
theorem impl_ColSp {N : Nat} {g : Int × List (Int × Int)} {k : Int} (hx : g.2.length ≤ 1048576) (hN : 1048577 ≤ N) : Zq3 N g k = some (((colSpV g k).1, (colSpV g k).2, ()), ()) := by
  unfold Zq3 colSpV
  simp only [show ((g.1, g.2) : Int × List (Int × Int)) = g from rfl]
  rw [colourings_eq hx hN, bind_some']
  unfold colsR
  by_cases h : colCase g k ∧ (allC g k).length ≤ 300
  · rw [if_pos h, if_pos h]
    obtain ⟨s1, s2⟩ := allC_sorted g k
    have hr := allC_rows (g := g) (k := k)
    have hg := h.1.1.1
    have hst := colSteps_le h.1 h.2
    have hr8 : ∀ x ∈ allC g k, x.length ≤ 8 := fun x hx => by have := hr x hx; omega
    simp only [Bool.not_true, br_f]
    rw [spaceOf_eq (p := isCh) s1 (fun x hx => by have := hr8 x hx; omega) (by omega) (fun a ha b hb => ?_) hN, bind_some']
    · simp only []
      rw [orNone_eq (by simp only []; omega) (by simp only []; omega), bind_some']
    · have e1 := hr a ha
      have e2 := hr b hb
      show (Zq34 N a b).bind _ = _
      rw [isChange_eq (by omega) (by omega) hN]
      rfl
  · rw [if_neg h, if_neg h]
    rfl
theorem l5Space_kem {N : Nat} {g : Int × List (Int × Int)} {k : Int} (hx : g.2.length ≤ 1048576) (hN : 1048577 ≤ N) : Zq119 N g k true = some (((kemSpV g k).1, (kemSpV g k).2, ()), ()) := by
  unfold Zq119 kemSpV
  simp only [show ((g.1, g.2) : Int × List (Int × Int)) = g from rfl]
  rw [l5All_eq hx hN, bind_some']
  unfold colsR
  by_cases h : colCase g k ∧ (allC g k).length ≤ 300
  · rw [if_pos h, if_pos h]
    obtain ⟨s1, s2⟩ := allC_sorted g k
    have hr := allC_rows (g := g) (k := k)
    have hg := h.1.1.1
    have hk := h.1.2
    have hc4 : ∀ x ∈ allC g k, ∀ z ∈ x, 0 ≤ z ∧ z ≤ 4 := fun x hx z hz => by have := s2 x hx z hz; omega
    have eg1 : ((g.1.toNat : Nat) : Int) = g.1 := by omega
    simp only [Bool.not_true, br_f]
    rw [l5Space_loop (p := kemP g.1.toNat g.2) (fun a ha b hb => ?_) (by omega) hN]
    have := l5Step_kem (N := N) (m := g.1.toNat) (es := g.2) (by omega) hx (hr a ha) (hr b hb) (hc4 a ha) (hc4 b hb) hN
    rwa [eg1] at this
  · rw [if_neg h, if_neg h]
    rfl
theorem impl_KemSp {N : Nat} {g : Int × List (Int × Int)} {k : Int} (hx : g.2.length ≤ 1048576) (hN : 1048577 ≤ N) : Zq19 N g k = some (((kemSpV g k).1, (kemSpV g k).2, ()), ()) := by
  unfold Zq19 kemSpV
  simp only [show ((g.1, g.2) : Int × List (Int × Int)) = g from rfl]
  rw [colourings_eq hx hN, bind_some']
  unfold colsR
  by_cases h : colCase g k ∧ (allC g k).length ≤ 300
  · rw [if_pos h, if_pos h]
    obtain ⟨s1, s2⟩ := allC_sorted g k
    have hr := allC_rows (g := g) (k := k)
    have hgg := h.1.1
    have hg := h.1.1.1
    have hst := kemSteps_le h.1 h.2
    have hr8 : ∀ x ∈ allC g k, x.length ≤ 8 := fun x hx => by have := hr x hx; omega
    have eg : (((g.1.toNat : Nat) : Int), g.2) = g := by rw [show ((g.1.toNat : Nat) : Int) = g.1 by omega]
    simp only [Bool.not_true, br_f]
    rw [spaceOf_ne (p := kemP g.1.toNat g.2) s1 (fun x hx => by have := hr8 x hx; omega) (by omega) (fun a ha b hb hne => ?_) hN, bind_some']
    · simp only []
      rw [orNone_eq (by simp only []; omega) (by simp only []; omega), bind_some']
    · have := impl_kem (N := N) (m := g.1.toNat) (es := g.2) (by omega) (by rw [eg]; exact hgg) hx (hr a ha) (hr b hb) hne hN
      rwa [eg] at this
  · rw [if_neg h, if_neg h]
    rfl
noncomputable def cwalkV (p : List Int → List Int → Bool) (g : Int × List (Int × Int)) (k : Int) (a b : List Int) : List (List Int) × Bool :=
  if (colCase g k ∧ proper g k a ∧ proper g k b) ∧ (allC g k).length ≤ 300 then (wayS (allC g k) (stepsL p (allC g k)) a b, decide (wayS (allC g k) (stepsL p (allC g k)) a b ≠ [])) else ([], false)
theorem cwalkV_ok (p : List Int → List Int → Bool) (g : Int × List (Int × Int)) (k : Int) (a b : List Int) : (cwalkV p g k a b).1.length ≤ 300 ∧ ∀ x ∈ (cwalkV p g k a b).1, x.length ≤ 8 := by
  unfold cwalkV
  split
  · rename_i h
    obtain ⟨⟨h1, h2, h3⟩, h4⟩ := h
    have ha := mem_allC h1 h4 h2
    have hb := mem_allC h1 h4 h3
    have hg := h1.1.1
    refine ⟨Nat.le_trans (wayS_len (by omega) stepsL_ok ha hb) h4, fun x hx => ?_⟩
    have := allC_rows x (wayS_in (by omega) stepsL_ok ha hb x hx)
    omega
  · simp
theorem l5Walk_eq {N : Nat} {g : Int × List (Int × Int)} {k : Int} {a b : List Int} {kempe : Bool} {p : List Int → List Int → Bool} (hx : g.2.length ≤ 1048576) (ha : a.length ≤ 1048576) (hb : b.length ≤ 1048576) (hN : 1048577 ≤ N)
    (hsp : Zq119 N g k kempe = some ((if colCase g k ∧ (allC g k).length ≤ 300 then ((allC g k, stepsL p (allC g k)), true, ()) else (([], []), false, ())), ())) (hst : colCase g k → (allC g k).length ≤ 300 → (stepsL p (allC g k)).length ≤ 1048576) :
    Zq121 N g k kempe a b = some (((cwalkV p g k a b).1, (cwalkV p g k a b).2, ()), ()) := by
  unfold Zq121 cwalkV
  simp only [show ((g.1, g.2) : Int × List (Int × Int)) = g from rfl]
  rw [l5Given_eq hx ha hN, bind_some']
  by_cases h1 : colCase g k ∧ proper g k a
  · rw [decide_eq_true h1]
    simp only [Bool.not_true, br_f]
    rw [l5Proper_eq h1.1 hx hb hN, bind_some']
    by_cases h2 : proper g k b
    · rw [decide_eq_true h2]
      simp only [Bool.not_true, br_f]
      rw [hsp, bind_some']
      by_cases h3 : (allC g k).length ≤ 300
      · rw [if_pos ⟨h1.1, h3⟩, if_pos ⟨⟨h1.1, h1.2, h2⟩, h3⟩]
        simp only [Bool.not_true, br_f]
        have hg := h1.1.1.1
        rw [l3Walk_eq (fun x hx => by have := allC_rows x hx; omega) (by omega) (hst h1.1 h3) stepsL_ok (mem_allC h1.1 h3 h1.2) (mem_allC h1.1 h3 h2) hN, bind_some']
        simp only [Zq109, bind_some']
        congr 3
        rw [tLen_n]
        cases wayS (allC g k) (stepsL p (allC g k)) a b with
        | nil => rfl
        | cons z l => rw [ilt_t (by rw [List.length_cons]; omega)]; simp
      · rw [if_neg (fun h => h3 h.2), if_neg (fun h => h3 h.2)]
        rfl
    · rw [decide_eq_false h2, if_neg (fun h => h2 h.1.2.2)]
      rfl
  · rw [decide_eq_false h1, if_neg (fun h => h1 ⟨h.1.1, h.1.2.1⟩)]
    rfl
theorem impl_cwalk {N : Nat} {g : Int × List (Int × Int)} {k : Int} {a b : List Int} {p : List Int → List Int → Bool} (hx : g.2.length ≤ 1048576) (ha : a.length ≤ 1048576) (hb : b.length ≤ 1048576) (hN : 1048577 ≤ N) (hst : colCase g k → (allC g k).length ≤ 300 → (stepsL p (allC g k)).length ≤ 1048576) :
    (br (!(if colCase g k ∧ (allC g k).length ≤ 300 then ((allC g k, stepsL p (allC g k)), true) else (([], []), false)).2) (some (([], false, ()), ()))
      (((Zq36 N g k [a, b]).bind fun r1 => (br (!r1.1.1) (some (([], false, ()), ()))
          (((Zq27 N (if colCase g k ∧ (allC g k).length ≤ 300 then ((allC g k, stepsL p (allC g k)), true) else (([], []), false)).1 a b).bind fun r2 =>
            some ((r2.1.1, r2.1.2.1, ()), ()))))))) = some (((cwalkV p g k a b).1, (cwalkV p g k a b).2, ()), ()) := by
  unfold cwalkV
  by_cases h3 : colCase g k ∧ (allC g k).length ≤ 300
  · rw [if_pos h3]
    simp only [Bool.not_true, br_f]
    rw [isColoured_eq hx (fun l hl => by simp at hl; rcases hl with rfl | rfl <;> assumption) (by simp) hN, bind_some']
    by_cases h1 : proper g k a ∧ proper g k b
    · rw [decide_eq_true (show colCase g k ∧ ∀ l ∈ [a, b], proper g k l from ⟨h3.1, fun l hl => by simp at hl; rcases hl with rfl | rfl <;> simp [h1]⟩), if_pos ⟨⟨h3.1, h1.1, h1.2⟩, h3.2⟩]
      simp only [Bool.not_true, br_f]
      have hg := h3.1.1.1
      rw [walk_eq (allC_sorted g k).1 (fun x hx => by have := allC_rows x hx; omega) (by omega) (hst h3.1 h3.2) stepsL_ok (mem_allC h3.1 h3.2 h1.1) (mem_allC h3.1 h3.2 h1.2) hN, bind_some']
    · rw [decide_eq_false (show ¬ (colCase g k ∧ ∀ l ∈ [a, b], proper g k l) from fun h => h1 ⟨h.2 a (by simp), h.2 b (by simp)⟩), if_neg (fun h => h1 ⟨h.1.2.1, h.1.2.2⟩)]
      rfl
  · rw [if_neg h3, if_neg (fun h => h3 ⟨h.1.1, h.2⟩)]
    rfl
theorem Recolour_both {N : Nat} {g : Int × List (Int × Int)} {k : Int} {a b : List Int} (hx : g.2.length ≤ 1048576) (ha : a.length ≤ 1048576) (hb : b.length ≤ 1048576) (hN : 1048577 ≤ N) :
    Zq79 N g k a b = some (((cwalkV isCh g k a b).1, (cwalkV isCh g k a b).2, ()), ()) ∧ Zq22 N g k a b = some (((cwalkV isCh g k a b).1, (cwalkV isCh g k a b).2, ()), ()) := by
  have hst : colCase g k → (allC g k).length ≤ 300 → (stepsL isCh (allC g k)).length ≤ 1048576 := fun h1 h2 => by have := colSteps_le h1 h2; omega
  constructor
  · unfold Zq79
    simp only [show ((g.1, g.2) : Int × List (Int × Int)) = g from rfl]
    rw [l5Walk_eq (p := isCh) hx ha hb hN (by rw [l5Space_ch hx hN]; unfold colSpV; split <;> rfl) hst, bind_some']
  · unfold Zq22
    simp only [show ((g.1, g.2) : Int × List (Int × Int)) = g from rfl]
    rw [impl_ColSp hx hN, bind_some']
    exact impl_cwalk hx ha hb hN hst
theorem KemWalk_both {N : Nat} {g : Int × List (Int × Int)} {k : Int} {a b : List Int} (hx : g.2.length ≤ 1048576) (ha : a.length ≤ 1048576) (hb : b.length ≤ 1048576) (hN : 1048577 ≤ N) :
    Zq78 N g k a b = some (((cwalkV (kemP g.1.toNat g.2) g k a b).1, (cwalkV (kemP g.1.toNat g.2) g k a b).2, ()), ()) ∧ Zq21 N g k a b = some (((cwalkV (kemP g.1.toNat g.2) g k a b).1, (cwalkV (kemP g.1.toNat g.2) g k a b).2, ()), ()) := by
  have hst : colCase g k → (allC g k).length ≤ 300 → (stepsL (kemP g.1.toNat g.2) (allC g k)).length ≤ 1048576 := fun h1 h2 => by have := kemSteps_le h1 h2; omega
  constructor
  · unfold Zq78
    simp only [show ((g.1, g.2) : Int × List (Int × Int)) = g from rfl]
    rw [l5Walk_eq (p := kemP g.1.toNat g.2) hx ha hb hN (by rw [l5Space_kem hx hN]; unfold kemSpV; split <;> rfl) hst, bind_some']
  · unfold Zq21
    simp only [show ((g.1, g.2) : Int × List (Int × Int)) = g from rfl]
    rw [impl_KemSp hx hN, bind_some']
    exact impl_cwalk hx ha hb hN hst
theorem lessN {a b : Nat} (ha : a < 256) (hb : b < 256) : ∃ c : Nat, bitop .andNot .u64 (a : Int) (b : Int) = (c : Int) ∧ c < 256 ∧ ∀ i, c.testBit i = (a.testBit i && !b.testBit i) := by
  have e1 := ofInt64 (n := a) (by omega)
  have e2 := ofInt64 (n := b) (by omega)
  have key : ∀ i, (BitVec.ofInt 64 (a : Int) &&& ~~~(BitVec.ofInt 64 (b : Int))).toNat.testBit i = (a.testBit i && !b.testBit i) := by
    intro i
    rw [BitVec.testBit_toNat, BitVec.getLsbD_and, BitVec.getLsbD_not, ← BitVec.testBit_toNat, ← BitVec.testBit_toNat, e1, e2]
    by_cases hi : i < 64
    · rw [decide_eq_true hi, Bool.true_and]
    · have : a.testBit i = false := Nat.testBit_lt_two_pow (Nat.lt_of_lt_of_le ha (Nat.pow_le_pow_right (n := 2) (i := 8) (by omega) (by omega)))
      rw [this]
      rfl
  have hlt : (BitVec.ofInt 64 (a : Int) &&& ~~~(BitVec.ofInt 64 (b : Int))).toNat < 2 ^ 8 := by
    refine Nat.lt_pow_two_of_testBit _ fun i hi => ?_
    have : a.testBit i = false := Nat.testBit_lt_two_pow (Nat.lt_of_lt_of_le ha (Nat.pow_le_pow_right (n := 2) (i := 8) (by omega) hi))
    rw [key i, this]
    rfl
  refine ⟨_, ?_, hlt, key⟩
  show IntKind.u64.wrap (((BitVec.ofInt 64 (a : Int) &&& ~~~(BitVec.ofInt 64 (b : Int))).toNat : Nat) : Int) = _
  exact wrap64 (by omega)
theorem iter_andB {p : Nat → Bool} : ∀ (d n : Nat) (f : Bool), iter (fun i (f : Bool) => f && p i) d n f = (f && decide (∀ i, n ≤ i → i < n + d → p i = true)) := by
  intro d
  induction d with
  | zero =>
    intro n f
    unfold iter
    rw [decide_eq_true (fun i h1 h2 => by omega), Bool.and_true]
  | succ d ih =>
    intro n f
    unfold iter
    rw [ih, Bool.and_assoc]
    congr 1
    cases h : p n with
    | true =>
      rw [Bool.true_and]
      refine decide_eq_decide.2 ⟨fun h' i h1 h2 => ?_, fun h' i h1 h2 => h' i (by omega) (by omega)⟩
      by_cases hi : i = n
      · subst hi; exact h
      · exact h' i (by omega) (by omega)
    | false =>
      have : ¬ ∀ i, n ≤ i → i < n + (d + 1) → p i = true := fun h' => by have := h' n (Nat.le_refl n) (by omega); rw [h] at this; cases this
      rw [decide_eq_false this]
      rfl
noncomputable def fixL (m : Nat) (xs : List (List Int)) (F c : List Int) : List Int := ((List.range' 0 m).filter fun v : Nat => decide (∀ i : Nat, i < xs.length → rdI F (i : Int) < 0 ∨ rdI (rdL xs (i : Int)) (v : Int) = rdI c (v : Int))).map fun v : Nat => (v : Int)
theorem fixL_len (m : Nat) (xs : List (List Int)) (F c : List Int) : (fixL m xs F c).length ≤ m := by
  unfold fixL
  rw [List.length_map]
  exact Nat.le_trans (List.length_filter_le ..) (by simp)
theorem mem_apartL {a b : List Int} {c : Nat} : (c : Int) ∈ apartL a b ↔ c < a.length ∧ rdI a (c : Int) ≠ rdI b (c : Int) := by
  unfold apartL
  rw [List.mem_map]
  constructor
  · rintro ⟨i, hi, e⟩
    have : i = c := by omega
    subst this
    obtain ⟨h1, h2⟩ := List.mem_filter.1 hi
    exact ⟨by have := List.mem_range'_1.1 h1; omega, of_decide_eq_true h2⟩
  · rintro ⟨h1, h2⟩
    exact ⟨c, List.mem_filter.2 ⟨List.mem_range'_1.2 (by omega), decide_eq_true h2⟩, rfl⟩
theorem spec_fix_eq {N m : Nat} {es : List (Int × Int)} {xs : List (List Int)} {st : List (Int × Int)} {F c : List Int} (hm : m ≤ 8) (hF : F.length = xs.length) (hx : xs.length ≤ 1048576) (hr : ∀ x ∈ xs, x.length = m) (hc : c.length = m) (hN : 1048577 ≤ N) :
    Zq77_l0 N (fun o => some ((o, true, ()), ())) N c 0 (m : Int) es [] F xs st = some ((fixL m xs F c, true, ()), ()) := by
  have inner : ∀ (v : Nat) (o : List Int) (kk : List Int → Int → Bool → Int → List (Int × Int) → List Int → List Int → List (List Int) → List (Int × Int) → Option ((List Int × Bool × Unit) × Unit)), v < m →
      Zq77_l0_0 N kk N c (v : Int) true 0 (m : Int) es o F xs st = kk c (v : Int) (decide (∀ i : Nat, i < xs.length → rdI F (i : Int) < 0 ∨ rdI (rdL xs (i : Int)) (v : Int) = rdI c (v : Int))) (m : Int) es o F xs st := by
    intro v o kk hv
    have := loop_iter (L := fun K n f => Zq77_l0_0 N kk K c (v : Int) f (n : Int) (m : Int) es o F xs st) (k := fun f => kk c (v : Int) f (m : Int) es o F xs st) (Inv := fun _ _ => True) (step := fun i f => f && decide (rdI F (i : Int) < 0 ∨ rdI (rdL xs (i : Int)) (v : Int) = rdI c (v : Int))) (m := F.length) (fun K n f hn _ => ?_) (fun K n f hn _ => ?_) (fun _ _ _ _ => trivial) (K := N) (s := true) (by omega) trivial
    · simp only [Int.natCast_zero] at this
      rw [this, iter_andB (p := fun i : Nat => decide (rdI F (i : Int) < 0 ∨ rdI (rdL xs (i : Int)) (v : Int) = rdI c (v : Int))), Bool.true_and]
      congr 1
      refine decide_eq_decide.2 ⟨fun h i hi => of_decide_eq_true (h i (Nat.zero_le _) (by omega)), fun h i _ hi => decide_eq_true (h i (by omega))⟩
    · simp only [Zq77_l0_0, ilt_lenf hn, br_f]
    · have hnx : n < xs.length := by omega
      have hrow : (rdL xs (n : Int)).length = m := by rw [rdL_n hnx]; exact hr _ (List.getElem_mem hnx)
      simp only [Zq77_l0_0, ilt_len hn, br_t, inb_n hn, chk_t]
      rw [wrap_succ (by omega)]
      cases f with
      | false => rw [br_f, Bool.false_and]
      | true =>
        rw [br_t, Bool.true_and]
        by_cases h1 : rdI F (n : Int) < 0
        · rw [ilt_t h1, br_t, decide_eq_true (.inl h1)]
        · rw [ilt_f h1, br_f, inb_n hnx, chk_t, inb_n (by omega), chk_t, inb_n (by omega), chk_t]
          by_cases h2 : rdI (rdL xs (n : Int)) (v : Int) = rdI c (v : Int)
          · rw [ieq_t h2, decide_eq_true (.inr h2)]
          · rw [ieq_f h2, decide_eq_false (fun h => h.elim h1 h2)]
  have := loop_iter (L := fun K n o => Zq77_l0 N (fun o => some ((o, true, ()), ())) K c (n : Int) (m : Int) es o F xs st) (k := fun o => some ((o, true, ()), ())) (Inv := fun n o => o.length ≤ n) (step := fun v o => if ∀ i : Nat, i < xs.length → rdI F (i : Int) < 0 ∨ rdI (rdL xs (i : Int)) (v : Int) = rdI c (v : Int) then o ++ [(v : Int)] else o) (m := m) (fun K n o hn _ => ?_) (fun K n o hn ho => ?_) (fun n o hn ho => ?_) (K := N) (s := []) (by omega) (Nat.zero_le _)
  · simp only [Int.natCast_zero] at this
    rw [this, iter_app, List.nil_append]
    rfl
  · simp only [Zq77_l0, ilt_nf hn, br_f]
  · simp only [Zq77_l0, ilt_n hn, br_t]
    rw [inner n o _ hn, room_ok (by simp; omega), chk_t, wrap_succ (by omega), tApp_d]
    by_cases h : ∀ i : Nat, i < xs.length → rdI F (i : Int) < 0 ∨ rdI (rdL xs (i : Int)) (n : Int) = rdI c (n : Int)
    · rw [decide_eq_true h, br_t, if_pos h]
    · rw [decide_eq_false h, br_f, if_neg h]
  · by_cases h : ∀ i : Nat, i < xs.length → rdI F (i : Int) < 0 ∨ rdI (rdL xs (i : Int)) (n : Int) = rdI c (n : Int)
    · rw [if_pos h]; simp; omega
    · rw [if_neg h]; omega
theorem impl_fix_eq {R : Type} {N m : Nat} {es : List (Int × Int)} {xs : List (List Int)} {st : List (Int × Int)} {F c : List Int} {k0 : Int → Int → List (Int × Int) → Option R} (hm : m ≤ 8) (hF : F.length = xs.length) (hx : xs.length ≤ 1048576) (hr : ∀ x ∈ xs, x.length = m) (hc : c.length = m) (hN : 1048577 ≤ N) :
    ∃ a : Nat, a < 256 ∧ (∀ v : Nat, a.testBit v = true ↔ v < m ∧ ∃ i : Nat, i < xs.length ∧ 0 ≤ rdI F (i : Int) ∧ rdI c (v : Int) ≠ rdI (rdL xs (i : Int)) (v : Int)) ∧ Zq5_l0 N k0 N c 0 (tLen F) 0 (m : Int) es F xs st = k0 (a : Int) (m : Int) es := by
  have go : ∀ (d n K : Nat) (a : Nat), n + d = xs.length → d < K → a < 256 → (∀ v : Nat, a.testBit v = true ↔ v < m ∧ ∃ i : Nat, i < n ∧ 0 ≤ rdI F (i : Int) ∧ rdI c (v : Int) ≠ rdI (rdL xs (i : Int)) (v : Int)) →
      ∃ b : Nat, b < 256 ∧ (∀ v : Nat, b.testBit v = true ↔ v < m ∧ ∃ i : Nat, i < xs.length ∧ 0 ≤ rdI F (i : Int) ∧ rdI c (v : Int) ≠ rdI (rdL xs (i : Int)) (v : Int)) ∧ Zq5_l0 N k0 K c ((a : Nat) : Int) (tLen F) (n : Int) (m : Int) es F xs st = k0 (b : Int) (m : Int) es := by
    intro d
    induction d with
    | zero =>
      intro n K a hd hK ha hb
      obtain ⟨k, rfl⟩ := succ_of hK
      have e : n = xs.length := by omega
      subst e
      refine ⟨a, ha, hb, ?_⟩
      simp only [Zq5_l0, ilt_lenf (show ¬ xs.length < F.length by omega), br_f]
    | succ d ih =>
      intro n K a hd hK ha hb
      obtain ⟨k, rfl⟩ := succ_of hK
      have hn : n < xs.length := by omega
      have hrow : (rdL xs (n : Int)).length = m := by rw [rdL_n hn]; exact hr _ (List.getElem_mem hn)
      simp only [Zq5_l0, ilt_len (show n < F.length by omega), br_t, inb_n (show n < F.length by omega), chk_t]
      rw [wrap_succ (by omega)]
      by_cases h0 : 0 ≤ rdI F (n : Int)
      · obtain ⟨q, q1, q2, q3⟩ := bagOf_eq (N := N) (xs := apartL c (rdL xs (n : Int))) (fun y hy => by have := (apart_mem hy).1; rw [hc] at this; have h1 := this.1; have h2 := this.2; omega) (by unfold apartL; rw [List.length_map]; exact Nat.le_trans (List.length_filter_le ..) (by simp; omega)) hN
        rw [ile_t h0, br_t, inb_n hn, chk_t, places_ap (by omega) (by omega) hN, bind_some']
        simp only []
        rw [q1, bind_some']
        simp only []
        rw [orN (by omega) (by omega)]
        refine ih (n + 1) k (a ||| q) (by omega) (by omega) (Nat.or_lt_two_pow (n := 8) ha q2) fun v => ?_
        rw [Nat.testBit_or, Bool.or_eq_true, hb v, q3 v, mem_apartL, hc]
        constructor
        · rintro (⟨h1, i, h2, h3⟩ | ⟨h1, h2⟩)
          · exact ⟨h1, i, by omega, h3⟩
          · exact ⟨h1, n, by omega, h0, h2⟩
        · rintro ⟨h1, i, h2, h3, h4⟩
          by_cases hi : i = n
          · subst hi; exact .inr ⟨h1, h4⟩
          · exact .inl ⟨h1, i, by omega, h3, h4⟩
      · rw [ile_f h0, br_f]
        refine ih (n + 1) k a (by omega) (by omega) ha fun v => ?_
        rw [hb v]
        constructor
        · rintro ⟨h1, i, h2, h3⟩
          exact ⟨h1, i, by omega, h3⟩
        · rintro ⟨h1, i, h2, h3, h4⟩
          by_cases hi : i = n
          · subst hi; exact absurd h3 h0
          · exact ⟨h1, i, by omega, h3, h4⟩
  have := go xs.length 0 N 0 (by omega) (by omega) (by omega) fun v => by simp
  exact this
noncomputable def fixV (g : Int × List (Int × Int)) (k : Int) (c : List Int) : List Int × Bool :=
  if (colCase g k ∧ proper g k c) ∧ (allC g k).length ≤ 300 then (fixL g.1.toNat (allC g k) (bfsD (nbL (allC g k).length (stepsL isCh (allC g k))) (allC g k).length (((allC g k).idxOf c : Nat) : Int)) c, true) else ([], false)
theorem fixV_len (g : Int × List (Int × Int)) (k : Int) (c : List Int) : (fixV g k c).1.length ≤ 8 := by
  unfold fixV
  split
  · rename_i h
    have hg := h.1.1.1.1
    exact Nat.le_trans (fixL_len ..) (by omega)
  · simp
theorem Fixed_both {N : Nat} {g : Int × List (Int × Int)} {k : Int} {c : List Int} (hx : g.2.length ≤ 1048576) (hcl : c.length ≤ 1048576) (hN : 1048577 ≤ N) :
    Zq77 N g k c = some (((fixV g k c).1, (fixV g k c).2, ()), ()) ∧ Zq5 N g k c = some (((fixV g k c).1, (fixV g k c).2, ()), ()) := by
  unfold Zq77 Zq5 fixV
  simp only [show ((g.1, g.2) : Int × List (Int × Int)) = g from rfl]
  rw [l5Given_eq hx hcl hN, bind_some', l5Space_ch hx hN, impl_ColSp hx hN, bind_some', bind_some', isColoured_eq hx (fun l hl => by simp at hl; rw [hl]; exact hcl) (by simp) hN]
  unfold colSpV
  by_cases h1 : colCase g k ∧ proper g k c
  · rw [decide_eq_true h1]
    simp only [Bool.not_true, br_f]
    by_cases h2 : (allC g k).length ≤ 300
    · rw [if_pos ⟨h1.1, h2⟩, if_pos ⟨h1, h2⟩, decide_eq_true (show colCase g k ∧ ∀ l ∈ [c], proper g k l from ⟨h1.1, fun l hl => by simp at hl; rw [hl]; exact h1.2⟩)]
      simp only [Bool.not_true, br_f, bind_some']
      have hg := h1.1.1.1
      have hst := colSteps_le h1.1 h2
      have hin := mem_allC h1.1 h2 h1.2
      have hi := idx_lt hin
      have hr := allC_rows (g := g) (k := k)
      have hr20 : ∀ x ∈ allC g k, x.length ≤ 1048576 := fun x hx => by have := hr x hx; omega
      have hok := stepsL_ok (p := isCh) (xs := allC g k)
      have hl := nbL_ok (n := (allC g k).length) (by omega) hok
      have hF := (bfsD_spec hl (in_nat hi)).1
      have hcm : c.length = g.1.toNat := by have := h1.2.1; omega
      have eg1 : ((g.1.toNat : Nat) : Int) = g.1 := by omega
      constructor
      · rw [index_in (by omega) hr20 hin hN, bind_some']
        unfold Zq97
        simp only []
        rw [l2Lists_eq (by omega) (by omega) hok hN, bind_some']
        simp only []
        rw [l2Spread_bfs hl (by omega) (in_nat hi) hN, bind_some', bind_some']
        have := spec_fix_eq (N := N) (m := g.1.toNat) (es := g.2) (st := stepsL isCh (allC g k)) (c := c) (by omega) hF (by omega) hr hcm hN
        rw [eg1] at this
        exact this
      · rw [place_in (allC_sorted g k).1 (by omega) hr20 hin hN, bind_some', sroads_eq (by omega) (by omega) hok hN, bind_some']
        simp only []
        rw [spread_eq hl (by omega) (in_nat hi) hN, bind_some']
        simp only []
        obtain ⟨a, a1, a2, a3⟩ := impl_fix_eq (R := (List Int × Bool × Unit) × Unit) (N := N) (m := g.1.toNat) (es := g.2) (st := stepsL isCh (allC g k)) (c := c) (k0 := fun x o o1 => ((Zq6 N (o, o1)).bind fun r5 => ((Zq30 N (bitop .andNot .u64 r5.1.1 x)).bind fun r6 => some ((r6.1.1, true, ()), ())))) (by omega) hF (by omega) hr hcm hN
        rw [eg1] at a3
        rw [a3]
        have hal := all8 g.1.toNat (by omega)
        rw [eg1] at hal
        unfold Zq6
        simp only []
        rw [ile_t hg.1, chk_t, hal, bind_some']
        have hp : 2 ^ g.1.toNat ≤ 2 ^ 8 := Nat.pow_le_pow_right (by omega) (by omega)
        obtain ⟨b, b1, b2, b3⟩ := lessN (a := 2 ^ g.1.toNat - 1) (b := a) (by omega) a1
        simp only []
        rw [b1, bagList_eq b2 hN, bind_some']
        congr 3
        unfold fixL
        have e8 : List.range' 0 8 = List.range' 0 g.1.toNat ++ List.range' g.1.toNat (8 - g.1.toNat) := by
          have := List.range'_append_1 (s := 0) (m := g.1.toNat) (n := 8 - g.1.toNat)
          rw [show 0 + g.1.toNat = g.1.toNat by omega, show g.1.toNat + (8 - g.1.toNat) = 8 by omega] at this
          exact this.symm
        rw [e8, List.filter_append, List.map_append]
        have e2 : (List.range' g.1.toNat (8 - g.1.toNat)).filter (fun c => decide (b.testBit c = true)) = [] := by
          refine List.filter_eq_nil_iff.2 fun v hv => ?_
          have := List.mem_range'_1.1 hv
          rw [b3 v, Nat.testBit_two_pow_sub_one, decide_eq_false (show ¬ v < g.1.toNat by omega)]
          simp
        rw [e2, List.map_nil, List.append_nil]
        refine congrArg (List.map fun v : Nat => (v : Int)) (List.filter_congr fun v hv => ?_)
        have hv := List.mem_range'_1.1 hv
        rw [b3 v, Nat.testBit_two_pow_sub_one, decide_eq_true (show v < g.1.toNat by omega), Bool.true_and]
        refine decide_eq_decide.2 ⟨fun h i hi' => ?_, fun h => ?_⟩
        · have h' : ¬ a.testBit v = true := by simpa using h
          by_cases h0 : rdI (bfsD (nbL (allC g k).length (stepsL isCh (allC g k))) (allC g k).length (((allC g k).idxOf c : Nat) : Int)) (i : Int) < 0
          · exact .inl h0
          · by_cases he : rdI (rdL (allC g k) (i : Int)) (v : Int) = rdI c (v : Int)
            · exact .inr he
            · exact absurd ((a2 v).2 ⟨by omega, i, hi', by omega, fun e => he e.symm⟩) h'
        · cases hb : a.testBit v with
          | false => rfl
          | true =>
            obtain ⟨_, i, h2, h3, h4⟩ := (a2 v).1 hb
            rcases h i h2 with h5 | h5
            · omega
            · exact absurd h5.symm h4
    · rw [if_neg (fun h => h2 h.2), if_neg (fun h => h2 h.2)]
      exact ⟨rfl, rfl⟩
  · rw [decide_eq_false h1, if_neg (show ¬ ((colCase g k ∧ proper g k c) ∧ (allC g k).length ≤ 300) from fun h => h1 h.1)]
    refine ⟨rfl, ?_⟩
    by_cases h2 : colCase g k ∧ (allC g k).length ≤ 300
    · rw [if_pos h2, decide_eq_false (show ¬ (colCase g k ∧ ∀ l ∈ [c], proper g k l) from fun h => h1 ⟨h.1, h.2 c (by simp)⟩)]
      rfl
    · rw [if_neg h2]
      rfl
def pairsUp (o : List (Int × Int)) : Prop := o.Pairwise edgeLt
theorem edgeLt_trans {a b c : Int × Int} (h1 : edgeLt a b) (h2 : edgeLt b c) : edgeLt a c := by unfold edgeLt at *; omega
theorem edgeLt_tot {a b : Int × Int} (h : ¬ edgeLt a b) (hne : a ≠ b) : edgeLt b a := by
  unfold edgeLt at *
  by_cases h1 : a.1 = b.1
  · by_cases h2 : a.2 = b.2
    · exact absurd (Prod.ext h1 h2) hne
    · omega
  · omega
theorem putPair_eq {N : Nat} {o : List (Int × Int)} {e : Int × Int} (ho : pairsUp o) (hl : o.length ≤ 1048576) (hN : 1048577 ≤ N) : ∃ o', Zq105 N o e = some ((o', ()), ()) ∧ pairsUp o' ∧ (∀ f, f ∈ o' ↔ f ∈ o ∨ f = e) ∧ o'.length ≤ o.length + 1 := by
  unfold pairsUp at ho
  have find : ∀ (k K : Nat) (k0 : Int → List (Int × Int) → Int → Int → Option ((List (Int × Int) × Unit) × Unit)), k < K → k ≤ o.length → (∀ j (h : j < o.length), k ≤ j → edgeLt e o[j]) →
      ∃ k2 : Nat, k2 ≤ o.length ∧ (∀ j (h : j < o.length), j < k2 → ¬ edgeLt e o[j]) ∧ (∀ j (h : j < o.length), k2 ≤ j → edgeLt e o[j]) ∧ Zq105_l0 N k0 K (k : Int) o e.1 e.2 = k0 (k2 : Int) o e.1 e.2 := by
    intro k
    induction k with
    | zero =>
      intro K k0 hK hk h
      obtain ⟨K, rfl⟩ := succ_of hK
      refine ⟨0, hk, fun j h1 h2 => absurd h2 (Nat.not_lt_zero j), h, ?_⟩
      simp only [Zq105_l0, Int.natCast_zero]
      rw [ilt_f (by decide), br_f]
    | succ k ih =>
      intro K k0 hK hk h
      obtain ⟨K, rfl⟩ := succ_of hK
      have hko : k < o.length := by omega
      simp only [Zq105_l0]
      rw [ilt_t (by omega), br_t, wrap_pred (by omega) (by omega), show k + 1 - 1 = k by omega, inb_n hko, chk_t, rdP_n hko, l2Edge_eq, bind_some']
      simp only [show ((e.1, e.2) : Int × Int) = e from rfl]
      by_cases hc : edgeLt e o[k]
      · rw [decide_eq_true hc, br_t]
        exact ih K k0 (by omega) (by omega) fun j hj hkj => by
          by_cases he : j = k
          · subst he; exact hc
          · exact h j hj (by omega)
      · rw [decide_eq_false hc, br_f]
        refine ⟨k + 1, hk, fun j hj hjk => ?_, h, rfl⟩
        by_cases he : j = k
        · subst he; exact hc
        · have := List.pairwise_iff_getElem.1 ho j k hj hko (by omega)
          exact fun h2 => hc (edgeLt_trans h2 this)
  unfold Zq105
  obtain ⟨k, k1, k2, k3, k4⟩ := find o.length N (fun kv o o1 o2 => (br (ilt 0 kv)
    ((chk (inb o (IntKind.i64.wrap (kv - 1)))
      (br (ieq ((rdP o (IntKind.i64.wrap (kv - 1))).1) o1 && ieq ((rdP o (IntKind.i64.wrap (kv - 1))).2) o2)
      (some ((o, ()), ()))
      ((chk (ile 0 0 && ile 0 kv && ile kv (tLen o))
        (chk (room (α := (Int × Int)) (β := (Int × Int)) [] (tCut o 0 kv))
        (chk (room (tApp [] (tCut o 0 kv)) [(o1, o2)])
        (chk (ile 0 kv && ile kv (tLen o) && ile (tLen o) (tLen o))
        (chk (room (tApp (tApp [] (tCut o 0 kv)) [(o1, o2)]) (tCut o kv (tLen o)))
        (some (((tApp (tApp (tApp [] (tCut o 0 kv)) [(o1, o2)]) (tCut o kv (tLen o))), ()), ())))))))))))
    ((chk (ile 0 0 && ile 0 kv && ile kv (tLen o))
      (chk (room (α := (Int × Int)) (β := (Int × Int)) [] (tCut o 0 kv))
      (chk (room (tApp [] (tCut o 0 kv)) [(o1, o2)])
      (chk (ile 0 kv && ile kv (tLen o) && ile (tLen o) (tLen o))
      (chk (room (tApp (tApp [] (tCut o 0 kv)) [(o1, o2)]) (tCut o kv (tLen o)))
      (some (((tApp (tApp (tApp [] (tCut o 0 kv)) [(o1, o2)]) (tCut o kv (tLen o))), ()), ())))))))))) (by omega) (Nat.le_refl _) (fun j hj h => by omega)
  rw [tLen_n, k4]
  have hcut0 : tCut o 0 (k : Int) = o.take k := by have := tCut_n o 0 k; simpa using this
  have hcutk : tCut o (k : Int) (tLen o) = o.drop k := by rw [tLen_n, tCut_n, List.take_of_length_le (Nat.le_refl _)]
  have h1 : (ile 0 0 && ile 0 (k : Int) && ile (k : Int) (tLen o)) = true := by rw [ile_t (Int.le_refl _), ile_t (by omega), tLen_n, ile_t (by omega)]; rfl
  have h2 : (ile 0 (k : Int) && ile (k : Int) (tLen o) && ile (tLen o) (tLen o)) = true := by rw [ile_t (by omega), tLen_n, ile_t (by omega), ile_t (Int.le_refl _)]; rfl
  have r1 : room (α := Int × Int) (β := Int × Int) [] (o.take k) = true := room_ok (by rw [List.length_take, List.length_nil]; omega)
  have r2 : room (tApp [] (o.take k)) [(e.1, e.2)] = true := room_ok (by simp only [tApp, List.nil_append, List.length_take, List.length_singleton]; omega)
  have r3 : room (tApp (tApp [] (o.take k)) [(e.1, e.2)]) (o.drop k) = true := room_ok (by simp only [tApp, List.nil_append, List.length_append, List.length_take, List.length_drop, List.length_singleton]; omega)
  have ee : tApp (tApp (tApp [] (o.take k)) [(e.1, e.2)]) (o.drop k) = o.take k ++ e :: o.drop k := by simp [tApp]
  have hput : (∀ j (h : j < o.length), j < k → o[j] ≠ e) → pairsUp (o.take k ++ e :: o.drop k) ∧ (∀ f, f ∈ o.take k ++ e :: o.drop k ↔ f ∈ o ∨ f = e) ∧ (o.take k ++ e :: o.drop k).length ≤ o.length + 1 := by
    intro hne
    refine ⟨List.pairwise_append.2 ⟨ho.sublist (List.take_sublist ..), List.pairwise_cons.2 ⟨fun y hy => ?_, ho.sublist (List.drop_sublist ..)⟩, fun a ha b hb => ?_⟩, fun s => ?_, by simp; omega⟩
    · obtain ⟨j, hj, rfl⟩ := List.getElem_of_mem hy
      rw [List.getElem_drop]
      exact k3 _ (by simp at hj; omega) (by omega)
    · obtain ⟨j, hj, rfl⟩ := List.getElem_of_mem ha
      have hj' : j < k ∧ j < o.length := by simp at hj; omega
      rw [List.getElem_take]
      have hax : edgeLt o[j] e := edgeLt_tot (k2 j hj'.2 hj'.1) (fun q => hne j hj'.2 hj'.1 q.symm)
      rcases List.mem_cons.1 hb with rfl | hb
      · exact hax
      · obtain ⟨l, hl', rfl⟩ := List.getElem_of_mem hb
        rw [List.getElem_drop]
        exact List.pairwise_iff_getElem.1 ho _ _ hj'.2 (by simp at hl'; omega) (by omega)
    · rw [List.mem_append, List.mem_cons]
      have := List.take_append_drop k o
      constructor
      · rintro (h | h | h)
        · exact .inl (List.mem_of_mem_take h)
        · exact .inr h
        · exact .inl (List.mem_of_mem_drop h)
      · rintro (h | h)
        · rw [← this, List.mem_append] at h
          rcases h with h | h
          · exact .inl h
          · exact .inr (.inr h)
        · exact .inr (.inl h)
  by_cases hk0 : k = 0
  · subst hk0
    have e0 : ilt 0 ((0 : Nat) : Int) = false := rfl
    rw [e0, br_f, h1, chk_t, hcut0, r1, chk_t, r2, chk_t, h2, chk_t, hcutk, r3, chk_t, ee]
    exact ⟨_, rfl, hput fun j h h0 => absurd h0 (Nat.not_lt_zero j)⟩
  · have hk' : k - 1 < o.length := by omega
    rw [ilt_t (by omega), br_t, wrap_pred (by omega) (by omega), inb_n hk', chk_t, rdP_n hk']
    by_cases he : o[k - 1] = e
    · rw [he, ieq_t rfl, ieq_t rfl]
      simp only [Bool.and_self, br_t]
      refine ⟨o, rfl, ho, fun f => ⟨.inl, ?_⟩, by omega⟩
      rintro (h | h)
      · exact h
      · rw [h, ← he]; exact List.getElem_mem hk'
    · have hb : (ieq o[k - 1].1 e.1 && ieq o[k - 1].2 e.2) = false := by
        by_cases q1 : o[k - 1].1 = e.1
        · by_cases q2 : o[k - 1].2 = e.2
          · exact absurd (Prod.ext q1 q2) he
          · rw [ieq_f q2, Bool.and_false]
        · rw [ieq_f q1]; rfl
      rw [hb, br_f, h1, chk_t, hcut0, r1, chk_t, r2, chk_t, h2, chk_t, hcutk, r3, chk_t, ee]
      refine ⟨_, rfl, hput fun j h hj q => ?_⟩
      by_cases hj1 : j = k - 1
      · subst hj1; exact he q
      · have := List.pairwise_iff_getElem.1 ho j (k - 1) h hk' (by omega)
        rw [q] at this
        exact k2 (k - 1) hk' (by omega) this
theorem mem_stepsL {p : List Int → List Int → Bool} {xs : List (List Int)} {e : Int × Int} : e ∈ stepsL p xs ↔ ∃ i j : Nat, e = ((i : Int), (j : Int)) ∧ i < j ∧ j < xs.length ∧ p (rdL xs (i : Int)) (rdL xs (j : Int)) = true := by
  unfold stepsL rowSteps
  rw [List.mem_flatMap]
  constructor
  · rintro ⟨i, hi, he⟩
    obtain ⟨j, hj, rfl⟩ := List.mem_map.1 he
    obtain ⟨h1, h2⟩ := List.mem_filter.1 hj
    have := List.mem_range'_1.1 h1
    exact ⟨i, j, rfl, by omega, by omega, h2⟩
  · rintro ⟨i, j, rfl, h1, h2, h3⟩
    exact ⟨i, List.mem_range'_1.2 (by omega), List.mem_map.2 ⟨j, List.mem_filter.2 ⟨List.mem_range'_1.2 (by omega), h3⟩, rfl⟩⟩
theorem Wk_in {L : List (List Int)} {m : Nat} {x y : Int} (hl : okLists L m) (hx : InN m x) (h : Wk L x y) : InN m y := by
  induction h with
  | base => exact hx
  | step _ hz ih => exact (okL_row hl ih).2 _ hz
theorem Wk_trans {L : List (List Int)} {x y z : Int} (h1 : Wk L x y) (h2 : Wk L y z) : Wk L x z := by
  induction h2 with
  | base => exact h1
  | step _ h ih => exact .step ih h
def symL (L : List (List Int)) (m : Nat) : Prop := ∀ y z, InN m y → InN m z → z ∈ rdL L y → y ∈ rdL L z
theorem Wk_symm {L : List (List Int)} {m : Nat} {x y : Int} (hl : okLists L m) (hs : symL L m) (hx : InN m x) (h : Wk L x y) : Wk L y x := by
  induction h with
  | base => exact .base
  | step h1 hz ih =>
    have hy := Wk_in hl hx h1
    have hz' := (okL_row hl hy).2 _ hz
    exact Wk_trans (.step .base (hs _ _ hy hz' hz)) ih
theorem wk_wl {L : List (List Int)} {x y : Int} (h : Wk L x y) : ∃ k, Wl L x k y := by
  induction h with
  | base => exact ⟨0, .base⟩
  | step _ hz ih =>
    obtain ⟨k, hk⟩ := ih
    exact ⟨k + 1, .step hk hz⟩
theorem way_some {xs : List (List Int)} {st : List (Int × Int)} {a b : List Int} (hn : xs.length ≤ 1048576) (h : okSt xs.length st) (ha : a ∈ xs) (hb : b ∈ xs) : wayS xs st a b ≠ [] ↔ Wk (nbL xs.length st) ((xs.idxOf b : Nat) : Int) ((xs.idxOf a : Nat) : Int) := by
  have hl := nbL_ok hn h
  obtain ⟨s1, s2, s3, s4, s5, s6⟩ := bfsD_spec hl (in_nat (idx_lt hb))
  unfold wayS wayI
  by_cases hlt : rdI (bfsD (nbL xs.length st) xs.length ((xs.idxOf b : Nat) : Int)) ((xs.idxOf a : Nat) : Int) < 0
  · rw [if_pos hlt]
    refine ⟨fun h => absurd rfl h, fun hw => ?_⟩
    obtain ⟨k, hk⟩ := wk_wl hw
    have := (s6 _ _ hk).2.1
    omega
  · rw [if_neg hlt]
    refine ⟨fun _ => ?_, fun _ => by simp⟩
    have hw := s5 _ (in_nat (idx_lt ha)) (by omega)
    have key : ∀ {k : Nat} {y : Int}, Wl (nbL xs.length st) ((xs.idxOf b : Nat) : Int) k y → Wk (nbL xs.length st) ((xs.idxOf b : Nat) : Int) y := by
      intro k y hk
      induction hk with
      | base => exact .base
      | step _ hz ih => exact .step ih hz
    exact key hw
theorem l1Least_eq {N : Nat} {x y : Int} : Zq93 N x y = some (((if x < y then x else y), ()), ()) := by
  unfold Zq93
  by_cases h : x < y
  · rw [ilt_t h, br_t, if_pos h]
  · rw [ilt_f h, br_f, if_neg h]
def CurOk (code : List Int) (k : Nat) (c : List Int × (Int × Int)) : Prop := c.1 = code ∧ 0 ≤ c.2.1 ∧ c.2.1 ≤ (k : Int)
def codeOk (code : List Int) : Prop := code.length ≤ 1048576 ∧ ∀ x ∈ code, 0 ≤ x ∧ x ≤ 255
theorem cur_mono {code : List Int} {k l : Nat} {c : List Int × (Int × Int)} (h : CurOk code k c) (hl : k ≤ l) : CurOk code l c := ⟨h.1, h.2.1, by have := h.2.2; omega⟩
theorem u8_and (x : Int) : 0 ≤ IntKind.i64.wrap (bitop .and .u64 x 255) ∧ IntKind.i64.wrap (bitop .and .u64 x 255) ≤ 255 := by
  have h : ∃ n : Nat, bitop .and .u64 x 255 = (n : Int) ∧ n ≤ 255 := by
    unfold bitop
    simp only []
    have e : (BitVec.ofInt IntKind.u64.bits x &&& BitVec.ofInt IntKind.u64.bits 255).toNat = (BitVec.ofInt IntKind.u64.bits x).toNat &&& 255 := by
      rw [BitVec.toNat_and]; rfl
    have hle : (BitVec.ofInt IntKind.u64.bits x).toNat &&& 255 ≤ 255 := Nat.and_le_right
    refine ⟨(BitVec.ofInt IntKind.u64.bits x).toNat &&& 255, ?_, hle⟩
    rw [e]
    unfold IntKind.wrap
    simp only [IntKind.signed, IntKind.bits]
    have : (((BitVec.ofInt 64 x).toNat &&& 255 : Nat) : Int) % 2 ^ 64 = (((BitVec.ofInt 64 x).toNat &&& 255 : Nat) : Int) := by
      refine Int.emod_eq_of_lt (by omega) ?_
      have : (BitVec.ofInt 64 x).toNat &&& 255 ≤ 255 := Nat.and_le_right
      omega
    simpa using this
  obtain ⟨n, h1, h2⟩ := h
  rw [h1, wrap_ok (by omega) (by omega)]
  omega
theorem next_ok {N : Nat} {code : List Int} {k : Nat} {c : List Int × (Int × Int)} (hco : codeOk code) (h : CurOk code k c) (hk : k ≤ 1000000000) : ∃ x c', Zq87 N c = some ((x, ()), (c', ())) ∧ CurOk code (k + 1) c' ∧ 0 ≤ x ∧ x ≤ 255 := by
  obtain ⟨cd, at', seed⟩ := c
  obtain ⟨h1, h2, h3⟩ := h
  simp only at h1 h2 h3
  subst h1
  have hw : IntKind.i64.wrap (at' + 1) = at' + 1 := wrap_ok (by omega) (by omega)
  unfold Zq87
  simp only [hw]
  by_cases hlt : at' < (cd.length : Int)
  · obtain ⟨n, rfl⟩ := Int.eq_ofNat_of_zero_le h2
    have hn : n < cd.length := by omega
    have hb := hco.2 _ (List.getElem_mem hn)
    have hrd : rd U8 cd (n : Int) = cd[n] := by
      unfold rd
      rw [Int.toNat_natCast, List.getD_eq_getElem?_getD, List.getElem?_eq_getElem hn]
      rfl
    rw [ilt_len hn, br_t, inb_n hn, chk_t, hrd]
    by_cases hle : (n : Int) + 1 ≤ (cd.length : Int)
    · rw [tLen_n, ile_t hle, br_t]
      refine ⟨_, _, rfl, ⟨rfl, by show (0 : Int) ≤ (n : Int) + 1; omega, by show (n : Int) + 1 ≤ ((k + 1 : Nat) : Int); omega⟩, ?_⟩
      rw [wrap_ok (by omega) (by omega)]
      exact hb
    · omega
  · rw [tLen_n, ilt_f hlt, br_f]
    by_cases hle : at' + 1 ≤ (cd.length : Int)
    · rw [ile_t hle, br_t]
      exact ⟨_, _, rfl, ⟨rfl, by show (0 : Int) ≤ at' + 1; omega, by show at' + 1 ≤ ((k + 1 : Nat) : Int); omega⟩, by omega, by omega⟩
    · rw [ile_f hle, br_f]
      exact ⟨_, _, rfl, ⟨rfl, by show (0 : Int) ≤ at' + 1; omega, by show at' + 1 ≤ ((k + 1 : Nat) : Int); omega⟩, u8_and _⟩
theorem tmod_in {x n : Int} (hx : 0 ≤ x) (hn : 1 ≤ n) : 0 ≤ x.tmod n ∧ x.tmod n < n ∧ x.tmod n ≤ x := by
  obtain ⟨a, rfl⟩ := Int.eq_ofNat_of_zero_le hx
  obtain ⟨b, rfl⟩ := Int.eq_ofNat_of_zero_le (show 0 ≤ n by omega)
  have e : ((a : Int)).tmod (b : Int) = ((a % b : Nat) : Int) := rfl
  rw [e]
  have := Nat.mod_lt a (show 0 < b by omega)
  have := Nat.mod_le a b
  omega
theorem pick_ok {N : Nat} {code : List Int} {k : Nat} {c : List Int × (Int × Int)} (hco : codeOk code) (h : CurOk code k c) (hk : k ≤ 1000000) (n : Int) : ∃ x c', Zq89 N c n = some ((x, ()), (c', ())) ∧ CurOk code (k + 2) c' ∧ 0 ≤ x ∧ x ≤ 65535 ∧ (1 ≤ n → x < n) := by
  unfold Zq89
  by_cases h1 : n ≤ 1
  · rw [ile_t h1, br_t]
    exact ⟨_, _, rfl, cur_mono h (by omega), by omega, by omega, fun h => by omega⟩
  · rw [ile_f h1, br_f]
    obtain ⟨x, c', e1, e2, e3, e4⟩ := next_ok (N := N) hco h (by omega)
    rw [e1, bind_some']
    simp only []
    by_cases h2 : 200 < n
    · rw [ilt_t h2, br_t]
      obtain ⟨y, c2, f1, f2, f3, f4⟩ := next_ok (N := N) hco e2 (by omega)
      rw [f1, bind_some', ine_t (show n ≠ 0 by omega), chk_t]
      simp only []
      rw [wrap_ok (n := x * 256) (by omega) (by omega), wrap_ok (by omega) (by omega)]
      have := tmod_in (x := x * 256 + y) (n := n) (by omega) (by omega)
      exact ⟨_, _, rfl, f2, by omega, by omega, fun _ => by omega⟩
    · rw [ilt_f h2, br_f, ine_t (show n ≠ 0 by omega), chk_t]
      have := tmod_in (x := x) (n := n) (by omega) (by omega)
      exact ⟨_, _, rfl, cur_mono e2 (by omega), by omega, by omega, fun _ => by omega⟩
theorem among_ok {N : Nat} {code : List Int} {k : Nat} {c : List Int × (Int × Int)} (hco : codeOk code) (h : CurOk code k c) (hk : k ≤ 1000000) {l : List Int} (hl : l ≠ []) : ∃ x c', Zq82 N c l = some ((x, ()), (c', ())) ∧ CurOk code (k + 2) c' ∧ x ∈ l := by
  unfold Zq82
  have hp : 0 < l.length := List.length_pos_iff.2 hl
  obtain ⟨x, c', e1, e2, e3, e4, e5⟩ := pick_ok (N := N) hco h hk (tLen l)
  rw [e1, bind_some']
  simp only []
  rw [tLen_n] at e5
  obtain ⟨n, rfl⟩ := Int.eq_ofNat_of_zero_le e3
  have hn : n < l.length := by have := e5 (by omega); omega
  rw [inb_n hn, chk_t, rdI_n hn]
  exact ⟨_, _, rfl, e2, List.getElem_mem hn⟩
theorem one_ok {N : Nat} {code : List Int} {k : Nat} {c : List Int × (Int × Int)} (hco : codeOk code) (h : CurOk code k c) (hk : k ≤ 1000000) (n : Int) : ∃ b c', Zq88 N c n = some ((b, ()), (c', ())) ∧ CurOk code (k + 2) c' := by
  unfold Zq88
  obtain ⟨x, c', e1, e2, _⟩ := pick_ok (N := N) hco h hk n
  rw [e1, bind_some']
  exact ⟨_, _, rfl, e2⟩
theorem sg_in {R : Type} {N : Nat} {code : List Int} (hco : codeOk code) (hN : 1048577 ≤ N) {k0 : Int → Int → Bool → Int → List Int × (Int × Int) → Int → Int → List (Int × Int) → Option R} {x4 x5 x7 o5 o6 : Int} {x6 : Bool} :
    ∀ (d : Nat) (x8 : Int) (K k : Nat) (c : List Int × (Int × Int)) (o : List (Int × Int)), x8 + (d : Int) = max x4 x8 → d < K → 0 ≤ x8 → x8 ≤ 100 → x4 ≤ 100 → CurOk code k c → k + 2 * d ≤ 1000000 → pairsUp o → o.length + d ≤ 1048576 →
      ∃ c' o', Zq90_l0_0 N k0 K x4 x5 x6 x7 x8 c o5 o6 o = k0 x4 x5 x6 x7 c' o5 o6 o' ∧ CurOk code (k + 2 * d) c' ∧ pairsUp o' ∧ o'.length ≤ o.length + d := by
  intro d
  induction d with
  | zero =>
    intro x8 K k c o hd hK h0 h1 h4 hc hk ho hl
    obtain ⟨K, rfl⟩ := succ_of hK
    refine ⟨c, o, ?_, hc, ho, by omega⟩
    simp only [Zq90_l0_0, ilt_f (show ¬ x8 < x4 by omega), br_f]
  | succ d ih =>
    intro x8 K k c o hd hK h0 h1 h4 hc hk ho hl
    obtain ⟨K, rfl⟩ := succ_of hK
    have hlt : x8 < x4 := by omega
    have hw : IntKind.i64.wrap (x8 + 1) = x8 + 1 := wrap_ok (by omega) (by omega)
    simp only [Zq90_l0_0, ilt_t hlt, br_t, hw]
    obtain ⟨x, c1, e1, e2, _⟩ := pick_ok (N := N) hco hc (by omega) x5
    rw [e1, bind_some']
    simp only []
    by_cases hx : x = 0
    · rw [ieq_t hx, br_t]
      obtain ⟨o1, p1, p2, p3, p4⟩ := putPair_eq (N := N) (e := (x7, x8)) ho (by omega) hN
      rw [p1, bind_some']
      simp only []
      obtain ⟨c', o', q1, q2, q3, q4⟩ := ih (x8 + 1) K (k + 2) c1 o1 (by omega) (by omega) (by omega) (by omega) h4 e2 (by omega) p2 (by omega)
      exact ⟨c', o', q1, cur_mono q2 (by omega), q3, by omega⟩
    · rw [ieq_f hx, br_f]
      obtain ⟨c', o', q1, q2, q3, q4⟩ := ih (x8 + 1) K (k + 2) c1 o (by omega) (by omega) (by omega) (by omega) h4 e2 (by omega) ho (by omega)
      exact ⟨c', o', q1, cur_mono q2 (by omega), q3, by omega⟩
theorem sg_out {R : Type} {N : Nat} {code : List Int} (hco : codeOk code) (hN : 1048577 ≤ N) {k0 : List Int × (Int × Int) → Int → Int → List (Int × Int) → Option R} {x x1 o1 o2 : Int} {x2 : Bool} (hx : x ≤ 8) :
    ∀ (d : Nat) (x3 : Int) (K k : Nat) (c : List Int × (Int × Int)) (o : List (Int × Int)), x3 + (d : Int) = max x x3 → d < K → 0 ≤ x3 → x3 ≤ 8 → CurOk code k c → k + 20 * d ≤ 1000000 → pairsUp o → o.length + 10 * d ≤ 1048576 →
      ∃ c' o', Zq90_l0 N k0 K x x1 x2 x3 c o1 o2 o = k0 c' o1 o2 o' ∧ CurOk code (k + 20 * d) c' ∧ pairsUp o' ∧ o'.length ≤ o.length + 10 * d := by
  intro d
  induction d with
  | zero =>
    intro x3 K k c o hd hK h0 h1 hc hk ho hl
    obtain ⟨K, rfl⟩ := succ_of hK
    refine ⟨c, o, ?_, hc, ho, by omega⟩
    simp only [Zq90_l0, ilt_f (show ¬ x3 < x by omega), br_f]
  | succ d ih =>
    intro x3 K k c o hd hK h0 h1 hc hk ho hl
    obtain ⟨K, rfl⟩ := succ_of hK
    have hlt : x3 < x := by omega
    have hw : IntKind.i64.wrap (x3 + 1) = x3 + 1 := wrap_ok (by omega) (by omega)
    simp only [Zq90_l0, ilt_t hlt, br_t, hw]
    obtain ⟨e, he⟩ : ∃ e : Nat, x3 + 1 + (e : Int) = max x (x3 + 1) := ⟨(max x (x3 + 1) - (x3 + 1)).toNat, by omega⟩
    have he8 : e ≤ 8 := by omega
    obtain ⟨c1, p1, q1, q2, q3, q4⟩ := sg_in (R := R) (N := N) hco hN (k0 := fun x4 x5 x6 x7 o4 o5 o6 o7 => (br (ilt 0 x7)
        ((br (!x6)
          (((Zq89 N (o4.1, (o4.2.1, o4.2.2)) x7).bind fun r6 =>
            ((Zq105 N o7 (r6.1.1, x7)).bind fun r7 =>
              Zq90_l0 N k0 K x4 x5 x6 (IntKind.i64.wrap (x7 + 1)) r6.2.1 o5 o6 r7.1.1)))
          (Zq90_l0 N k0 K x4 x5 x6 (IntKind.i64.wrap (x7 + 1)) o4 o5 o6 o7)))
        (Zq90_l0 N k0 K x4 x5 x6 (IntKind.i64.wrap (x7 + 1)) o4 o5 o6 o7))) (x4 := x) (x5 := x1) (x6 := x2) (x7 := x3) (o5 := o1) (o6 := o2) e (x3 + 1) N k c o he (by omega) (by omega) (by omega) (by omega) hc (by omega) ho (by omega)
    rw [q1]
    simp only [hw]
    have keep : ∃ c' o', Zq90_l0 N k0 K x x1 x2 (x3 + 1) c1 o1 o2 p1 = k0 c' o1 o2 o' ∧ CurOk code (k + 20 * (d + 1)) c' ∧ pairsUp o' ∧ o'.length ≤ o.length + 10 * (d + 1) := by
      obtain ⟨c', o', r1, r2, r3, r4⟩ := ih (x3 + 1) K (k + 2 * e) c1 p1 (by omega) (by omega) (by omega) (by omega) q2 (by omega) q3 (by omega)
      exact ⟨c', o', r1, cur_mono r2 (by omega), r3, by omega⟩
    by_cases hz : 0 < x3
    · rw [ilt_t hz, br_t]
      cases x2 with
      | true => exact keep
      | false =>
        simp only [Bool.not_false, br_t]
        obtain ⟨y, c2, e1, e2, _⟩ := pick_ok (N := N) hco q2 (by omega) x3
        rw [show ((c1.1, (c1.2.1, c1.2.2)) : List Int × (Int × Int)) = c1 from rfl, e1, bind_some']
        simp only []
        obtain ⟨o3, p2, p3, p4, p5⟩ := putPair_eq (N := N) (e := (y, x3)) q3 (by omega) hN
        rw [p2, bind_some']
        simp only []
        obtain ⟨c', o', r1, r2, r3, r4⟩ := ih (x3 + 1) K (k + 2 * e + 2) c2 o3 (by omega) (by omega) (by omega) (by omega) e2 (by omega) p3 (by omega)
        exact ⟨c', o', r1, cur_mono r2 (by omega), r3, by omega⟩
    · rw [ilt_f hz, br_f]
      exact keep
noncomputable def sgTail (N : Nat) (o : List Int × (Int × Int)) (o2 : Int) (o3 : List (Int × Int)) : Option (((Int × List (Int × Int)) × Unit) × ((List Int × (Int × Int)) × Unit)) :=
  ((Zq89 N o 50).bind fun r6 =>
    (br (ieq r6.1.1 0)
      (((Zq82 N r6.2.1 [(-1), 8, 9, 0, 4611686018427387904]).bind fun r7 =>
        some (((r7.1.1, o3), ()), (r7.2.1, ()))))
      ((br (ieq r6.1.1 1)
        (((Zq89 N (r6.2.1.1, (r6.2.1.2.1, r6.2.1.2.2)) 4).bind fun r8 =>
          ((Zq89 N r8.2.1 9).bind fun r9 =>
            (chk (room o3 [(r8.1.1, (IntKind.i64.wrap (r9.1.1 - 1)))])
              (some (((o2, (tApp o3 [(r8.1.1, (IntKind.i64.wrap (r9.1.1 - 1)))])), ()), (r9.2.1, ())))))))
        ((br (ieq r6.1.1 2)
          ((br (ilt 0 (tLen o3))
            (((Zq89 N (r6.2.1.1, (r6.2.1.2.1, r6.2.1.2.2)) (tLen o3)).bind fun r10 =>
              (chk (inb o3 r10.1.1)
                (chk (room o3 [(rdP o3 r10.1.1)])
                (some (((o2, (tApp o3 [(rdP o3 r10.1.1)])), ()), (r10.2.1, ())))))))
            (some (((o2, o3), ()), (r6.2.1, ())))))
          (some (((o2, o3), ()), (r6.2.1, ())))))))))
theorem sgTail_ok {N : Nat} {code : List Int} {k : Nat} {c : List Int × (Int × Int)} {o2 : Int} {o3 : List (Int × Int)} (hco : codeOk code) (h : CurOk code k c) (hk : k ≤ 900000) (ho : o3.length ≤ 1000) :
    ∃ g c', sgTail N c o2 o3 = some ((g, ()), (c', ())) ∧ CurOk code (k + 10) c' ∧ g.2.length ≤ o3.length + 1 := by
  unfold sgTail
  obtain ⟨x, c1, e1, e2, _⟩ := pick_ok (N := N) hco h (by omega) 50
  rw [e1, bind_some']
  simp only [show ((c1.1, (c1.2.1, c1.2.2)) : List Int × (Int × Int)) = c1 from rfl]
  by_cases h0 : x = 0
  · rw [ieq_t h0, br_t]
    obtain ⟨y, c2, f1, f2, _⟩ := among_ok (N := N) hco e2 (by omega) (l := [(-1), 8, 9, 0, 4611686018427387904]) (by simp)
    rw [f1, bind_some']
    exact ⟨_, _, rfl, cur_mono f2 (by omega), by simp only []; omega⟩
  · rw [ieq_f h0, br_f]
    by_cases h1 : x = 1
    · rw [ieq_t h1, br_t]
      obtain ⟨y, c2, f1, f2, _⟩ := pick_ok (N := N) hco e2 (by omega) 4
      rw [f1, bind_some']
      simp only []
      obtain ⟨z, c3, g1, g2, _⟩ := pick_ok (N := N) hco f2 (by omega) 9
      rw [g1, bind_some']
      simp only []
      rw [room_ok (by simp; omega), chk_t]
      exact ⟨_, _, rfl, cur_mono g2 (by omega), by simp [tApp]⟩
    · rw [ieq_f h1, br_f]
      by_cases h2 : x = 2
      · rw [ieq_t h2, br_t, tLen_n]
        by_cases h3 : 0 < o3.length
        · rw [ilt_t (by omega), br_t]
          obtain ⟨y, c2, f1, f2, f3, _, f5⟩ := pick_ok (N := N) hco e2 (by omega) (o3.length : Int)
          rw [f1, bind_some']
          simp only []
          obtain ⟨n, rfl⟩ := Int.eq_ofNat_of_zero_le f3
          have hn : n < o3.length := by have := f5 (by omega); omega
          rw [inb_n hn, chk_t, room_ok (by simp; omega), chk_t]
          exact ⟨_, _, rfl, cur_mono f2 (by omega), by simp [tApp]⟩
        · rw [ilt_f (by omega), br_f]
          exact ⟨_, _, rfl, cur_mono e2 (by omega), by simp only []; omega⟩
      · rw [ieq_f h2, br_f]
        exact ⟨_, _, rfl, cur_mono e2 (by omega), by simp only []; omega⟩
theorem sg_fin {N : Nat} {code : List Int} {k : Nat} {c : List Int × (Int × Int)} {n x1 : Int} {x2 : Bool} (hco : codeOk code) (hN : 1048577 ≤ N) (h : CurOk code k c) (hk : k ≤ 100000) (hn : 0 ≤ n ∧ n ≤ 8) :
    ∃ g c', Zq90_l0 N (fun o o1 o2 o3 => sgTail N o o2 o3) N n x1 x2 0 c 0 n [] = some ((g, ()), (c', ())) ∧ CurOk code (k + 180) c' ∧ g.2.length ≤ 100 := by
  obtain ⟨d, hd⟩ : ∃ d : Nat, n = (d : Int) := ⟨n.toNat, by omega⟩
  obtain ⟨c1, o1, e1, e2, e3, e4⟩ := sg_out (N := N) hco hN (k0 := fun o o1 o2 o3 => sgTail N o o2 o3) (x := n) (x1 := x1) (x2 := x2) (o1 := 0) (o2 := n) hn.2 d 0 N k c [] (by omega) (by omega) (by omega) (by omega) h (by omega) List.Pairwise.nil (by simp; omega)
  simp at e4
  obtain ⟨g, c2, f1, f2, f3⟩ := sgTail_ok (N := N) (o2 := n) hco e2 (by omega) (show o1.length ≤ 1000 by omega)
  exact ⟨g, c2, e1.trans f1, cur_mono f2 (by omega), by omega⟩
theorem someGraph_ok {N : Nat} {code : List Int} {k : Nat} {c : List Int × (Int × Int)} {most : Int} (hco : codeOk code) (hN : 1048577 ≤ N) (h : CurOk code k c) (hk : k ≤ 90000) (hm : 6 ≤ most ∧ most ≤ 8) :
    ∃ g c', Zq90 N c most = some ((g, ()), (c', ())) ∧ CurOk code (k + 200) c' ∧ g.2.length ≤ 100 := by
  unfold Zq90
  obtain ⟨n, c1, a1, a2, a3⟩ := among_ok (N := N) hco h (by omega) (l := [4, 5, 3, 6, 2, 1, 0]) (by simp)
  rw [a1, bind_some']
  simp only []
  have hn : 0 ≤ n ∧ n ≤ 6 := by simp at a3; omega
  have rest : ∀ (n : Int) (kk : Nat) (c : List Int × (Int × Int)), 0 ≤ n → CurOk code kk c → kk ≤ k + 6 → ∃ g c', ((Zq93 N n most).bind fun r3 =>
      ((Zq82 N c [1, 3, 4, 6]).bind fun r4 =>
        ((Zq88 N r4.2.1 5).bind fun r5 =>
          Zq90_l0 N (fun o o1 o2 o3 => sgTail N o o2 o3) N r3.1.1 r4.1.1 r5.1.1 0 r5.2.1 0 r3.1.1 []))) = some ((g, ()), (c', ())) ∧ CurOk code (k + 200) c' ∧ g.2.length ≤ 100 := by
    intro n kk c hn hc hkk
    rw [l1Least_eq, bind_some']
    simp only []
    obtain ⟨y, c2, b1, b2, _⟩ := among_ok (N := N) hco hc (by omega) (l := [1, 3, 4, 6]) (by simp)
    rw [b1, bind_some']
    simp only []
    obtain ⟨b, c3, d1, d2⟩ := one_ok (N := N) hco b2 (by omega) 5
    rw [d1, bind_some']
    simp only []
    have hr : 0 ≤ (if n < most then n else most) ∧ (if n < most then n else most) ≤ 8 := by split <;> omega
    obtain ⟨g, c', f1, f2, f3⟩ := sg_fin (N := N) (x1 := y) (x2 := b) hco hN d2 (by omega) hr
    exact ⟨g, c', f1, cur_mono f2 (by omega), f3⟩
  by_cases h6 : 6 < most
  · rw [ilt_t h6, br_t]
    obtain ⟨b, c2, d1, d2⟩ := one_ok (N := N) hco a2 (by omega) 4
    rw [d1, bind_some']
    simp only []
    cases b with
    | true =>
      rw [br_t]
      obtain ⟨y, c3, e1, e2, e3, e4, e5⟩ := pick_ok (N := N) hco d2 (by omega) 2
      rw [e1, bind_some']
      simp only []
      have := e5 (by omega)
      rw [wrap_ok (by omega) (by omega)]
      exact rest (7 + y) _ c3 (by omega) e2 (by omega)
    | false =>
      rw [br_f]
      exact rest n _ c2 hn.1 d2 (by omega)
  · rw [ilt_f h6, br_f]
    exact rest n _ c1 hn.1 a2 (by omega)
theorem graph_ok {N : Nat} {code : List Int} {k : Nat} {c : List Int × (Int × Int)} (hco : codeOk code) (hN : 1048577 ≤ N) (h : CurOk code k c) (hk : k ≤ 90000) : ∃ g c', Zq85 N c = some ((g, ()), (c', ())) ∧ CurOk code (k + 200) c' ∧ g.2.length ≤ 100 := by
  unfold Zq85
  obtain ⟨g, c', e1, e2, e3⟩ := someGraph_ok (N := N) (most := 6) hco hN h hk (by omega)
  rw [e1, bind_some']
  exact ⟨g, c', rfl, e2, e3⟩
theorem good_up {g : Int × List (Int × Int)} (h : goodG g) : pairsUp g.2 := by
  unfold pairsUp
  rw [List.pairwise_iff_getElem]
  intro i j hi hj hij
  have key : ∀ d, ∀ (h2 : i + d + 1 < g.2.length), edgeLt g.2[i] g.2[i + d + 1] := by
    intro d
    induction d with
    | zero =>
      intro h2
      have := (h.2 (i + 1) h2).2 (by omega)
      rw [show i + 1 - 1 = i by omega, rdP_n hi, rdP_n h2] at this
      exact this
    | succ d ih =>
      intro h2
      have h3 := ih (by omega)
      have := (h.2 (i + d + 1 + 1) h2).2 (by omega)
      rw [show i + d + 1 + 1 - 1 = i + d + 1 by omega, rdP_n (show i + d + 1 < g.2.length by omega), rdP_n (show i + d + 1 + 1 < g.2.length by omega)] at this
      exact edgeLt_trans h3 this
  have h4 := key (j - i - 1) (by omega)
  have e : i + (j - i - 1) + 1 = j := by omega
  simp only [e] at h4
  exact h4
end Go.Proofs.YtkffaahlpdlkoaaGreat
