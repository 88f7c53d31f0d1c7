/- Statements on data alone. -/
import Derived.Test.YthkejedgfhjdiaaPvPure
import Derived.Test.YthkejedgfhjdiaaParityFormulaFc
set_option linter.all false
set_option linter.all false
namespace Go.Proofs.Ythkejedgfhjdiaa
open Go Go.PV Classical
theorem toIntS_l0_eq {R : Type} (N : Nat) (k0 : List Int → Option R) (xs : List Int) (hx : xs.length ≤ 1099511627776) : ∀ (d n : Nat) (o : List Int) (K : Nat), n + d = xs.length → d < K → o.length = xs.length →
    laws_toIntS_l0 N k0 K xs n o = k0 (o.take n ++ xs.drop n) := by
  intro d
  induction d with
  | zero =>
    intro n o K hd hK ho
    obtain ⟨k, rfl⟩ := succ_of hK
    have hn : ¬ n < xs.length := by omega
    simp only [laws_toIntS_l0, ilt_lenf hn, br_f]
    rw [List.take_of_length_le (by omega), List.drop_of_length_le (by omega), List.append_nil]
  | succ d ih =>
    intro n o K hd hK ho
    obtain ⟨k, rfl⟩ := succ_of hK
    have hn : n < xs.length := by omega
    have hno : n < o.length := by omega
    simp only [laws_toIntS_l0, ilt_len hn, inb_n hn, inb_n hno, br_t, chk_t]
    rw [wrap_succ (by omega), tSet_n, rdI_n hn, ih (n + 1) _ k (by omega) (by omega) (by simpa using ho)]
    congr 1
    rw [drop_cons hn, List.take_add_one, List.getElem?_set_self (by omega), List.take_set_of_le (Nat.le_refl n)]
    simp
theorem toIntS_eq {N : Nat} {xs : List Int} (hx : xs.length ≤ 1048576) (hN : 1048577 ≤ N) : laws_toIntS N xs = some ((xs, ()), ()) := by
  unfold laws_toIntS
  simp only [tLen_n, ile_t (show (0 : Int) ≤ (xs.length : Int) by omega), ile_t (Int.le_refl _), fits_ok (show xs.length ≤ 1099511627776 by omega), Bool.and_self, chk_t]
  have := toIntS_l0_eq N (fun o => some ((o, ()), ())) xs (by omega) xs.length 0 (tRep (xs.length : Int) 0) N (by omega) (by omega) (by simp [tRep])
  simp only [Int.natCast_zero, List.take_zero, List.drop_zero, List.nil_append] at this
  exact this
theorem eqIntS_l0_eq {R : Type} (N : Nat) (k0 : Bool → Option R) (k1 : Unit → Option R) (a b : List Int) (hx : a.length ≤ 1099511627776) (hl : a.length = b.length) : ∀ (d n : Nat) (K : Nat), n + d = a.length → d < K →
    laws_eqIntS_l0 N k0 k1 K a b n = if a.drop n = b.drop n then k1 () else k0 false := by
  intro d
  induction d with
  | zero =>
    intro n K hd hK
    obtain ⟨k, rfl⟩ := succ_of hK
    have hn : ¬ n < a.length := by omega
    simp only [laws_eqIntS_l0, ilt_lenf hn, br_f]
    rw [if_pos]
    rw [List.drop_of_length_le (by omega), List.drop_of_length_le (by omega)]
  | succ d ih =>
    intro n K hd hK
    obtain ⟨k, rfl⟩ := succ_of hK
    have hn : n < a.length := by omega
    have hnb : n < b.length := by omega
    simp only [laws_eqIntS_l0, ilt_len hn, inb_n hn, inb_n hnb, br_t, chk_t]
    rw [wrap_succ (by omega), rdI_n hn, rdI_n hnb, ih (n + 1) k (by omega) (by omega), drop_cons hn, drop_cons hnb]
    by_cases he : a[n] = b[n]
    · rw [ine_f he, br_f, he]
      simp only [List.cons.injEq, true_and]
    · rw [ine_t he, br_t, if_neg]
      intro h
      injection h with h _
      exact he h
theorem eqIntS_eq {N : Nat} {a b : List Int} (hx : a.length ≤ 1099511627776) (hN : a.length < N) : laws_eqIntS N a b = some ((decide (a = b), ()), ()) := by
  unfold laws_eqIntS
  simp only [tLen_n]
  by_cases hl : a.length = b.length
  · rw [ine_f (by omega), br_f]
    have := eqIntS_l0_eq N (fun x => some ((x, ()), ())) (fun _ => some ((true, ()), ())) a b hx hl a.length 0 N (by omega) (by omega)
    simp only [Int.natCast_zero, List.drop_zero] at this
    rw [this]
    by_cases h : a = b <;> simp [h]
  · rw [ine_t (by omega), br_t]
    have : a ≠ b := fun h => hl (by rw [h])
    simp [this]

/-! ### How much a law lets in -/
theorem szIntS_eq (N : Nat) {xs : List Int} {left : Int} (hl : 0 ≤ left ∧ left ≤ 1048576) (hx : xs.length ≤ 9223372036854775807) : laws_szIntS N xs left = some ((if (xs.length : Int) ≤ left then left - xs.length else -1, ()), ()) := by
  unfold laws_szIntS
  rw [tLen_n, wrap_ok (by omega) (by omega)]
  by_cases h : (xs.length : Int) ≤ left
  · rw [ilt_f (by omega), br_f, if_pos h]
  · rw [ilt_t (by omega), br_t, if_neg h]
/-- What is left behind lists. -/
def szL : List (List Int) → Int → Int
  | [], l => l
  | x :: xs, l => if (x.length : Int) ≤ l then szL xs (l - x.length) else -1
theorem szL_le : ∀ (xs : List (List Int)) (l : Int), 0 ≤ l → 0 ≤ szL xs l → szL xs l ≤ l ∧ ∀ x ∈ xs, (x.length : Int) ≤ l := by
  intro xs
  induction xs with
  | nil => intro l h _; exact ⟨Int.le_refl l, by simp⟩
  | cons x xs ih =>
    intro l h0 h
    unfold szL at h ⊢
    by_cases hx : (x.length : Int) ≤ l
    · rw [if_pos hx] at h ⊢
      obtain ⟨h1, h2⟩ := ih _ (by omega) h
      refine ⟨by omega, fun y hy => ?_⟩
      rcases List.mem_cons.1 hy with rfl | hy
      · exact hx
      · have := h2 y hy
        omega
    · rw [if_neg hx] at h
      omega
theorem szIntSS_l0_eq {R : Type} (N : Nat) (k0 k1 : Int → Option R) (xs : List (List Int)) (hx : ∀ x ∈ xs, x.length ≤ 9223372036854775807) (hl : xs.length ≤ 1048576) : ∀ (d n : Nat) (left : Int) (K : Nat), n + d = xs.length → d < K → 0 ≤ left → left ≤ 1048576 →
    laws_szIntSS_l0 N k0 k1 K xs left n = if 0 ≤ szL (xs.drop n) left then k1 (szL (xs.drop n) left) else k0 (-1) := by
  intro d
  induction d with
  | zero =>
    intro n left K hd hK h0 h1
    obtain ⟨k, rfl⟩ := succ_of hK
    have hn : ¬ n < xs.length := by omega
    simp only [laws_szIntSS_l0, ilt_lenf hn, br_f]
    rw [List.drop_of_length_le (by omega)]
    simp [szL, h0]
  | succ d ih =>
    intro n left K hd hK h0 h1
    obtain ⟨k, rfl⟩ := succ_of hK
    have hn : n < xs.length := by omega
    simp only [laws_szIntSS_l0, ilt_len hn, inb_n hn, br_t, chk_t]
    obtain ⟨y, r, e1, e2, e3⟩ := drop_split hn
    have hy := hx _ (List.getElem_mem hn)
    rw [rdL_n hn, e2] at *
    rw [e2] at hy
    rw [szIntS_eq N ⟨h0, h1⟩ hy, bind_some', e1]
    unfold szL
    by_cases h : (y.length : Int) ≤ left
    · simp only [if_pos h]
      rw [ilt_f (by omega), br_f, wrap_succ (by omega), ih (n + 1) _ k (by omega) (by omega) (by omega) (by omega), e3]
    · simp only [if_neg h]
      rw [ilt_t (by omega), br_t, if_neg (by omega)]
theorem szIntSS_eq {N : Nat} {xs : List (List Int)} {left : Int} (h0 : 0 ≤ left ∧ left ≤ 1048576) (hx : xs.length ≤ 9223372036854775807) (hxs : ∀ x ∈ xs, x.length ≤ 9223372036854775807) (hN : 1048577 ≤ N) :
    ∃ r : Int, laws_szIntSS N xs left = some ((r, ()), ()) ∧ (0 ≤ r → r ≤ left ∧ (xs.length : Int) ≤ left ∧ ∀ x ∈ xs, (x.length : Int) ≤ left) := by
  unfold laws_szIntSS
  rw [tLen_n, wrap_ok (by omega) (by omega)]
  by_cases h : (xs.length : Int) ≤ left
  · rw [ilt_f (by omega), br_f]
    have := szIntSS_l0_eq N (fun x => some ((x, ()), ())) (fun left1 => some ((left1, ()), ())) xs hxs (by omega) xs.length 0 (left - xs.length) N (by omega) (by omega) (by omega) (by omega)
    simp only [Int.natCast_zero, List.drop_zero] at this
    rw [this]
    by_cases hs : 0 ≤ szL xs (left - xs.length)
    · rw [if_pos hs]
      obtain ⟨h1, h2⟩ := szL_le xs _ (by omega) hs
      exact ⟨_, rfl, fun _ => ⟨by omega, h, fun x hx => by have := h2 x hx; omega⟩⟩
    · rw [if_neg hs]
      exact ⟨_, rfl, fun h => by omega⟩
  · rw [ilt_t (by omega), br_t]
    exact ⟨_, rfl, fun h => by omega⟩
theorem toIntSS_l0_eq {R : Type} (N : Nat) (k0 : List (List Int) → Option R) (xs : List (List Int)) (hx : xs.length ≤ 1048576) (hxs : ∀ x ∈ xs, x.length ≤ 1048576) (hN : 1048577 ≤ N) : ∀ (d n : Nat) (o : List (List Int)) (K : Nat), n + d = xs.length → d < K → o.length = xs.length →
    laws_toIntSS_l0 N k0 K xs n o = k0 (o.take n ++ xs.drop n) := by
  intro d
  induction d with
  | zero =>
    intro n o K hd hK ho
    obtain ⟨k, rfl⟩ := succ_of hK
    have hn : ¬ n < xs.length := by omega
    simp only [laws_toIntSS_l0, ilt_lenf hn, br_f]
    rw [List.take_of_length_le (by omega), List.drop_of_length_le (by omega), List.append_nil]
  | succ d ih =>
    intro n o K hd hK ho
    obtain ⟨k, rfl⟩ := succ_of hK
    have hn : n < xs.length := by omega
    have hno : n < o.length := by omega
    simp only [laws_toIntSS_l0, ilt_len hn, inb_n hn, inb_n hno, br_t, chk_t]
    rw [rdL_n hn, toIntS_eq (hxs _ (List.getElem_mem hn)) hN, bind_some', wrap_succ (by omega), tSet_n, ih (n + 1) _ k (by omega) (by omega) (by simpa using ho)]
    congr 1
    rw [drop_cons hn, List.take_add_one, List.getElem?_set_self (by omega), List.take_set_of_le (Nat.le_refl n)]
    simp
theorem toIntSS_eq {N : Nat} {xs : List (List Int)} (hx : xs.length ≤ 1048576) (hxs : ∀ x ∈ xs, x.length ≤ 1048576) (hN : 1048577 ≤ N) : laws_toIntSS N xs = some ((xs, ()), ()) := by
  unfold laws_toIntSS
  simp only [tLen_n, ile_t (show (0 : Int) ≤ (xs.length : Int) by omega), ile_t (Int.le_refl _), fits_ok (show xs.length ≤ 1099511627776 by omega), Bool.and_self, chk_t]
  have := toIntSS_l0_eq N (fun o => some ((o, ()), ())) xs hx hxs hN xs.length 0 (tRep (xs.length : Int) []) N (by omega) (by omega) (by simp [tRep])
  simp only [Int.natCast_zero, List.take_zero, List.drop_zero, List.nil_append] at this
  exact this
theorem eqIntSS_l0_eq {R : Type} (N : Nat) (k0 : Bool → Option R) (k1 : Unit → Option R) (a b : List (List Int)) (hx : a.length ≤ 1099511627776) (hxs : ∀ x ∈ a, x.length ≤ 1048576) (hN : 1048577 ≤ N) (hl : a.length = b.length) : ∀ (d n : Nat) (K : Nat), n + d = a.length → d < K →
    laws_eqIntSS_l0 N k0 k1 K a b n = if a.drop n = b.drop n then k1 () else k0 false := by
  intro d
  induction d with
  | zero =>
    intro n K hd hK
    obtain ⟨k, rfl⟩ := succ_of hK
    have hn : ¬ n < a.length := by omega
    simp only [laws_eqIntSS_l0, ilt_lenf hn, br_f]
    rw [if_pos]
    rw [List.drop_of_length_le (by omega), List.drop_of_length_le (by omega)]
  | succ d ih =>
    intro n K hd hK
    obtain ⟨k, rfl⟩ := succ_of hK
    have hn : n < a.length := by omega
    have hnb : n < b.length := by omega
    simp only [laws_eqIntSS_l0, ilt_len hn, inb_n hn, inb_n hnb, br_t, chk_t]
    have ha := hxs _ (List.getElem_mem hn)
    rw [wrap_succ (by omega), rdL_n hn, rdL_n hnb, eqIntS_eq (by omega) (by omega), bind_some', ih (n + 1) k (by omega) (by omega), drop_cons hn, drop_cons hnb, br_ite]
    by_cases he : a[n] = b[n]
    · rw [he, if_neg (by simp)]
      simp only [List.cons.injEq, true_and]
    · rw [if_pos (by simp [he]), if_neg]
      intro h
      injection h with h _
      exact he h
theorem eqIntSS_eq {N : Nat} {a b : List (List Int)} (hx : a.length ≤ 1048576) (hxs : ∀ x ∈ a, x.length ≤ 1048576) (hN : 1048577 ≤ N) : laws_eqIntSS N a b = some ((decide (a = b), ()), ()) := by
  unfold laws_eqIntSS
  simp only [tLen_n]
  by_cases hl : a.length = b.length
  · rw [ine_f (by omega), br_f]
    have := eqIntSS_l0_eq N (fun x => some ((x, ()), ())) (fun _ => some ((true, ()), ())) a b (by omega) hxs hN hl a.length 0 N (by omega) (by omega)
    simp only [Int.natCast_zero, List.drop_zero] at this
    rw [this]
    by_cases h : a = b <;> simp [h]
  · rw [ine_t (by omega), br_t]
    have : a ≠ b := fun h => hl (by rw [h])
    simp [this]
theorem eqFormula_eq {N : Nat} {a b : Int × List (List Int)} (hx : a.2.length ≤ 1048576) (hxs : ∀ x ∈ a.2, x.length ≤ 1048576) (hN : 1048577 ≤ N) : laws_eqFormula N a b = some ((decide (a = b), ()), ()) := by
  obtain ⟨a1, a2⟩ := a
  obtain ⟨b1, b2⟩ := b
  unfold laws_eqFormula
  by_cases h1 : a1 = b1
  · rw [ine_f h1, br_f, eqIntSS_eq hx hxs hN, bind_some', br_ite]
    by_cases h2 : a2 = b2 <;> simp [h1, h2]
  · rw [ine_t h1, br_t]
    simp [h1]
theorem all_rdI {xs : List Int} {p : Int → Prop} : (∀ x ∈ xs, p x) ↔ ∀ i : Nat, i < xs.length → p (rdI xs i) := by
  constructor
  · intro h i hi
    rw [rdI_n hi]
    exact h _ (List.getElem_mem hi)
  · intro h x hx
    obtain ⟨i, hi, rfl⟩ := List.mem_iff_getElem.1 hx
    have := h i hi
    rwa [rdI_n hi] at this
theorem all_rdL {xs : List (List Int)} {p : List Int → Prop} : (∀ x ∈ xs, p x) ↔ ∀ i : Nat, i < xs.length → p (rdL xs i) := by
  constructor
  · intro h i hi
    rw [rdL_n hi]
    exact h _ (List.getElem_mem hi)
  · intro h x hx
    obtain ⟨i, hi, rfl⟩ := List.mem_iff_getElem.1 hx
    have := h i hi
    rwa [rdL_n hi] at this
theorem not_any {α : Type} {xs : List α} {f : α → Bool} : (!(xs.any f)) = decide (∀ x ∈ xs, f x = false) := by
  induction xs with
  | nil => simp
  | cons x xs ih =>
    rw [List.any_cons, Bool.not_or, ih]
    by_cases h : f x = true <;> simp [h]
def findAt {α : Type} (f : α → Bool) : List α → Nat → Int
  | [], _ => -1
  | x :: xs, n => if f x = true then (n : Int) else findAt f xs (n + 1)
theorem findAt_cons {α : Type} (f : α → Bool) (x : α) (xs : List α) (n : Nat) : findAt f (x :: xs) n = if f x = true then (n : Int) else findAt f xs (n + 1) := rfl
theorem findAt_ge {α : Type} (f : α → Bool) : ∀ (xs : List α) (n : Nat), decide (0 ≤ findAt f xs n) = xs.any f := by
  intro xs
  induction xs with
  | nil => intro n; rfl
  | cons x xs ih =>
    intro n
    unfold findAt
    by_cases h : f x = true
    · rw [if_pos h]
      simp [h]
    · rw [if_neg h, ih]
      simp [h]
theorem IndexFunc_LI_int_l0_eq {R : Type} (N : Nat) (k0 : Int → Option R) (k1 : Unit → Option R) (xs : List (Int)) (f : Int → Option Bool) (g : Int → Bool) (hf : ∀ x ∈ xs, f x = some (g x)) (hx : xs.length ≤ 1099511627776) : ∀ (d n : Nat) (K : Nat), n + d = xs.length → d < K →
    slices_IndexFunc_LI_int_l0 N k0 k1 K xs f (xs.length : Int) n = if (xs.drop n).any g = true then k0 (findAt g (xs.drop n) n) else k1 () := by
  intro d
  induction d with
  | zero =>
    intro n K hd hK
    obtain ⟨k, rfl⟩ := succ_of hK
    have hn : ¬ n < xs.length := by omega
    simp only [slices_IndexFunc_LI_int_l0, ilt_nf hn, br_f]
    rw [List.drop_of_length_le (by omega)]
    simp
  | succ d ih =>
    intro n K hd hK
    obtain ⟨k, rfl⟩ := succ_of hK
    have hn : n < xs.length := by omega
    simp only [slices_IndexFunc_LI_int_l0, ilt_n hn, inb_n hn, br_t, chk_t]
    obtain ⟨y, r, e1, e2, e3⟩ := drop_split hn
    rw [wrap_succ (by omega), rdI_n hn, ih (n + 1) k (by omega) (by omega), hf _ (List.getElem_mem hn), bind_some', br_ite, e1, e2, e3, findAt_cons]
    by_cases h : g y = true
    · simp [h]
    · simp [h]
theorem ContainsFunc_LI_int_eq {N : Nat} {xs : List (Int)} {f : Int → Option Bool} {g : Int → Bool} (hf : ∀ x ∈ xs, f x = some (g x)) (hx : xs.length ≤ 1099511627776) (hN : xs.length < N) :
    slices_ContainsFunc_LI_int N xs f = some ((xs.any g, ()), ()) := by
  unfold slices_ContainsFunc_LI_int slices_IndexFunc_LI_int
  have := IndexFunc_LI_int_l0_eq N (fun x => some ((x, ()), ())) (fun _ => some (((-1 : Int), ()), ())) xs f g hf hx xs.length 0 N (by omega) (by omega)
  simp only [Int.natCast_zero, List.drop_zero] at this
  rw [tLen_n, this]
  by_cases h : xs.any g = true
  · rw [if_pos h, bind_some', ile_d, findAt_ge]
  · rw [if_neg h, bind_some']
    simp only [Bool.not_eq_true] at h
    rw [h]
    rfl
theorem IndexFunc_LLI_LI_l0_eq {R : Type} (N : Nat) (k0 : Int → Option R) (k1 : Unit → Option R) (xs : List (List Int)) (f : List Int → Option Bool) (g : List Int → Bool) (hf : ∀ x ∈ xs, f x = some (g x)) (hx : xs.length ≤ 1099511627776) : ∀ (d n : Nat) (K : Nat), n + d = xs.length → d < K →
    slices_IndexFunc_LLI_LI_l0 N k0 k1 K xs f (xs.length : Int) n = if (xs.drop n).any g = true then k0 (findAt g (xs.drop n) n) else k1 () := by
  intro d
  induction d with
  | zero =>
    intro n K hd hK
    obtain ⟨k, rfl⟩ := succ_of hK
    have hn : ¬ n < xs.length := by omega
    simp only [slices_IndexFunc_LLI_LI_l0, ilt_nf hn, br_f]
    rw [List.drop_of_length_le (by omega)]
    simp
  | succ d ih =>
    intro n K hd hK
    obtain ⟨k, rfl⟩ := succ_of hK
    have hn : n < xs.length := by omega
    simp only [slices_IndexFunc_LLI_LI_l0, ilt_n hn, inb_n hn, br_t, chk_t]
    obtain ⟨y, r, e1, e2, e3⟩ := drop_split hn
    rw [wrap_succ (by omega), rdL_n hn, ih (n + 1) k (by omega) (by omega), hf _ (List.getElem_mem hn), bind_some', br_ite, e1, e2, e3, findAt_cons]
    by_cases h : g y = true
    · simp [h]
    · simp [h]
theorem ContainsFunc_LLI_LI_eq {N : Nat} {xs : List (List Int)} {f : List Int → Option Bool} {g : List Int → Bool} (hf : ∀ x ∈ xs, f x = some (g x)) (hx : xs.length ≤ 1099511627776) (hN : xs.length < N) :
    slices_ContainsFunc_LLI_LI N xs f = some ((xs.any g, ()), ()) := by
  unfold slices_ContainsFunc_LLI_LI slices_IndexFunc_LLI_LI
  have := IndexFunc_LLI_LI_l0_eq N (fun x => some ((x, ()), ())) (fun _ => some (((-1 : Int), ()), ())) xs f g hf hx xs.length 0 N (by omega) (by omega)
  simp only [Int.natCast_zero, List.drop_zero] at this
  rw [tLen_n, this]
  by_cases h : xs.any g = true
  · rw [if_pos h, bind_some', ile_d, findAt_ge]
  · rw [if_neg h, bind_some']
    simp only [Bool.not_eq_true] at h
    rw [h]
    rfl
def isBit (n : Int) : Bool := decide (0 ≤ n ∧ n ≤ 1)
theorem l1In_eq (N : Nat) (x a b : Int) : spec_l1In N x a b = some ((decide (a ≤ x ∧ x ≤ b), ()), ()) := by
  unfold spec_l1In
  rw [br_ite, ile_d, ile_d]
  by_cases h : a ≤ x <;> by_cases h' : x ≤ b <;> simp [h, h']
theorem between_eq (N : Nat) (n low high : Int) : impl_between N n low high = some ((decide (low ≤ n ∧ n ≤ high), ()), ()) := by
  unfold impl_between
  rw [br_ite, ile_d, ile_d]
  by_cases h : low ≤ n <;> by_cases h' : n ≤ high <;> simp [h, h']
theorem l6Bits_l0_eq {R : Type} (N : Nat) (k0 : Bool → Option R) (k1 : Int → List Int → Option R) (v : Int) (xs : List Int) (hx : xs.length ≤ 1099511627776) : ∀ (d n : Nat) (K : Nat), n + d = xs.length → d < K →
    spec_l6Bits_l0 N k0 k1 K v xs n = if (xs.drop n).all isBit = true then k1 v xs else k0 false := by
  intro d
  induction d with
  | zero =>
    intro n K hd hK
    obtain ⟨k, rfl⟩ := succ_of hK
    have hn : ¬ n < xs.length := by omega
    simp only [spec_l6Bits_l0, ilt_lenf hn, br_f]
    rw [List.drop_of_length_le (by omega)]
    simp
  | succ d ih =>
    intro n K hd hK
    obtain ⟨k, rfl⟩ := succ_of hK
    have hn : n < xs.length := by omega
    simp only [spec_l6Bits_l0, ilt_len hn, inb_n hn, br_t, chk_t, l1In_eq, bind_some']
    rw [wrap_succ (by omega), rdI_n hn, ih (n + 1) k (by omega) (by omega), drop_cons hn, List.all_cons, br_ite]
    by_cases h : 0 ≤ xs[n] ∧ xs[n] ≤ 1
    · simp [isBit, h]
    · simp [isBit, h]
theorem l6Bits_eq {N : Nat} {v : Int} {xs : List Int} (hx : xs.length ≤ 1099511627776) (hN : xs.length < N) : spec_l6Bits N v xs = some ((xs.all isBit && decide ((xs.length : Int) = v), ()), ()) := by
  unfold spec_l6Bits
  have := l6Bits_l0_eq N (fun x => some ((x, ()), ())) (fun vars1 bits1 => some (((ieq (tLen bits1) vars1), ()), ())) v xs hx xs.length 0 N (by omega) (by omega)
  simp only [Int.natCast_zero, List.drop_zero] at this
  rw [this, tLen_n, ieq_d]
  by_cases h : xs.all isBit = true
  · rw [if_pos h, h, Bool.true_and]
  · rw [if_neg h]
    simp [h]
theorem any_not {α : Type} (f : α → Bool) : ∀ xs : List α, (!(xs.any fun x => !f x)) = xs.all f := by
  intro xs
  induction xs with
  | nil => rfl
  | cons x xs ih => simp only [List.any_cons, List.all_cons, Bool.not_or, Bool.not_not, ih]
theorem isAssignment_eq {N : Nat} {v : Int} {xs : List Int} (hx : xs.length ≤ 1099511627776) (hN : xs.length < N) : impl_isAssignment N v xs = some ((xs.all isBit && decide ((xs.length : Int) = v), ()), ()) := by
  unfold impl_isAssignment
  rw [ContainsFunc_LI_int_eq (g := fun n => !isBit n) (fun x _ => by simp only [impl_isAssignment_c1, between_eq, bind_some']; rfl) hx hN, bind_some', any_not, tLen_n, ieq_d, br_ite]
  by_cases h : (xs.length : Int) = v <;> simp [h]

/-- At which places two lists differ. -/
def risingAt (lo hi : Int) (xs : List Int) (i : Nat) : Prop := (lo ≤ rdI xs i ∧ rdI xs i ≤ hi) ∧ (0 < i → rdI xs ((i - 1 : Nat) : Int) < rdI xs i)
def rising (lo hi : Int) (xs : List Int) : Prop := ∀ i, i < xs.length → risingAt lo hi xs i
theorem l1Rising_eq {N : Nat} {lo hi : Int} {xs : List Int} (hx : xs.length ≤ 1048576) (hN : 1048577 ≤ N) : spec_l1Rising N xs lo hi = some ((decide (rising lo hi xs), ()), ()) := by
  unfold spec_l1Rising
  have := loop_all_if (P := rising lo hi xs) (L := fun K i => spec_l1Rising_l0 N (fun x => some ((x, ()), ())) (fun (_ : Unit) => some ((true, ()), ())) K xs lo hi i) (risingAt lo hi xs) Iff.rfl (kt := some ((true, ()), ())) (kf := some ((false, ()), ())) (fun K n hn => ?_) (fun K n hn hp => ?_) (fun K n hn hp => ?_) (show xs.length < N by omega)
  · rw [show ((0 : Nat) : Int) = 0 from rfl] at this
    rw [this]
    by_cases h : rising lo hi xs <;> simp [h]
  · simp only [spec_l1Rising_l0, ilt_lenf hn, br_f]
  · simp only [spec_l1Rising_l0, ilt_len hn, br_t, inb_n hn, chk_t, l1In_eq, bind_some']
    obtain ⟨h1, h2⟩ := hp
    rw [decide_eq_true h1, Bool.not_true, br_f]
    by_cases h0 : 0 < n
    · rw [ilt_0 h0, br_t, wrap_pred (by omega) h0, inb_n (by omega), chk_t, ile_f (by have := h2 h0; omega), br_f, wrap_succ (by omega)]
    · rw [ilt_0n h0, br_f, wrap_succ (by omega)]
  · simp only [spec_l1Rising_l0, ilt_len hn, br_t, inb_n hn, chk_t, l1In_eq, bind_some']
    by_cases h1 : lo ≤ rdI xs n ∧ rdI xs n ≤ hi
    · rw [decide_eq_true h1, Bool.not_true, br_f]
      have h0 : 0 < n := by
        rcases Nat.eq_zero_or_pos n with h0 | h0
        · exact absurd ⟨h1, fun h' => by omega⟩ hp
        · exact h0
      have h4 : ¬ rdI xs ((n - 1 : Nat) : Int) < rdI xs n := fun h' => hp ⟨h1, fun _ => h'⟩
      rw [ilt_0 h0, br_t, wrap_pred (by omega) h0, inb_n (by omega), chk_t, ile_t (by omega), br_t]
    · rw [decide_eq_false h1, Bool.not_false, br_t]
theorem isRising_eq {N : Nat} {m : Int} {xs : List Int} (hx : xs.length ≤ 1048576) (hm : 0 ≤ m ∧ m ≤ 4611686018427387904) (hN : 1048577 ≤ N) : impl_isRising N xs m = some ((decide (rising 0 (m - 1) xs), ()), ()) := by
  unfold impl_isRising
  have := loop_all_if (P := rising 0 (m - 1) xs) (L := fun K i => impl_isRising_l0 N (fun x => some ((x, ()), ())) (fun (_ : Unit) => some ((true, ()), ())) K xs m xs (xs.length : Int) i) (risingAt 0 (m - 1) xs) Iff.rfl (kt := some ((true, ()), ())) (kf := some ((false, ()), ())) (fun K n hn => ?_) (fun K n hn hp => ?_) (fun K n hn hp => ?_) (show xs.length < N by omega)
  · rw [show ((0 : Nat) : Int) = 0 from rfl] at this
    rw [tLen_n, this]
    by_cases h : rising 0 (m - 1) xs <;> simp [h]
  · simp only [impl_isRising_l0, ilt_nf hn, br_f]
  · simp only [impl_isRising_l0, ilt_n hn, br_t, inb_n hn, chk_t, between_eq, bind_some', wrap_ok (show -9223372036854775808 ≤ m - 1 by omega) (show m - 1 < 9223372036854775808 by omega)]
    obtain ⟨h1, h2⟩ := hp
    rw [decide_eq_true h1, Bool.not_true, br_f]
    by_cases h0 : 0 < n
    · rw [ilt_0 h0, br_t, wrap_pred (by omega) h0, inb_n (by omega), chk_t, ile_f (by have := h2 h0; omega), br_f, wrap_succ (by omega)]
    · rw [ilt_0n h0, br_f, wrap_succ (by omega)]
  · simp only [impl_isRising_l0, ilt_n hn, br_t, inb_n hn, chk_t, between_eq, bind_some', wrap_ok (show -9223372036854775808 ≤ m - 1 by omega) (show m - 1 < 9223372036854775808 by omega)]
    by_cases h1 : 0 ≤ rdI xs n ∧ rdI xs n ≤ m - 1
    · rw [decide_eq_true h1, Bool.not_true, br_f]
      have h0 : 0 < n := by
        rcases Nat.eq_zero_or_pos n with h0 | h0
        · exact absurd ⟨h1, fun h' => by omega⟩ hp
        · exact h0
      have h4 : ¬ rdI xs ((n - 1 : Nat) : Int) < rdI xs n := fun h' => hp ⟨h1, fun _ => h'⟩
      rw [ilt_0 h0, br_t, wrap_pred (by omega) h0, inb_n (by omega), chk_t, ile_t (by omega), br_t]
    · rw [decide_eq_false h1, Bool.not_false, br_t]
theorem szParity_eq {N : Nat} {a : Int × (List (List Int) × List Int)} (hx : a.2.1.length ≤ 9223372036854775807) (hxs : ∀ x ∈ a.2.1, x.length ≤ 9223372036854775807) (hy : a.2.2.length ≤ 9223372036854775807) (hN : 1048577 ≤ N) :
    ∃ r : Int, laws_szParity N a 1048576 = some ((r, ()), ()) ∧ (0 ≤ r → a.2.1.length ≤ 1048576 ∧ (∀ x ∈ a.2.1, x.length ≤ 1048576) ∧ a.2.2.length ≤ 1048576) := by
  obtain ⟨r, h1, h2⟩ := szIntSS_eq (left := 1048576) (by omega) hx hxs hN
  unfold laws_szParity
  simp only [h1, bind_some']
  by_cases h : 0 ≤ r
  · rw [ilt_f (by omega), br_f]
    obtain ⟨h5, h3, h4⟩ := h2 h
    rw [szIntS_eq N ⟨h, h5⟩ hy, bind_some']
    by_cases hl : (a.2.2.length : Int) ≤ r
    · simp only [if_pos hl]
      rw [ilt_f (by omega), br_f]
      exact ⟨_, rfl, fun _ => ⟨by omega, fun x hx => by have := h4 x hx; omega, by omega⟩⟩
    · simp only [if_neg hl]
      rw [ilt_t (by omega), br_t]
      exact ⟨-1, rfl, fun h => by omega⟩
  · rw [ilt_t (by omega), br_t]
    exact ⟨-1, rfl, fun h => by omega⟩
theorem toParity_eq {N : Nat} {a : Int × (List (List Int) × List Int)} (hx : a.2.1.length ≤ 1048576) (hxs : ∀ x ∈ a.2.1, x.length ≤ 1048576) (hy : a.2.2.length ≤ 1048576) (hN : 1048577 ≤ N) : laws_toParity N a = some ((a, ()), ()) := by
  unfold laws_toParity
  simp only [toIntSS_eq hx hxs hN, toIntS_eq hy hN, bind_some']
theorem eqParity_eq {N : Nat} {a b : Int × (List (List Int) × List Int)} (hx : a.2.1.length ≤ 1048576) (hxs : ∀ x ∈ a.2.1, x.length ≤ 1048576) (hy : a.2.2.length ≤ 1048576) (hN : 1048577 ≤ N) : laws_eqParity N a b = some ((decide (a = b), ()), ()) := by
  obtain ⟨a1, a2, a3⟩ := a
  obtain ⟨b1, b2, b3⟩ := b
  unfold laws_eqParity
  by_cases h1 : a1 = b1
  · rw [ine_f h1, br_f, eqIntSS_eq hx hxs hN, bind_some', br_ite]
    by_cases h2 : a2 = b2
    · rw [if_neg (by simp [h2]), eqIntS_eq (show a3.length ≤ 1099511627776 by simp at hy; omega) (show a3.length < N by simp at hy; omega), bind_some', br_ite]
      by_cases h3 : a3 = b3 <;> simp [h1, h2, h3]
    · simp [h1, h2]
  · rw [ine_t h1, br_t]
    simp [h1]
def goodP (p : Int × (List (List Int) × List Int)) : Prop := (0 ≤ p.1 ∧ p.1 ≤ 6) ∧ p.2.1.length ≤ 6 ∧ ((p.2.2.all isBit && decide ((p.2.2.length : Int) = (p.2.1.length : Int))) = true) ∧ ∀ x ∈ p.2.1, rising 0 (p.1 - 1) x
theorem spec_l6Parity_eq {N : Nat} {p : Int × (List (List Int) × List Int)} (hx : p.2.1.length ≤ 1048576) (hxs : ∀ x ∈ p.2.1, x.length ≤ 1048576) (hy : p.2.2.length ≤ 1048576) (hN : 1048577 ≤ N) : spec_l6Parity N p = some ((decide (goodP p), ()), ()) := by
  obtain ⟨m, rs, bs⟩ := p
  simp only at hx hxs hy
  unfold spec_l6Parity
  have := loop_all_if (P := ∀ x ∈ rs, rising 0 (IntKind.i64.wrap (m - 1)) x) (m := rs.length) (L := fun K i => spec_l6Parity_l0 N (fun x => some ((x, ()), ())) (fun o o1 o2 => ((spec_l1In N o 0 6).bind fun r =>
    (br r.1.1
      ((br (ile (tLen o1) 6)
        (((spec_l6Bits N (tLen o1) o2).bind fun r1 =>
          some ((r1.1.1, ()), ())))
        (some ((false, ()), ()))))
      (some ((false, ()), ()))))) K i m rs bs) (fun i => rising 0 (IntKind.i64.wrap (m - 1)) (rdL rs i)) all_rdL (kt := some ((decide ((0 ≤ m ∧ m ≤ 6) ∧ rs.length ≤ 6 ∧ ((bs.all isBit && decide ((bs.length : Int) = (rs.length : Int))) = true)), ()), ())) (kf := some ((false, ()), ())) (fun K n hn => ?_) (fun K n hn hp => ?_) (fun K n hn hp => ?_) (show rs.length < N by omega)
  · rw [show ((0 : Nat) : Int) = 0 from rfl] at this
    rw [this]
    by_cases hm : 0 ≤ m ∧ m ≤ 6
    · rw [wrap_ok (show -9223372036854775808 ≤ m - 1 by omega) (show m - 1 < 9223372036854775808 by omega)]
      by_cases h : ∀ x ∈ rs, rising 0 (m - 1) x
      · rw [if_pos h]
        congr 3
        exact decide_eq_decide.2 ⟨fun h' => ⟨h'.1, h'.2.1, h'.2.2, h⟩, fun h' => ⟨h'.1, h'.2.1, h'.2.2.1⟩⟩
      · rw [if_neg h, decide_eq_false (show ¬ goodP (m, rs, bs) from fun h' => h h'.2.2.2)]
    · rw [decide_eq_false (show ¬ goodP (m, rs, bs) from fun h => hm h.1), decide_eq_false (fun h => hm h.1), ite_self]
  · simp only [spec_l6Parity_l0, ilt_lenf hn, br_f]
    simp only [l1In_eq, bind_some', l6Bits_eq (show bs.length ≤ 1099511627776 by omega) (show bs.length < N by omega), tLen_n, br_ite, ile_d]
    by_cases hm : 0 ≤ m ∧ m ≤ 6
    · rw [if_pos (decide_eq_true hm)]
      by_cases h6 : rs.length ≤ 6
      · rw [if_pos (decide_eq_true (by omega))]
        generalize (bs.all isBit && decide ((bs.length : Int) = (rs.length : Int))) = q
        cases q <;> simp [hm, h6]
      · rw [if_neg (by simp; omega)]
        simp [h6]
    · rw [if_neg (by simpa using hm), decide_eq_false (fun h => hm h.1)]
  · simp only [spec_l6Parity_l0, ilt_len hn, br_t, inb_n hn, chk_t, l1Rising_eq (rdL_len hxs n) hN, bind_some', decide_eq_true hp, Bool.not_true, br_f]
    rw [wrap_succ (by omega)]
  · simp only [spec_l6Parity_l0, ilt_len hn, br_t, inb_n hn, chk_t, l1Rising_eq (rdL_len hxs n) hN, bind_some', decide_eq_false hp, Bool.not_false, br_t]
theorem impl_IsParity_eq {N : Nat} {p : Int × (List (List Int) × List Int)} (hx : p.2.1.length ≤ 1048576) (hxs : ∀ x ∈ p.2.1, x.length ≤ 1048576) (hy : p.2.2.length ≤ 1048576) (hN : 1048577 ≤ N) : impl_IsParity N p = some ((decide (goodP p), ()), ()) := by
  obtain ⟨m, rs, bs⟩ := p
  simp only at hx hxs hy
  unfold impl_IsParity
  simp only [between_eq, bind_some', isAssignment_eq (show bs.length ≤ 1099511627776 by omega) (show bs.length < N by omega), tLen_n, br_ite, ile_d]
  by_cases hm : 0 ≤ m ∧ m ≤ 6
  · rw [if_pos (decide_eq_true hm)]
    by_cases h6 : rs.length ≤ 6
    · rw [if_pos (decide_eq_true (by omega))]
      by_cases hb : (bs.all isBit && decide ((bs.length : Int) = (rs.length : Int))) = true
      · rw [if_pos hb, ContainsFunc_LLI_LI_eq (g := fun r => !decide (rising 0 (m - 1) r)) (fun x h => by simp only [impl_IsParity_c1, isRising_eq (hxs x h) (show 0 ≤ m ∧ m ≤ 4611686018427387904 by omega) hN, bind_some']) (by omega) (by omega), bind_some', not_any]
        congr 3
        refine decide_eq_decide.2 ⟨fun h' => ⟨hm, h6, hb, fun x hx => by simpa using h' x hx⟩, fun h' x hx => by simpa using h'.2.2.2 x hx⟩
      · rw [if_neg hb, decide_eq_false (show ¬ goodP (m, rs, bs) from fun h => hb h.2.2.1)]
    · rw [if_neg (by simp; omega), decide_eq_false (show ¬ goodP (m, rs, bs) from fun h => h6 h.2.1)]
  · rw [if_neg (by simpa using hm), decide_eq_false (show ¬ goodP (m, rs, bs) from fun h => hm h.1)]
def iotaI : Int → Nat → List Int
  | _, 0 => []
  | k, n + 1 => k :: iotaI (k + 1) n
def iotaL : Int → List (List Int) → List (List Int)
  | _, [] => []
  | k, x :: xs => iotaI k x.length :: iotaL (k + x.length) xs
def sumL : List (List Int) → Int
  | [] => 0
  | x :: xs => x.length + sumL xs
theorem sumL_cons (x : List Int) (xs : List (List Int)) : sumL (x :: xs) = x.length + sumL xs := rfl
theorem iotaI_len : ∀ (n : Nat) (k : Int), (iotaI k n).length = n := by
  intro n
  induction n with
  | zero => intro k; rfl
  | succ n ih => intro k; unfold iotaI; rw [List.length_cons, ih]
theorem sumL_le {xs : List (List Int)} (h : ∀ x ∈ xs, x.length ≤ 1048576) : 0 ≤ sumL xs ∧ sumL xs ≤ 1048576 * (xs.length : Int) := by
  induction xs with
  | nil => exact ⟨Int.le_refl _, Int.le_refl _⟩
  | cons x xs ih =>
    obtain ⟨h1, h2⟩ := ih fun y hy => h y (List.mem_cons_of_mem _ hy)
    have := h x (List.mem_cons_self ..)
    unfold sumL
    rw [List.length_cons]
    omega
theorem markIntS_eq {N : Nat} {a : List Int} {k : Int} (hk : 0 ≤ k ∧ k ≤ 2305843009213693952) (ha : a.length ≤ 1048576) (hN : 1048577 ≤ N) : laws_markIntS N a k = some ((k + a.length, ()), (iotaI k a.length, ())) := by
  have go : ∀ (d n : Nat) (o : List Int) (K : Nat) (kv : Int), n + d = o.length → o.length ≤ 1048576 → d < K → 0 ≤ kv → kv + d ≤ 4611686018427387904 →
      laws_markIntS_l0 N (fun kv1 o => some ((kv1, ()), (o, ()))) K kv n o = some ((kv + d, ()), (o.take n ++ iotaI kv d, ())) := by
    intro d
    induction d with
    | zero =>
      intro n o K kv hd ho hK h0 h1
      obtain ⟨k, rfl⟩ := succ_of hK
      have hn : ¬ n < o.length := by omega
      simp only [laws_markIntS_l0, ilt_lenf hn, br_f, iotaI, List.append_nil]
      rw [List.take_of_length_le (by omega)]
      simp
    | succ d ih =>
      intro n o K kv hd ho hK h0 h1
      obtain ⟨k, rfl⟩ := succ_of hK
      have hn : n < o.length := by omega
      simp only [laws_markIntS_l0, ilt_len hn, br_t, inb_n hn, chk_t]
      rw [wrap_succ (by omega), wrap_ok (by omega) (by omega), tSet_n, ih (n + 1) _ k _ (by simp; omega) (by simpa using ho) (by omega) (by omega) (by omega)]
      congr 2
      · congr 1
        omega
      · rw [List.take_add_one, List.getElem?_set_self (by omega), List.take_set_of_le (Nat.le_refl n)]
        simp [iotaI]
  unfold laws_markIntS
  have := go a.length 0 a N k (by omega) ha (by omega) hk.1 (by omega)
  simpa using this
theorem heldIntS_eq {N : Nat} {n : Nat} {k : Int} (hk : 0 ≤ k ∧ k ≤ 2305843009213693952) (ha : n ≤ 1048576) (hN : 1048577 ≤ N) : laws_heldIntS N (iotaI k n) k = some ((k + n, ()), ()) := by
  have go : ∀ (d n : Nat) (xs : List Int) (K : Nat) (kv : Int), n + d = xs.length → xs.length ≤ 1048576 → d < K → 0 ≤ kv → kv + d ≤ 4611686018427387904 → xs.drop n = iotaI kv d →
      laws_heldIntS_l0 N (fun x => some ((x, ()), ())) (fun kv1 => some ((kv1, ()), ())) K xs kv n = some ((kv + d, ()), ()) := by
    intro d
    induction d with
    | zero =>
      intro n xs K kv hd ho hK h0 h1 e
      obtain ⟨k, rfl⟩ := succ_of hK
      have hn : ¬ n < xs.length := by omega
      simp only [laws_heldIntS_l0, ilt_lenf hn, br_f]
      simp
    | succ d ih =>
      intro n xs K kv hd ho hK h0 h1 e
      obtain ⟨k, rfl⟩ := succ_of hK
      have hn : n < xs.length := by omega
      rw [drop_cons hn] at e
      injection e with e1 e2
      simp only [laws_heldIntS_l0, ilt_len hn, br_t, inb_n hn, chk_t]
      rw [rdI_n hn, ine_f e1, br_f, wrap_succ (by omega), wrap_ok (by omega) (by omega), ih (n + 1) _ k _ (by omega) ho (by omega) (by omega) (by omega) e2]
      congr 3
      omega
  unfold laws_heldIntS
  have hl := iotaI_len n k
  have := go n 0 (iotaI k n) N k (by omega) (by omega) (by omega) hk.1 (by omega) rfl
  simpa using this
theorem markIntSS_eq {N : Nat} {a : List (List Int)} {k : Int} (hk : 0 ≤ k ∧ k ≤ 1152921504606846976) (ha : a.length ≤ 1048576) (has : ∀ x ∈ a, x.length ≤ 1048576) (hN : 1048577 ≤ N) : laws_markIntSS N a k = some ((k + sumL a, ()), (iotaL k a, ())) := by
  have go : ∀ (d n : Nat) (o : List (List Int)) (K : Nat) (kv : Int), n + d = o.length → o.length ≤ 1048576 → (∀ x ∈ o.drop n, x.length ≤ 1048576) → d < K → 0 ≤ kv → kv + 1048576 * d ≤ 2305843009213693952 →
      laws_markIntSS_l0 N (fun kv1 o => some ((kv1, ()), (o, ()))) K kv n o = some ((kv + sumL (o.drop n), ()), (o.take n ++ iotaL kv (o.drop n), ())) := by
    intro d
    induction d with
    | zero =>
      intro n o K kv hd ho hos hK h0 h1
      obtain ⟨k, rfl⟩ := succ_of hK
      have hn : ¬ n < o.length := by omega
      simp only [laws_markIntSS_l0, ilt_lenf hn, br_f]
      rw [List.take_of_length_le (by omega), List.drop_of_length_le (by omega)]
      simp [sumL, iotaL]
    | succ d ih =>
      intro n o K kv hd ho hos hK h0 h1
      obtain ⟨k, rfl⟩ := succ_of hK
      have hn : n < o.length := by omega
      rw [drop_cons hn] at hos ⊢
      have hl := hos _ (List.mem_cons_self ..)
      simp only [laws_markIntSS_l0, ilt_len hn, br_t, inb_n hn, chk_t]
      have e : (o.set n (iotaI kv o[n].length)).drop (n + 1) = o.drop (n + 1) := by rw [List.drop_set_of_lt (by omega)]
      rw [rdL_n hn, markIntS_eq ⟨h0, by omega⟩ hl hN]
      simp only [bind_some']
      rw [wrap_succ (by omega), tSet_n, ih (n + 1) _ k _ (by simp; omega) (by simpa using ho) (by rw [e]; exact fun x hx => hos x (List.mem_cons_of_mem _ hx)) (by omega) (by omega) (by omega), e]
      congr 2
      · congr 1
        rw [sumL_cons]
        omega
      · rw [List.take_add_one, List.getElem?_set_self (by omega), List.take_set_of_le (Nat.le_refl n)]
        simp [iotaL]
  unfold laws_markIntSS
  have := go a.length 0 a N k (by omega) ha (by simpa using has) (by omega) hk.1 (by omega)
  simpa using this
theorem heldIntSS_eq {N : Nat} {a : List (List Int)} {k : Int} (hk : 0 ≤ k ∧ k ≤ 1152921504606846976) (ha : a.length ≤ 1048576) (has : ∀ x ∈ a, x.length ≤ 1048576) (hN : 1048577 ≤ N) : laws_heldIntSS N (iotaL k a) k = some ((k + sumL a, ()), ()) := by
  have go : ∀ (b : List (List Int)) (n : Nat) (xs : List (List Int)) (K : Nat) (kv : Int), n + b.length = xs.length → xs.length ≤ 1048576 → (∀ x ∈ b, x.length ≤ 1048576) → b.length < K → 0 ≤ kv → kv + 1048576 * b.length ≤ 2305843009213693952 → xs.drop n = iotaL kv b →
      laws_heldIntSS_l0 N (fun x => some ((x, ()), ())) (fun kv1 => some ((kv1, ()), ())) K xs kv n = some ((kv + sumL b, ()), ()) := by
    intro b
    induction b with
    | nil =>
      intro n xs K kv hd ho hos hK h0 h1 e
      obtain ⟨k, rfl⟩ := succ_of hK
      have hn : ¬ n < xs.length := by simp at hd; omega
      simp only [laws_heldIntSS_l0, ilt_lenf hn, br_f]
      simp [sumL]
    | cons y b ih =>
      intro n xs K kv hd ho hos hK h0 h1 e
      obtain ⟨k, rfl⟩ := succ_of hK
      rw [List.length_cons] at hd hK h1
      have hn : n < xs.length := by omega
      rw [drop_cons hn] at e
      injection e with e1 e2
      have hl := hos _ (List.mem_cons_self ..)
      simp only [laws_heldIntSS_l0, ilt_len hn, br_t, inb_n hn, chk_t]
      rw [rdL_n hn, e1, heldIntS_eq ⟨h0, by omega⟩ hl hN]
      simp only [bind_some']
      rw [ilt_f (by omega), br_f, wrap_succ (by omega), ih (n + 1) _ k _ (by omega) ho (fun x hx => hos x (List.mem_cons_of_mem _ hx)) (by omega) (by omega) (by omega) e2]
      congr 3
      rw [sumL_cons]
      omega
  have len : ∀ (a : List (List Int)) (k : Int), (iotaL k a).length = a.length := by
    intro a
    induction a with
    | nil => intro k; rfl
    | cons x a ih => intro k; unfold iotaL; rw [List.length_cons, ih, List.length_cons]
  unfold laws_heldIntSS
  have hl := len a k
  have := go a 0 (iotaL k a) N k (by omega) (by omega) has (by omega) hk.1 (by omega) rfl
  simpa using this
theorem markFormula_eq {N : Nat} {a : Int × List (List Int)} {k : Int} (hk : 0 ≤ k ∧ k ≤ 1152921504606846976) (ha : a.2.length ≤ 1048576) (has : ∀ x ∈ a.2, x.length ≤ 1048576) (hN : 1048577 ≤ N) : laws_markFormula N a k = some ((k + sumL a.2, ()), ((a.1, iotaL k a.2), ())) := by
  unfold laws_markFormula
  simp only [markIntSS_eq hk ha has hN, bind_some']
theorem heldFormula_eq {N : Nat} {v : Int} {a : List (List Int)} {k : Int} (hk : 0 ≤ k ∧ k ≤ 1152921504606846976) (ha : a.length ≤ 1048576) (has : ∀ x ∈ a, x.length ≤ 1048576) (hN : 1048577 ≤ N) : laws_heldFormula N (v, iotaL k a) k = some ((k + sumL a, ()), ()) := by
  unfold laws_heldFormula
  have := sumL_le has
  simp only [heldIntSS_eq hk ha has hN, bind_some']
  rw [ilt_f (by omega), br_f]
theorem markParity_eq {N : Nat} {a : Int × (List (List Int) × List Int)} {k : Int} (hk : 0 ≤ k ∧ k ≤ 1152921504606846976) (ha : a.2.1.length ≤ 1048576) (has : ∀ x ∈ a.2.1, x.length ≤ 1048576) (hb : a.2.2.length ≤ 1048576) (hN : 1048577 ≤ N) : laws_markParity N a k = some ((k + sumL a.2.1 + a.2.2.length, ()), ((a.1, (iotaL k a.2.1, iotaI (k + sumL a.2.1) a.2.2.length)), ())) := by
  unfold laws_markParity
  have := sumL_le has
  simp only [markIntSS_eq hk ha has hN, bind_some']
  rw [markIntS_eq (by omega) hb hN, bind_some']
def insI (x : Int) : List Int → List Int
  | [] => [x]
  | y :: p => if y ≤ x then y :: insI x p else x :: y :: p
def sortI (xs : List Int) : List Int := xs.foldl (fun p x => insI x p) []
def asc (xs : List Int) : Prop := xs.Pairwise (· ≤ ·)
theorem insI_len (x : Int) : ∀ p : List Int, (insI x p).length = p.length + 1 := by
  intro p
  induction p with
  | nil => rfl
  | cons y p ih =>
    unfold insI
    by_cases h : y ≤ x
    · rw [if_pos h, List.length_cons, ih, List.length_cons]
    · rw [if_neg h, List.length_cons, List.length_cons]
theorem insI_mem (x z : Int) : ∀ p : List Int, z ∈ insI x p ↔ z = x ∨ z ∈ p := by
  intro p
  induction p with
  | nil => simp [insI]
  | cons y p ih =>
    unfold insI
    by_cases h : y ≤ x
    · rw [if_pos h, List.mem_cons, ih, List.mem_cons]
      constructor
      · rintro (h | h | h)
        · exact .inr (.inl h)
        · exact .inl h
        · exact .inr (.inr h)
      · rintro (h | h | h)
        · exact .inr (.inl h)
        · exact .inl h
        · exact .inr (.inr h)
    · rw [if_neg h, List.mem_cons]
theorem insI_asc {x : Int} : ∀ {p : List Int}, asc p → asc (insI x p) := by
  intro p
  induction p with
  | nil => intro _; exact List.pairwise_singleton ..
  | cons y p ih =>
    intro h
    obtain ⟨h1, h2⟩ := List.pairwise_cons.1 h
    unfold insI
    by_cases hy : y ≤ x
    · rw [if_pos hy]
      refine List.pairwise_cons.2 ⟨fun z hz => ?_, ih h2⟩
      rcases (insI_mem x z p).1 hz with rfl | hz
      · exact hy
      · exact h1 z hz
    · rw [if_neg hy]
      refine List.pairwise_cons.2 ⟨fun z hz => ?_, h⟩
      rcases List.mem_cons.1 hz with rfl | hz
      · omega
      · have := h1 z hz
        omega
theorem insI_lt {x y : Int} (h : x < y) : ∀ q : List Int, insI x (q ++ [y]) = insI x q ++ [y] := by
  intro q
  induction q with
  | nil => simp only [List.nil_append, insI, if_neg (show ¬ y ≤ x by omega)]; rfl
  | cons z q ih =>
    rw [List.cons_append]
    unfold insI
    by_cases hz : z ≤ x
    · rw [if_pos hz, if_pos hz, ih, List.cons_append]
    · rw [if_neg hz, if_neg hz]
      simp
theorem insI_ge {x : Int} : ∀ {q : List Int}, (∀ z ∈ q, z ≤ x) → insI x q = q ++ [x] := by
  intro q
  induction q with
  | nil => intro _; rfl
  | cons z q ih =>
    intro h
    unfold insI
    rw [if_pos (h z (List.mem_cons_self ..)), ih fun u hu => h u (List.mem_cons_of_mem _ hu), List.cons_append]
theorem sortI_snoc (xs : List Int) (x : Int) : sortI (xs ++ [x]) = insI x (sortI xs) := by
  unfold sortI
  rw [List.foldl_append]
  rfl
theorem sortI_len_asc (xs : List Int) : (sortI xs).length = xs.length ∧ asc (sortI xs) := by
  have go : ∀ (xs p : List Int), asc p → (xs.foldl (fun p x => insI x p) p).length = p.length + xs.length ∧ asc (xs.foldl (fun p x => insI x p) p) := by
    intro xs
    induction xs with
    | nil => intro p hp; exact ⟨rfl, hp⟩
    | cons x xs ih =>
      intro p hp
      obtain ⟨h1, h2⟩ := ih (insI x p) (insI_asc hp)
      refine ⟨?_, h2⟩
      rw [List.foldl_cons, h1, insI_len, List.length_cons]
      omega
  have := go xs [] List.Pairwise.nil
  unfold sortI
  simpa using this
theorem Less_eq (N : Nat) (x y : Int) : cmp_Less_int N x y = some ((ilt x y, ()), ()) := by
  unfold cmp_Less_int cmp_isNaN_int
  simp only [bind_some', ine_f (rfl : x = x), br_f]
theorem rdI_mid (q s : List Int) (x : Int) : rdI (q ++ x :: s) ((q.length : Nat) : Int) = x := by simp [rdI]
theorem tSet_mid (q s : List Int) (x v : Int) : tSet (q ++ x :: s) ((q.length : Nat) : Int) v = q ++ v :: s := by simp [tSet]
theorem insertion_in_eq {R : Type} {N : Nat} (k0 : Int → Int → Int → List Int → Option R) {b i : Int} : ∀ (m : Nat) (q s : List Int) (x : Int) (K : Nat), q.length = m → m < K → (q ++ x :: s).length ≤ 1048576 → asc q →
    slices_insertionSortOrdered_int_l0_0 N k0 K 0 b i (q.length : Int) (q ++ x :: s) = k0 0 b i (insI x q ++ s) := by
  intro m
  induction m with
  | zero =>
    intro q s x K hm hK hl hq
    obtain ⟨k, rfl⟩ := succ_of hK
    have e : q = [] := List.length_eq_zero_iff.1 hm
    subst e
    simp only [slices_insertionSortOrdered_int_l0_0, List.length_nil]
    rw [show ilt 0 ((0 : Nat) : Int) = false from rfl, br_f]
    rfl
  | succ m ih =>
    intro q s x K hm hK hl hq
    obtain ⟨k, rfl⟩ := succ_of hK
    rcases List.eq_nil_or_concat q with rfl | ⟨q', y, e0⟩
    · simp at hm
    · rw [List.concat_eq_append] at e0
      subst e0
      have hm' : q'.length = m := by simpa using hm
      have e1 : ((q' ++ [y]).length : Int) = ((q'.length + 1 : Nat) : Int) := by simp
      have e2 : (q' ++ [y]) ++ x :: s = q' ++ y :: x :: s := by simp
      have hlen : (q' ++ y :: x :: s).length ≤ 1048576 := by rw [← e2]; exact hl
      have hb : q'.length + 1 < (q' ++ y :: x :: s).length := by simp
      have hb0 : q'.length < (q' ++ y :: x :: s).length := by omega
      have hpred : IntKind.i64.wrap (((q'.length + 1 : Nat) : Int) - 1) = ((q'.length : Nat) : Int) := by
        rw [wrap_pred (by omega) (by omega)]
        rfl
      have r1 : rdI (q' ++ y :: x :: s) ((q'.length + 1 : Nat) : Int) = x := by
        have := rdI_mid (q' ++ [y]) s x
        rw [e1, e2] at this
        exact this
      have r2 : rdI (q' ++ y :: x :: s) ((q'.length : Nat) : Int) = y := rdI_mid q' (x :: s) y
      have s1 : ∀ v, tSet (q' ++ y :: x :: s) ((q'.length + 1 : Nat) : Int) v = q' ++ y :: v :: s := by
        intro v
        have := tSet_mid (q' ++ [y]) s x v
        rw [e1, e2] at this
        rw [this]
        simp
      have hb0' : q'.length < (q' ++ y :: y :: s).length := by simp
      rw [e1, e2]
      simp only [slices_insertionSortOrdered_int_l0_0, ilt_0 (show 0 < q'.length + 1 by omega), br_t, hpred, inb_n hb, inb_n hb0, chk_t, r1, r2, Less_eq, bind_some', s1, inb_n hb0', tSet_mid]
      by_cases hxy : x < y
      · rw [ilt_t hxy, br_t, ih q' (y :: s) x k hm' (by omega) (by simp at hlen ⊢; omega) (List.pairwise_append.1 hq).1, insI_lt hxy]
        simp
      · rw [ilt_f hxy, br_f]
        have : ∀ z ∈ q' ++ [y], z ≤ x := by
          intro z hz
          rcases List.mem_append.1 hz with h | h
          · have := (List.pairwise_append.1 hq).2.2 z h y (by simp)
            omega
          · simp at h
            omega
        rw [insI_ge this]
        simp
theorem insertion_eq {N : Nat} {xs : List Int} (hx : xs.length ≤ 1048576) (hN : 1048577 ≤ N) : slices_insertionSortOrdered_int N xs 0 (xs.length : Int) = some ((), (sortI xs, ())) := by
  have go : ∀ (d i K : Nat), i + d = xs.length → d < K → slices_insertionSortOrdered_int_l0 N (fun o => some ((), (o, ()))) K 0 (xs.length : Int) i (sortI (xs.take i) ++ xs.drop i) = some ((), (sortI xs, ())) := by
    intro d
    induction d with
    | zero =>
      intro i K hd hK
      obtain ⟨k, rfl⟩ := succ_of hK
      simp only [slices_insertionSortOrdered_int_l0, ilt_nf (show ¬ i < xs.length by omega), br_f]
      rw [List.take_of_length_le (by omega), List.drop_of_length_le (by omega), List.append_nil]
    | succ d ih =>
      intro i K hd hK
      obtain ⟨k, rfl⟩ := succ_of hK
      have hi : i < xs.length := by omega
      obtain ⟨h1, h2⟩ := sortI_len_asc (xs.take i)
      have hli : (sortI (xs.take i)).length = i := by rw [h1, List.length_take]; omega
      simp only [slices_insertionSortOrdered_int_l0, ilt_n hi, br_t]
      have := insertion_in_eq (N := N) (fun a2 b2 i1 o1 => slices_insertionSortOrdered_int_l0 N (fun o => some ((), (o, ()))) k a2 b2 (IntKind.i64.wrap (i1 + 1)) o1) (b := (xs.length : Int)) (i := (i : Int)) i (sortI (xs.take i)) (xs.drop (i + 1)) xs[i] N hli (by omega) (by simp [hli]; omega) h2
      rw [hli, ← drop_cons hi] at this
      rw [this, wrap_succ (by omega), ← sortI_snoc, ← ih (i + 1) k (by omega) (by omega), List.take_add_one, List.getElem?_eq_getElem hi]
      rfl
  unfold slices_insertionSortOrdered_int
  rw [show IntKind.i64.wrap (0 + 1) = ((1 : Nat) : Int) from rfl]
  cases xs with
  | nil =>
    obtain ⟨k, rfl⟩ : ∃ k, N = k + 1 := ⟨N - 1, by omega⟩
    rfl
  | cons x xs =>
    have := go xs.length 1 N (by simp; omega) (by simp at hx; omega)
    exact this
theorem lenTab (n : Nat) (h : n < 256) : strIn str0 (n : Int) = true := by
  unfold strIn
  rw [ile_t (by omega), Bool.true_and, show str0.size = 256 by kernel_rfl]
  exact ilt_t (by omega)
theorem bitsLen_ex (N : Nat) {n : Nat} (h : n ≤ 12) : ∃ r : Int, math_bits_Len N (IntKind.u64.wrap (n : Int)) = some ((r, ()), ()) := by
  have e : IntKind.u64.wrap (n : Int) = (n : Int) := by
    unfold IntKind.wrap
    simp only [IntKind.bits, IntKind.signed, Bool.false_and]
    have : (n : Int) % (2 ^ 64 : Int) = n := Int.emod_eq_of_lt (by omega) (by omega)
    rw [this]
    rfl
  have e8 : IntKind.u8.wrap (n : Int) = (n : Int) := by
    unfold IntKind.wrap
    simp only [IntKind.bits, IntKind.signed, Bool.false_and]
    have : (n : Int) % (2 ^ 8 : Int) = n := Int.emod_eq_of_lt (by omega) (by omega)
    rw [this]
    rfl
  unfold math_bits_Len math_bits_Len64
  rw [e, ile_f (show ¬ (4294967296 : Int) ≤ n by omega), ile_f (show ¬ (65536 : Int) ≤ n by omega), ile_f (show ¬ (256 : Int) ≤ n by omega), br_f, br_f, br_f, e8, lenTab n (by omega), chk_t]
  exact ⟨_, rfl⟩
theorem Sort_eq {N : Nat} {xs : List Int} (hx : xs.length ≤ 12) (hN : 1048577 ≤ N) : slices_Sort_LI_int N xs = some ((), (sortI xs, ())) := by
  obtain ⟨r, hr⟩ := bitsLen_ex N hx
  obtain ⟨k, hk⟩ : ∃ k, N = k + 1 := ⟨N - 1, by omega⟩
  have hp : slices_pdqsortOrdered_int_l0 N (fun o => some ((), (o, ()))) (k + 1) 0 (xs.length : Int) r true true xs = some ((), (sortI xs, ())) := by
    simp only [slices_pdqsortOrdered_int_l0]
    rw [wrap_ok (by omega) (by omega), ile_t (by omega), br_t, insertion_eq (by omega) hN]
    rfl
  unfold slices_Sort_LI_int slices_pdqsortOrdered_int
  rw [tLen_n, hr]
  simp only [bind_some']
  rw [← hk] at hp
  rw [hp]
  rfl
def allB (m : Nat) : List (List Int) := (List.range (2 ^ m)).map fun n => (List.range m).map fun v => ((n / 2 ^ (m - 1 - v) % 2 : Nat) : Int)
theorem allB_spec0 : spec_l6All 1048577 ((0 : Nat) : Int) = some ((allB 0, ()), ()) := by kernel_rfl
theorem allB_spec1 : spec_l6All 1048577 ((1 : Nat) : Int) = some ((allB 1, ()), ()) := by kernel_rfl
theorem allB_spec2 : spec_l6All 1048577 ((2 : Nat) : Int) = some ((allB 2, ()), ()) := by kernel_rfl
theorem allB_spec3 : spec_l6All 1048577 ((3 : Nat) : Int) = some ((allB 3, ()), ()) := by kernel_rfl
theorem allB_spec4 : spec_l6All 1048577 ((4 : Nat) : Int) = some ((allB 4, ()), ()) := by kernel_rfl
theorem allB_spec5 : spec_l6All 1048577 ((5 : Nat) : Int) = some ((allB 5, ()), ()) := by kernel_rfl
theorem allB_spec6 : spec_l6All 1048577 ((6 : Nat) : Int) = some ((allB 6, ()), ()) := by kernel_rfl
theorem allB_spec : ∀ m : Nat, m ≤ 6 → spec_l6All 1048577 (m : Int) = some ((allB m, ()), ())
  | 0, _ => allB_spec0
  | 1, _ => allB_spec1
  | 2, _ => allB_spec2
  | 3, _ => allB_spec3
  | 4, _ => allB_spec4
  | 5, _ => allB_spec5
  | 6, _ => allB_spec6
theorem allB_impl0 : impl_assignments 1048577 ((0 : Nat) : Int) (fun y0 => (impl_formulaOf_c1 1048577 y0).bind fun z => some z.1.1) = some ((allB 0, ()), ()) := by kernel_rfl
theorem allB_impl1 : impl_assignments 1048577 ((1 : Nat) : Int) (fun y0 => (impl_formulaOf_c1 1048577 y0).bind fun z => some z.1.1) = some ((allB 1, ()), ()) := by kernel_rfl
theorem allB_impl2 : impl_assignments 1048577 ((2 : Nat) : Int) (fun y0 => (impl_formulaOf_c1 1048577 y0).bind fun z => some z.1.1) = some ((allB 2, ()), ()) := by kernel_rfl
theorem allB_impl3 : impl_assignments 1048577 ((3 : Nat) : Int) (fun y0 => (impl_formulaOf_c1 1048577 y0).bind fun z => some z.1.1) = some ((allB 3, ()), ()) := by kernel_rfl
theorem allB_impl4 : impl_assignments 1048577 ((4 : Nat) : Int) (fun y0 => (impl_formulaOf_c1 1048577 y0).bind fun z => some z.1.1) = some ((allB 4, ()), ()) := by kernel_rfl
theorem allB_impl5 : impl_assignments 1048577 ((5 : Nat) : Int) (fun y0 => (impl_formulaOf_c1 1048577 y0).bind fun z => some z.1.1) = some ((allB 5, ()), ()) := by kernel_rfl
theorem allB_impl6 : impl_assignments 1048577 ((6 : Nat) : Int) (fun y0 => (impl_formulaOf_c1 1048577 y0).bind fun z => some z.1.1) = some ((allB 6, ()), ()) := by kernel_rfl
theorem allB_impl : ∀ m : Nat, m ≤ 6 → impl_assignments 1048577 (m : Int) (fun y0 => (impl_formulaOf_c1 1048577 y0).bind fun z => some z.1.1) = some ((allB m, ()), ())
  | 0, _ => allB_impl0
  | 1, _ => allB_impl1
  | 2, _ => allB_impl2
  | 3, _ => allB_impl3
  | 4, _ => allB_impl4
  | 5, _ => allB_impl5
  | 6, _ => allB_impl6
theorem allB_len (m : Nat) : (allB m).length = 2 ^ m := by simp [allB]
theorem allB_row {m : Nat} {b : List Int} (h : b ∈ allB m) : b.length = m := by
  unfold allB at h
  obtain ⟨n, _, rfl⟩ := List.mem_map.1 h
  simp
def negF (bits : List Int) : Nat → List Int
  | 0 => []
  | n + 1 => (if rdI bits n = 1 then [-1 - (n : Int)] else []) ++ negF bits n
def posF (bits : List Int) : Nat → Nat → List Int
  | _, 0 => []
  | n, d + 1 => (if rdI bits n = 0 then [(n : Int) + 1] else []) ++ posF bits (n + 1) d
def bothF (bits : List Int) : Nat → Nat → List Int
  | _, 0 => []
  | n, d + 1 => (if rdI bits n = 1 then [-1 - (n : Int)] else [(n : Int) + 1]) ++ bothF bits (n + 1) d
def clauseF (bits : List Int) : List Int := negF bits bits.length ++ posF bits 0 bits.length
theorem negF_len (bits : List Int) : ∀ n, (negF bits n).length ≤ n := by
  intro n
  induction n with
  | zero => exact Nat.le_refl _
  | succ n ih =>
    unfold negF
    by_cases h : rdI bits n = 1 <;> simp [h] <;> omega
theorem posF_len (bits : List Int) : ∀ d n, (posF bits n d).length ≤ d := by
  intro d
  induction d with
  | zero => intro n; exact Nat.le_refl _
  | succ d ih =>
    intro n
    have := ih (n + 1)
    unfold posF
    by_cases h : rdI bits n = 0 <;> simp [h] <;> omega
theorem bothF_len (bits : List Int) : ∀ d n, (bothF bits n d).length = d := by
  intro d
  induction d with
  | zero => intro n; rfl
  | succ d ih =>
    intro n
    unfold bothF
    by_cases h : rdI bits n = 1 <;> simp [h, ih] <;> omega
theorem Equal_eq {N : Nat} {a b : List Int} (hx : a.length ≤ 1048576) (hN : 1048577 ≤ N) : slices_Equal_LI_int N a b = some ((decide (a = b), ()), ()) := by
  unfold slices_Equal_LI_int
  rw [tLen_n, tLen_n]
  by_cases hl : a.length = b.length
  · rw [ine_f (by omega), br_f]
    have := loop_all_if (P := a = b) (m := a.length) (L := fun K i => slices_Equal_LI_int_l0 N (fun x => some ((x, ()), ())) (fun (_ : Unit) => some ((true, ()), ())) K a b (a.length : Int) i) (fun i => rdI a i = rdI b i) ⟨fun h i _ => by rw [h], fun h => List.ext_getElem hl fun i h1 h2 => by have := h i h1; rwa [rdI_n h1, rdI_n h2] at this⟩ (kt := some ((true, ()), ())) (kf := some ((false, ()), ())) (fun K n hn => ?_) (fun K n hn hp => ?_) (fun K n hn hp => ?_) (show a.length < N by omega)
    · rw [show ((0 : Nat) : Int) = 0 from rfl] at this
      rw [this]
      by_cases h : a = b <;> simp [h]
    · simp only [slices_Equal_LI_int_l0, ilt_nf hn, br_f]
    · simp only [slices_Equal_LI_int_l0, ilt_n hn, inb_n hn, inb_n (show n < b.length by omega), br_t, chk_t]
      rw [ine_f hp, br_f, wrap_succ (by omega)]
    · simp only [slices_Equal_LI_int_l0, ilt_n hn, inb_n hn, inb_n (show n < b.length by omega), br_t, chk_t]
      rw [ine_t hp, br_t]
  · rw [ine_t (by omega), br_t]
    have : a ≠ b := fun h => hl (by rw [h])
    simp [this]
theorem l1Same_eq {N : Nat} {a b : List Int} (hx : a.length ≤ 1048576) (hN : 1048577 ≤ N) : spec_l1Same N a b = some ((decide (a = b), ()), ()) := by
  unfold spec_l1Same
  rw [tLen_n, tLen_n]
  by_cases hl : a.length = b.length
  · rw [ine_f (by omega), br_f]
    have := loop_all_if (P := a = b) (m := a.length) (L := fun K i => spec_l1Same_l0 N (fun x => some ((x, ()), ())) (fun (_ : Unit) => some ((true, ()), ())) K a b i) (fun i => rdI a i = rdI b i) ⟨fun h i _ => by rw [h], fun h => List.ext_getElem hl fun i h1 h2 => by have := h i h1; rwa [rdI_n h1, rdI_n h2] at this⟩ (kt := some ((true, ()), ())) (kf := some ((false, ()), ())) (fun K n hn => ?_) (fun K n hn hp => ?_) (fun K n hn hp => ?_) (show a.length < N by omega)
    · rw [show ((0 : Nat) : Int) = 0 from rfl] at this
      rw [this]
      by_cases h : a = b <;> simp [h]
    · simp only [spec_l1Same_l0, ilt_lenf hn, br_f]
    · simp only [spec_l1Same_l0, ilt_len hn, inb_n hn, inb_n (show n < b.length by omega), br_t, chk_t]
      rw [ine_f hp, br_f, wrap_succ (by omega)]
    · simp only [spec_l1Same_l0, ilt_len hn, inb_n hn, inb_n (show n < b.length by omega), br_t, chk_t]
      rw [ine_t hp, br_t]
  · rw [ine_t (by omega), br_t]
    have : a ≠ b := fun h => hl (by rw [h])
    simp [this]
theorem l6Listed_eq {N : Nat} {ss : List (List Int)} {b : List Int} (hx : ss.length ≤ 1048576) (hs : ∀ s ∈ ss, s.length ≤ 1048576) (hN : 1048577 ≤ N) : spec_l6Listed N ss b = some ((decide (b ∈ ss), ()), ()) := by
  unfold spec_l6Listed
  have := loop_all_if (P := ∀ x ∈ ss, x ≠ b) (m := ss.length) (L := fun K i => spec_l6Listed_l0 N (fun x => some ((x, ()), ())) (fun (_ : Unit) => some ((false, ()), ())) K ss b i) (fun i => rdL ss i ≠ b) all_rdL (kt := some ((false, ()), ())) (kf := some ((true, ()), ())) (fun K n hn => ?_) (fun K n hn hp => ?_) (fun K n hn hp => ?_) (show ss.length < N by omega)
  · rw [show ((0 : Nat) : Int) = 0 from rfl] at this
    rw [this]
    by_cases h : b ∈ ss
    · rw [if_neg (fun h' => h' b h rfl), decide_eq_true h]
    · rw [if_pos (fun x hx (h' : x = b) => h (h' ▸ hx)), decide_eq_false h]
  · simp only [spec_l6Listed_l0, ilt_lenf hn, br_f]
  · simp only [spec_l6Listed_l0, ilt_len hn, br_t, inb_n hn, chk_t, l1Same_eq (rdL_len hs n) hN, bind_some']
    rw [decide_eq_false hp, br_f, wrap_succ (by omega)]
  · simp only [spec_l6Listed_l0, ilt_len hn, br_t, inb_n hn, chk_t, l1Same_eq (rdL_len hs n) hN, bind_some']
    rw [decide_eq_true (Decidable.not_not.1 hp), br_t]
theorem Formula_neg_eq {R : Type} {N : Nat} (k0 : Int → List (List Int) → List (List Int) → Int → Int → Int → List Int → List (List Int) → Option R) {x4 : Int} {x5 x6 : List (List Int)} {i : Nat} {o3 o4 : Int} {o6 : List (List Int)} (hi : i < x6.length) (hb : (rdL x6 i).length ≤ 1048576) : ∀ (n K : Nat) (o5 : List Int), n < K → n ≤ (rdL x6 i).length → o5.length + n ≤ 1048576 →
    spec_l6Formula_l0_0 N k0 K x4 x5 x6 i ((n : Int) - 1) o3 o4 o5 o6 = k0 x4 x5 x6 i o3 o4 (o5 ++ negF (rdL x6 i) n) o6 := by
  intro n
  induction n with
  | zero =>
    intro K o5 hK hn ho
    obtain ⟨k, rfl⟩ := succ_of hK
    simp only [spec_l6Formula_l0_0]
    rw [ile_f (by omega), br_f]
    simp [negF]
  | succ n ih =>
    intro K o5 hK hn ho
    obtain ⟨k, rfl⟩ := succ_of hK
    have e : ((n + 1 : Nat) : Int) - 1 = (n : Int) := by omega
    rw [e]
    simp only [spec_l6Formula_l0_0]
    rw [ile_t (by omega), br_t, inb_n hi, chk_t, inb_n (by omega), chk_t, wrap_ok (show -9223372036854775808 ≤ (n : Int) - 1 by omega) (by omega), wrap_ok (show -9223372036854775808 ≤ -1 - (n : Int) by omega) (by omega), room_ok (by simp; omega), chk_t, ih k o5 (by omega) (by omega) (by omega), ih k _ (by omega) (by omega) (by simp [tApp]; omega), br_ite, ieq_d]
    by_cases h : rdI (rdL x6 i) n = 1
    · rw [if_pos (decide_eq_true h)]
      simp [negF, h, tApp]
    · rw [if_neg (by simpa using h)]
      simp [negF, h]
theorem Formula_pos_eq {R : Type} {N : Nat} (k0 : Int → List (List Int) → List (List Int) → Int → Int → Int → List Int → List (List Int) → Option R) {m : Nat} {x9 x10 : List (List Int)} {i : Nat} {o7 o8 : Int} {o10 : List (List Int)} (hi : i < x10.length) (hb : (rdL x10 i).length ≤ 1048576) (hm : (rdL x10 i).length = m) : ∀ (d n K : Nat) (o9 : List Int), n + d = m → d < K → o9.length + d ≤ 1048576 * 2 →
    spec_l6Formula_l0_1 N k0 K (m : Int) x9 x10 i n o7 o8 o9 o10 = k0 (m : Int) x9 x10 i o7 o8 (o9 ++ posF (rdL x10 i) n d) o10 := by
  intro d
  induction d with
  | zero =>
    intro n K o9 hd hK ho
    obtain ⟨k, rfl⟩ := succ_of hK
    simp only [spec_l6Formula_l0_1]
    rw [ilt_nf (by omega), br_f]
    simp [posF]
  | succ d ih =>
    intro n K o9 hd hK ho
    obtain ⟨k, rfl⟩ := succ_of hK
    simp only [spec_l6Formula_l0_1]
    rw [ilt_n (by omega), br_t, inb_n hi, chk_t, inb_n (by omega), chk_t, wrap_succ (by omega), room_ok (by simp; omega), chk_t, ih (n + 1) k o9 (by omega) (by omega) (by omega), ih (n + 1) k _ (by omega) (by omega) (by simp [tApp]; omega), br_ite, ieq_d]
    by_cases h : rdI (rdL x10 i) n = 0
    · rw [if_pos (decide_eq_true h)]
      simp [posF, h, tApp]
    · rw [if_neg (by simpa using h)]
      simp [posF, h]
theorem formula_both_eq {R : Type} {N : Nat} (k0 : List (List Int) → List (List Int) → Int → Int → Int → Int → List Int → List (List Int) → Option R) {x2 x3 : List (List Int)} {x4 x5 o3 o4 : Int} {x6 : List Int} {o6 : List (List Int)} (hb : x6.length ≤ 1048576) : ∀ (d n K : Nat) (o5 : List Int), n + d = x6.length → d < K → o5.length + d ≤ 1048576 →
    impl_formulaOf_l0_0 N k0 K x2 x3 x4 x5 x6 (x6.length : Int) n o3 o4 o5 o6 = k0 x2 x3 x4 x5 o3 o4 (o5 ++ bothF x6 n d) o6 := by
  intro d
  induction d with
  | zero =>
    intro n K o9 hd hK ho
    obtain ⟨k, rfl⟩ := succ_of hK
    simp only [impl_formulaOf_l0_0]
    rw [ilt_nf (by omega), br_f]
    simp [bothF]
  | succ d ih =>
    intro n K o9 hd hK ho
    obtain ⟨k, rfl⟩ := succ_of hK
    have e : IntKind.i64.wrap ((n : Int) + 1) = ((n + 1 : Nat) : Int) := wrap_succ (by omega)
    simp only [impl_formulaOf_l0_0]
    rw [ilt_n (by omega), br_t, inb_n (by omega), chk_t, e, wrap_ok (show -9223372036854775808 ≤ -1 - (n : Int) by omega) (by omega), room_ok (by simp; omega), room_ok (by simp; omega), chk_t, chk_t, ih (n + 1) k _ (by omega) (by omega) (by simp [tApp]; omega), ih (n + 1) k _ (by omega) (by omega) (by simp [tApp]; omega), br_ite, ieq_d]
    by_cases h : rdI x6 n = 1
    · rw [if_pos (decide_eq_true h)]
      simp [bothF, h, tApp]
    · rw [if_neg (by simpa using h)]
      simp [bothF, h, tApp]
theorem clause_sorted {m : Nat} (hm : m ≤ 6) {b : List Int} (h : b ∈ allB m) : sortI (bothF b 0 b.length) = clauseF b := by
  have hc : ((List.range 7).all fun m => (allB m).all fun b => decide (sortI (bothF b 0 b.length) = clauseF b)) = true := by kernel_rfl
  have h1 := List.all_eq_true.1 hc m (List.mem_range.2 (by omega))
  have h2 := List.all_eq_true.1 h1 b h
  exact of_decide_eq_true h2
end Go.Proofs.Ythkejedgfhjdiaa
