/- Statements on data alone. -/
import Derived.Test.YtfilchmabmfmaaaPvPure
import Derived.Test.YtfilchmabmfmaaaIsClosedFb
set_option linter.all false
set_option linter.all false
namespace Go.Proofs.Ytfilchmabmfmaaa
open Go Go.PV Classical
theorem toIntS_l0_eq {R : Type} (N : Nat) (k0 : List Int → Option R) (xs : List Int) (hx : xs.length ≤ 1099511627776) : ∀ (d n : Nat) (o : List Int) (K : Nat), n + d = xs.length → d < K → o.length = xs.length →
    Zq18_l0 N k0 K xs n o = k0 (o.take n ++ xs.drop n) := by
  intro d
  induction d with
  | zero =>
    intro n o K hd hK ho
    obtain ⟨k, rfl⟩ := succ_of hK
    have hn : ¬ n < xs.length := by omega
    simp only [Zq18_l0, ilt_lenf hn, br_f]
    rw [List.take_of_length_le (by omega), List.drop_of_length_le (by omega), List.append_nil]
  | succ d ih =>
    intro n o K hd hK ho
    obtain ⟨k, rfl⟩ := succ_of hK
    have hn : n < xs.length := by omega
    have hno : n < o.length := by omega
    simp only [Zq18_l0, ilt_len hn, inb_n hn, inb_n hno, br_t, chk_t]
    rw [wrap_succ (by omega), tSet_n, rdI_n hn, ih (n + 1) _ k (by omega) (by omega) (by simpa using ho)]
    congr 1
    rw [drop_cons hn, List.take_add_one, List.getElem?_set_self (by omega), List.take_set_of_le (Nat.le_refl n)]
    simp
theorem toIntS_eq {N : Nat} {xs : List Int} (hx : xs.length ≤ 1048576) (hN : 1048577 ≤ N) : Zq18 N xs = some ((xs, ()), ()) := by
  unfold Zq18
  simp only [tLen_n, ile_t (show (0 : Int) ≤ (xs.length : Int) by omega), ile_t (Int.le_refl _), fits_ok (show xs.length ≤ 1099511627776 by omega), Bool.and_self, chk_t]
  have := toIntS_l0_eq N (fun o => some ((o, ()), ())) xs (by omega) xs.length 0 (tRep (xs.length : Int) 0) N (by omega) (by omega) (by simp [tRep])
  simp only [Int.natCast_zero, List.take_zero, List.drop_zero, List.nil_append] at this
  exact this
theorem eqIntS_l0_eq {R : Type} (N : Nat) (k0 : Bool → Option R) (k1 : Unit → Option R) (a b : List Int) (hx : a.length ≤ 1099511627776) (hl : a.length = b.length) : ∀ (d n : Nat) (K : Nat), n + d = a.length → d < K →
    Zq12_l0 N k0 k1 K a b n = if a.drop n = b.drop n then k1 () else k0 false := by
  intro d
  induction d with
  | zero =>
    intro n K hd hK
    obtain ⟨k, rfl⟩ := succ_of hK
    have hn : ¬ n < a.length := by omega
    simp only [Zq12_l0, ilt_lenf hn, br_f]
    rw [if_pos]
    rw [List.drop_of_length_le (by omega), List.drop_of_length_le (by omega)]
  | succ d ih =>
    intro n K hd hK
    obtain ⟨k, rfl⟩ := succ_of hK
    have hn : n < a.length := by omega
    have hnb : n < b.length := by omega
    simp only [Zq12_l0, ilt_len hn, inb_n hn, inb_n hnb, br_t, chk_t]
    rw [wrap_succ (by omega), rdI_n hn, rdI_n hnb, ih (n + 1) k (by omega) (by omega), drop_cons hn, drop_cons hnb]
    by_cases he : a[n] = b[n]
    · rw [ine_f he, br_f, he]
      simp only [List.cons.injEq, true_and]
    · rw [ine_t he, br_t, if_neg]
      intro h
      injection h with h _
      exact he h
theorem eqIntS_eq {N : Nat} {a b : List Int} (hx : a.length ≤ 1099511627776) (hN : a.length < N) : Zq12 N a b = some ((decide (a = b), ()), ()) := by
  unfold Zq12
  simp only [tLen_n]
  by_cases hl : a.length = b.length
  · rw [ine_f (by omega), br_f]
    have := eqIntS_l0_eq N (fun x => some ((x, ()), ())) (fun _ => some ((true, ()), ())) a b hx hl a.length 0 N (by omega) (by omega)
    simp only [Int.natCast_zero, List.drop_zero] at this
    rw [this]
    by_cases h : a = b <;> simp [h]
  · rw [ine_t (by omega), br_t]
    have : a ≠ b := fun h => hl (by rw [h])
    simp [this]

theorem szIntS_eq (N : Nat) {xs : List Int} {left : Int} (hl : 0 ≤ left ∧ left ≤ 1048576) (hx : xs.length ≤ 9223372036854775807) : Zq15 N xs left = some ((if (xs.length : Int) ≤ left then left - xs.length else -1, ()), ()) := by
  unfold Zq15
  rw [tLen_n, wrap_ok (by omega) (by omega)]
  by_cases h : (xs.length : Int) ≤ left
  · rw [ilt_f (by omega), br_f, if_pos h]
  · rw [ilt_t (by omega), br_t, if_neg h]
def szL : List (List Int) → Int → Int
  | [], l => l
  | x :: xs, l => if (x.length : Int) ≤ l then szL xs (l - x.length) else -1
theorem szL_le : ∀ (xs : List (List Int)) (l : Int), 0 ≤ l → 0 ≤ szL xs l → szL xs l ≤ l ∧ ∀ x ∈ xs, (x.length : Int) ≤ l := by
  intro xs
  induction xs with
  | nil => intro l h _; exact ⟨Int.le_refl l, by simp⟩
  | cons x xs ih =>
    intro l h0 h
    unfold szL at h ⊢
    by_cases hx : (x.length : Int) ≤ l
    · rw [if_pos hx] at h ⊢
      obtain ⟨h1, h2⟩ := ih _ (by omega) h
      refine ⟨by omega, fun y hy => ?_⟩
      rcases List.mem_cons.1 hy with rfl | hy
      · exact hx
      · have := h2 y hy
        omega
    · rw [if_neg hx] at h
      omega
theorem szIntSS_l0_eq {R : Type} (N : Nat) (k0 k1 : Int → Option R) (xs : List (List Int)) (hx : ∀ x ∈ xs, x.length ≤ 9223372036854775807) (hl : xs.length ≤ 1048576) : ∀ (d n : Nat) (left : Int) (K : Nat), n + d = xs.length → d < K → 0 ≤ left → left ≤ 1048576 →
    Zq16_l0 N k0 k1 K xs left n = if 0 ≤ szL (xs.drop n) left then k1 (szL (xs.drop n) left) else k0 (-1) := by
  intro d
  induction d with
  | zero =>
    intro n left K hd hK h0 h1
    obtain ⟨k, rfl⟩ := succ_of hK
    have hn : ¬ n < xs.length := by omega
    simp only [Zq16_l0, ilt_lenf hn, br_f]
    rw [List.drop_of_length_le (by omega)]
    simp [szL, h0]
  | succ d ih =>
    intro n left K hd hK h0 h1
    obtain ⟨k, rfl⟩ := succ_of hK
    have hn : n < xs.length := by omega
    simp only [Zq16_l0, ilt_len hn, inb_n hn, br_t, chk_t]
    obtain ⟨y, r, e1, e2, e3⟩ := drop_split hn
    have hy := hx _ (List.getElem_mem hn)
    rw [rdL_n hn, e2] at *
    rw [e2] at hy
    rw [szIntS_eq N ⟨h0, h1⟩ hy, bind_some', e1]
    unfold szL
    by_cases h : (y.length : Int) ≤ left
    · simp only [if_pos h]
      rw [ilt_f (by omega), br_f, wrap_succ (by omega), ih (n + 1) _ k (by omega) (by omega) (by omega) (by omega), e3]
    · simp only [if_neg h]
      rw [ilt_t (by omega), br_t, if_neg (by omega)]
theorem szIntSS_eq {N : Nat} {xs : List (List Int)} {left : Int} (h0 : 0 ≤ left ∧ left ≤ 1048576) (hx : xs.length ≤ 9223372036854775807) (hxs : ∀ x ∈ xs, x.length ≤ 9223372036854775807) (hN : 1048577 ≤ N) :
    ∃ r : Int, Zq16 N xs left = some ((r, ()), ()) ∧ (0 ≤ r → r ≤ left ∧ (xs.length : Int) ≤ left ∧ ∀ x ∈ xs, (x.length : Int) ≤ left) := by
  unfold Zq16
  rw [tLen_n, wrap_ok (by omega) (by omega)]
  by_cases h : (xs.length : Int) ≤ left
  · rw [ilt_f (by omega), br_f]
    have := szIntSS_l0_eq N (fun x => some ((x, ()), ())) (fun left1 => some ((left1, ()), ())) xs hxs (by omega) xs.length 0 (left - xs.length) N (by omega) (by omega) (by omega) (by omega)
    simp only [Int.natCast_zero, List.drop_zero] at this
    rw [this]
    by_cases hs : 0 ≤ szL xs (left - xs.length)
    · rw [if_pos hs]
      obtain ⟨h1, h2⟩ := szL_le xs _ (by omega) hs
      exact ⟨_, rfl, fun _ => ⟨by omega, h, fun x hx => by have := h2 x hx; omega⟩⟩
    · rw [if_neg hs]
      exact ⟨_, rfl, fun h => by omega⟩
  · rw [ilt_t (by omega), br_t]
    exact ⟨_, rfl, fun h => by omega⟩
theorem szFormula_eq {N : Nat} {f : Int × List (List Int)} (hx : f.2.length ≤ 9223372036854775807) (hxs : ∀ x ∈ f.2, x.length ≤ 9223372036854775807) (hN : 1048577 ≤ N) :
    ∃ r : Int, Zq14 N f 1048576 = some ((r, ()), ()) ∧ (0 ≤ r → f.2.length ≤ 1048576 ∧ ∀ x ∈ f.2, x.length ≤ 1048576) := by
  obtain ⟨r, h1, h2⟩ := szIntSS_eq (left := 1048576) (by omega) hx hxs hN
  unfold Zq14
  simp only [h1, bind_some']
  by_cases h : 0 ≤ r
  · rw [ilt_f (by omega), br_f]
    obtain ⟨_, h3, h4⟩ := h2 h
    exact ⟨r, rfl, fun _ => ⟨by omega, fun x hx => by have := h4 x hx; omega⟩⟩
  · rw [ilt_t (by omega), br_t]
    exact ⟨-1, rfl, fun h => by omega⟩
theorem toIntSS_l0_eq {R : Type} (N : Nat) (k0 : List (List Int) → Option R) (xs : List (List Int)) (hx : xs.length ≤ 1048576) (hxs : ∀ x ∈ xs, x.length ≤ 1048576) (hN : 1048577 ≤ N) : ∀ (d n : Nat) (o : List (List Int)) (K : Nat), n + d = xs.length → d < K → o.length = xs.length →
    Zq19_l0 N k0 K xs n o = k0 (o.take n ++ xs.drop n) := by
  intro d
  induction d with
  | zero =>
    intro n o K hd hK ho
    obtain ⟨k, rfl⟩ := succ_of hK
    have hn : ¬ n < xs.length := by omega
    simp only [Zq19_l0, ilt_lenf hn, br_f]
    rw [List.take_of_length_le (by omega), List.drop_of_length_le (by omega), List.append_nil]
  | succ d ih =>
    intro n o K hd hK ho
    obtain ⟨k, rfl⟩ := succ_of hK
    have hn : n < xs.length := by omega
    have hno : n < o.length := by omega
    simp only [Zq19_l0, ilt_len hn, inb_n hn, inb_n hno, br_t, chk_t]
    rw [rdL_n hn, toIntS_eq (hxs _ (List.getElem_mem hn)) hN, bind_some', wrap_succ (by omega), tSet_n, ih (n + 1) _ k (by omega) (by omega) (by simpa using ho)]
    congr 1
    rw [drop_cons hn, List.take_add_one, List.getElem?_set_self (by omega), List.take_set_of_le (Nat.le_refl n)]
    simp
theorem toIntSS_eq {N : Nat} {xs : List (List Int)} (hx : xs.length ≤ 1048576) (hxs : ∀ x ∈ xs, x.length ≤ 1048576) (hN : 1048577 ≤ N) : Zq19 N xs = some ((xs, ()), ()) := by
  unfold Zq19
  simp only [tLen_n, ile_t (show (0 : Int) ≤ (xs.length : Int) by omega), ile_t (Int.le_refl _), fits_ok (show xs.length ≤ 1099511627776 by omega), Bool.and_self, chk_t]
  have := toIntSS_l0_eq N (fun o => some ((o, ()), ())) xs hx hxs hN xs.length 0 (tRep (xs.length : Int) []) N (by omega) (by omega) (by simp [tRep])
  simp only [Int.natCast_zero, List.take_zero, List.drop_zero, List.nil_append] at this
  exact this
theorem toFormula_eq {N : Nat} {f : Int × List (List Int)} (hx : f.2.length ≤ 1048576) (hxs : ∀ x ∈ f.2, x.length ≤ 1048576) (hN : 1048577 ≤ N) : Zq17 N f = some ((f, ()), ()) := by
  unfold Zq17
  rw [toIntSS_eq hx hxs hN, bind_some']
theorem eqIntSS_l0_eq {R : Type} (N : Nat) (k0 : Bool → Option R) (k1 : Unit → Option R) (a b : List (List Int)) (hx : a.length ≤ 1099511627776) (hxs : ∀ x ∈ a, x.length ≤ 1048576) (hN : 1048577 ≤ N) (hl : a.length = b.length) : ∀ (d n : Nat) (K : Nat), n + d = a.length → d < K →
    Zq13_l0 N k0 k1 K a b n = if a.drop n = b.drop n then k1 () else k0 false := by
  intro d
  induction d with
  | zero =>
    intro n K hd hK
    obtain ⟨k, rfl⟩ := succ_of hK
    have hn : ¬ n < a.length := by omega
    simp only [Zq13_l0, ilt_lenf hn, br_f]
    rw [if_pos]
    rw [List.drop_of_length_le (by omega), List.drop_of_length_le (by omega)]
  | succ d ih =>
    intro n K hd hK
    obtain ⟨k, rfl⟩ := succ_of hK
    have hn : n < a.length := by omega
    have hnb : n < b.length := by omega
    simp only [Zq13_l0, ilt_len hn, inb_n hn, inb_n hnb, br_t, chk_t]
    have ha := hxs _ (List.getElem_mem hn)
    rw [wrap_succ (by omega), rdL_n hn, rdL_n hnb, eqIntS_eq (by omega) (by omega), bind_some', ih (n + 1) k (by omega) (by omega), drop_cons hn, drop_cons hnb, br_ite]
    by_cases he : a[n] = b[n]
    · rw [he, if_neg (by simp)]
      simp only [List.cons.injEq, true_and]
    · rw [if_pos (by simp [he]), if_neg]
      intro h
      injection h with h _
      exact he h
theorem eqIntSS_eq {N : Nat} {a b : List (List Int)} (hx : a.length ≤ 1048576) (hxs : ∀ x ∈ a, x.length ≤ 1048576) (hN : 1048577 ≤ N) : Zq13 N a b = some ((decide (a = b), ()), ()) := by
  unfold Zq13
  simp only [tLen_n]
  by_cases hl : a.length = b.length
  · rw [ine_f (by omega), br_f]
    have := eqIntSS_l0_eq N (fun x => some ((x, ()), ())) (fun _ => some ((true, ()), ())) a b (by omega) hxs hN hl a.length 0 N (by omega) (by omega)
    simp only [Int.natCast_zero, List.drop_zero] at this
    rw [this]
    by_cases h : a = b <;> simp [h]
  · rw [ine_t (by omega), br_t]
    have : a ≠ b := fun h => hl (by rw [h])
    simp [this]
theorem eqFormula_eq {N : Nat} {a b : Int × List (List Int)} (hx : a.2.length ≤ 1048576) (hxs : ∀ x ∈ a.2, x.length ≤ 1048576) (hN : 1048577 ≤ N) : Zq11 N a b = some ((decide (a = b), ()), ()) := by
  obtain ⟨a1, a2⟩ := a
  obtain ⟨b1, b2⟩ := b
  unfold Zq11
  by_cases h1 : a1 = b1
  · rw [ine_f h1, br_f, eqIntSS_eq hx hxs hN, bind_some', br_ite]
    by_cases h2 : a2 = b2 <;> simp [h1, h2]
  · rw [ine_t h1, br_t]
    simp [h1]
theorem all_rdI {xs : List Int} {p : Int → Prop} : (∀ x ∈ xs, p x) ↔ ∀ i : Nat, i < xs.length → p (rdI xs i) := by
  constructor
  · intro h i hi
    rw [rdI_n hi]
    exact h _ (List.getElem_mem hi)
  · intro h x hx
    obtain ⟨i, hi, rfl⟩ := List.mem_iff_getElem.1 hx
    have := h i hi
    rwa [rdI_n hi] at this
theorem all_rdL {xs : List (List Int)} {p : List Int → Prop} : (∀ x ∈ xs, p x) ↔ ∀ i : Nat, i < xs.length → p (rdL xs i) := by
  constructor
  · intro h i hi
    rw [rdL_n hi]
    exact h _ (List.getElem_mem hi)
  · intro h x hx
    obtain ⟨i, hi, rfl⟩ := List.mem_iff_getElem.1 hx
    have := h i hi
    rwa [rdL_n hi] at this
theorem not_any {α : Type} {xs : List α} {f : α → Bool} : (!(xs.any f)) = decide (∀ x ∈ xs, f x = false) := by
  induction xs with
  | nil => simp
  | cons x xs ih =>
    rw [List.any_cons, Bool.not_or, ih]
    by_cases h : f x = true <;> simp [h]
def findAt {α : Type} (f : α → Bool) : List α → Nat → Int
  | [], _ => -1
  | x :: xs, n => if f x = true then (n : Int) else findAt f xs (n + 1)
theorem findAt_cons {α : Type} (f : α → Bool) (x : α) (xs : List α) (n : Nat) : findAt f (x :: xs) n = if f x = true then (n : Int) else findAt f xs (n + 1) := rfl
theorem findAt_ge {α : Type} (f : α → Bool) : ∀ (xs : List α) (n : Nat), decide (0 ≤ findAt f xs n) = xs.any f := by
  intro xs
  induction xs with
  | nil => intro n; rfl
  | cons x xs ih =>
    intro n
    unfold findAt
    by_cases h : f x = true
    · rw [if_pos h]
      simp [h]
    · rw [if_neg h, ih]
      simp [h]
theorem IndexFunc_LI_int_l0_eq {R : Type} (N : Nat) (k0 : Int → Option R) (k1 : Unit → Option R) (xs : List (Int)) (f : Int → Option Bool) (g : Int → Bool) (hf : ∀ x ∈ xs, f x = some (g x)) (hx : xs.length ≤ 1099511627776) : ∀ (d n : Nat) (K : Nat), n + d = xs.length → d < K →
    Zq22_l0 N k0 k1 K xs f (xs.length : Int) n = if (xs.drop n).any g = true then k0 (findAt g (xs.drop n) n) else k1 () := by
  intro d
  induction d with
  | zero =>
    intro n K hd hK
    obtain ⟨k, rfl⟩ := succ_of hK
    have hn : ¬ n < xs.length := by omega
    simp only [Zq22_l0, ilt_nf hn, br_f]
    rw [List.drop_of_length_le (by omega)]
    simp
  | succ d ih =>
    intro n K hd hK
    obtain ⟨k, rfl⟩ := succ_of hK
    have hn : n < xs.length := by omega
    simp only [Zq22_l0, ilt_n hn, inb_n hn, br_t, chk_t]
    obtain ⟨y, r, e1, e2, e3⟩ := drop_split hn
    rw [wrap_succ (by omega), rdI_n hn, ih (n + 1) k (by omega) (by omega), hf _ (List.getElem_mem hn), bind_some', br_ite, e1, e2, e3, findAt_cons]
    by_cases h : g y = true
    · simp [h]
    · simp [h]
theorem ContainsFunc_LI_int_eq {N : Nat} {xs : List (Int)} {f : Int → Option Bool} {g : Int → Bool} (hf : ∀ x ∈ xs, f x = some (g x)) (hx : xs.length ≤ 1099511627776) (hN : xs.length < N) :
    Zq20 N xs f = some ((xs.any g, ()), ()) := by
  unfold Zq20 Zq22
  have := IndexFunc_LI_int_l0_eq N (fun x => some ((x, ()), ())) (fun _ => some (((-1 : Int), ()), ())) xs f g hf hx xs.length 0 N (by omega) (by omega)
  simp only [Int.natCast_zero, List.drop_zero] at this
  rw [tLen_n, this]
  by_cases h : xs.any g = true
  · rw [if_pos h, bind_some', ile_d, findAt_ge]
  · rw [if_neg h, bind_some']
    simp only [Bool.not_eq_true] at h
    rw [h]
    rfl
theorem IndexFunc_LLI_LI_l0_eq {R : Type} (N : Nat) (k0 : Int → Option R) (k1 : Unit → Option R) (xs : List (List Int)) (f : List Int → Option Bool) (g : List Int → Bool) (hf : ∀ x ∈ xs, f x = some (g x)) (hx : xs.length ≤ 1099511627776) : ∀ (d n : Nat) (K : Nat), n + d = xs.length → d < K →
    Zq23_l0 N k0 k1 K xs f (xs.length : Int) n = if (xs.drop n).any g = true then k0 (findAt g (xs.drop n) n) else k1 () := by
  intro d
  induction d with
  | zero =>
    intro n K hd hK
    obtain ⟨k, rfl⟩ := succ_of hK
    have hn : ¬ n < xs.length := by omega
    simp only [Zq23_l0, ilt_nf hn, br_f]
    rw [List.drop_of_length_le (by omega)]
    simp
  | succ d ih =>
    intro n K hd hK
    obtain ⟨k, rfl⟩ := succ_of hK
    have hn : n < xs.length := by omega
    simp only [Zq23_l0, ilt_n hn, inb_n hn, br_t, chk_t]
    obtain ⟨y, r, e1, e2, e3⟩ := drop_split hn
    rw [wrap_succ (by omega), rdL_n hn, ih (n + 1) k (by omega) (by omega), hf _ (List.getElem_mem hn), bind_some', br_ite, e1, e2, e3, findAt_cons]
    by_cases h : g y = true
    · simp [h]
    · simp [h]
theorem ContainsFunc_LLI_LI_eq {N : Nat} {xs : List (List Int)} {f : List Int → Option Bool} {g : List Int → Bool} (hf : ∀ x ∈ xs, f x = some (g x)) (hx : xs.length ≤ 1099511627776) (hN : xs.length < N) :
    Zq21 N xs f = some ((xs.any g, ()), ()) := by
  unfold Zq21 Zq23
  have := IndexFunc_LLI_LI_l0_eq N (fun x => some ((x, ()), ())) (fun _ => some (((-1 : Int), ()), ())) xs f g hf hx xs.length 0 N (by omega) (by omega)
  simp only [Int.natCast_zero, List.drop_zero] at this
  rw [tLen_n, this]
  by_cases h : xs.any g = true
  · rw [if_pos h, bind_some', ile_d, findAt_ge]
  · rw [if_neg h, bind_some']
    simp only [Bool.not_eq_true] at h
    rw [h]
    rfl
theorem l1In_eq (N : Nat) (x a b : Int) : Zq25 N x a b = some ((decide (a ≤ x ∧ x ≤ b), ()), ()) := by
  unfold Zq25
  rw [br_ite, ile_d, ile_d]
  by_cases h : a ≤ x <;> by_cases h' : x ≤ b <;> simp [h, h']
theorem between_eq (N : Nat) (n low high : Int) : Zq8 N n low high = some ((decide (low ≤ n ∧ n ≤ high), ()), ()) := by
  unfold Zq8
  rw [br_ite, ile_d, ile_d]
  by_cases h : low ≤ n <;> by_cases h' : n ≤ high <;> simp [h, h']
def litOk (v : Int) (c : List Int) (k : Nat) : Prop := rdI c k ≠ 0 ∧ -v ≤ rdI c k ∧ rdI c k ≤ v ∧ (0 < k → rdI c ((k - 1 : Nat) : Int) < rdI c k)
def clauseOk (v : Int) (c : List Int) : Prop := ∀ k, k < c.length → litOk v c k
def goodF (f : Int × List (List Int)) : Prop := (0 ≤ f.1 ∧ f.1 ≤ 6) ∧ f.2.length ≤ 64 ∧ ∀ i, i < f.2.length → clauseOk f.1 (rdL f.2 i)
theorem Zq29_eq (N : Nat) {v : Int} (hv : 0 ≤ v ∧ v ≤ 6) (x : Int) : Zq29 N v x = some ((decide (x ≠ 0 ∧ -v ≤ x ∧ x ≤ v), ()), ()) := by
  unfold Zq29
  rw [wrap_ok (by omega) (by omega), l1In_eq, bind_some', br_ite, ine_d]
  have e : (0 : Int) - v = -v := by omega
  rw [e]
  by_cases h : x = 0 <;> simp [h]
theorem l6Good_in_eq {R : Type} {N : Nat} (k0 : Bool → Option R) (k1 : Int → Int → List (List Int) → Option R) {v : Int} (hv : 0 ≤ v ∧ v ≤ 6) {cs : List (List Int)} {i : Nat} (hi : i < cs.length) (hc : (rdL cs i).length ≤ 1048576) (hN : 1048577 ≤ N) :
    Zq28_l0_0 N k0 k1 N i 0 v cs = if clauseOk v (rdL cs i) then k1 i v cs else k0 false := by
  refine loop_all_if (K := N) (L := fun K k => Zq28_l0_0 N k0 k1 K i k v cs) (m := (rdL cs i).length) (P := clauseOk v (rdL cs i)) (litOk v (rdL cs i)) Iff.rfl (fun K n hn => ?_) (fun K n hn hp => ?_) (fun K n hn hp => ?_) (by omega)
  · simp only [Zq28_l0_0, inb_n hi, chk_t, ilt_lenf hn, br_f]
  · obtain ⟨h1, h2, h3, h4⟩ := hp
    simp only [Zq28_l0_0, inb_n hi, chk_t, ilt_len hn, br_t, inb_n hn, Zq29_eq N hv, bind_some']
    rw [br_ite, if_neg (by simp [h1, h2, h3])]
    by_cases h0 : 0 < n
    · rw [ilt_0 h0, br_t, wrap_pred (by omega) h0, inb_n (by omega), chk_t, ile_f (by have := h4 h0; omega), br_f, wrap_succ (by omega)]
    · rw [ilt_0n h0, br_f, wrap_succ (by omega)]
  · simp only [Zq28_l0_0, inb_n hi, chk_t, ilt_len hn, br_t, inb_n hn, Zq29_eq N hv, bind_some']
    by_cases h : rdI (rdL cs i) n ≠ 0 ∧ -v ≤ rdI (rdL cs i) n ∧ rdI (rdL cs i) n ≤ v
    · rw [br_ite, if_neg (by simp [h])]
      have h0 : 0 < n := by
        rcases Nat.eq_zero_or_pos n with h0 | h0
        · exact absurd ⟨h.1, h.2.1, h.2.2, fun h' => by omega⟩ hp
        · exact h0
      have h4 : ¬ rdI (rdL cs i) ((n - 1 : Nat) : Int) < rdI (rdL cs i) n := fun h' => hp ⟨h.1, h.2.1, h.2.2, fun _ => h'⟩
      rw [ilt_0 h0, br_t, wrap_pred (by omega) h0, inb_n (by omega), chk_t, ile_t (by omega), br_t]
    · rw [br_ite, if_pos (by simp only [Bool.not_eq_true', decide_eq_false_iff_not]; exact h)]
theorem Zq28_eq {N : Nat} {f : Int × List (List Int)} (hl : f.2.length ≤ 1048576) (hc : ∀ c ∈ f.2, c.length ≤ 1048576) (hN : 1048577 ≤ N) : Zq28 N f = some ((decide (goodF f), ()), ()) := by
  obtain ⟨v, cs⟩ := f
  unfold Zq28
  rw [l1In_eq, bind_some', br_ite]
  by_cases hv : 0 ≤ v ∧ v ≤ 6
  · rw [if_neg (by simp [hv]), tLen_n]
    by_cases h64 : cs.length ≤ 64
    · rw [ilt_f (show ¬ (64 : Int) < cs.length by omega), br_f]
      have := loop_all_if (L := fun K i => Zq28_l0 N (fun x => some ((x, ()), ())) (fun (_ : Unit) => some ((true, ()), ())) K i v cs) (m := cs.length) (P := ∀ i, i < cs.length → clauseOk v (rdL cs i)) (fun i => clauseOk v (rdL cs i)) Iff.rfl (kt := some ((true, ()), ())) (kf := some ((false, ()), ())) (fun K n hn => ?_) (fun K n hn hp => ?_) (fun K n hn hp => ?_) (show cs.length < N by omega)
      · rw [show ((0 : Nat) : Int) = 0 from rfl] at this
        rw [this]
        by_cases h : ∀ i, i < cs.length → clauseOk v (rdL cs i)
        · rw [if_pos h, decide_eq_true (show goodF (v, cs) from ⟨hv, h64, h⟩)]
        · rw [if_neg h, decide_eq_false (show ¬ goodF (v, cs) from fun h' => h h'.2.2)]
      · simp only [Zq28_l0, ilt_lenf hn, br_f]
      · simp only [Zq28_l0, ilt_len hn, br_t]
        rw [l6Good_in_eq _ _ hv hn (rdL_len hc _) hN, if_pos hp, wrap_succ (by omega)]
      · simp only [Zq28_l0, ilt_len hn, br_t]
        rw [l6Good_in_eq _ _ hv hn (rdL_len hc _) hN, if_neg hp]
    · rw [ilt_t (show (64 : Int) < cs.length by omega), br_t, decide_eq_false (show ¬ goodF (v, cs) from fun h => h64 h.2.1)]
  · rw [if_pos (by simp only [Bool.not_eq_true', decide_eq_false_iff_not]; exact hv), decide_eq_false (show ¬ goodF (v, cs) from fun h => hv h.1)]
theorem IsFormula_in_eq {R : Type} {N : Nat} (k0 : Bool → Option R) (k1 : List (List Int) → Int → Int → Int → List (List Int) → Option R) {v : Int} (hv : 0 ≤ v ∧ v ≤ 6) {c : List Int} {x3 : List (List Int)} {x4 x5 : Int} {cs : List (List Int)} (hc : c.length ≤ 1048576) (hN : 1048577 ≤ N) :
    Zq5_l0_0 N k0 k1 N c x3 x4 x5 c (c.length : Int) 0 v cs = if clauseOk v c then k1 x3 x4 x5 v cs else k0 false := by
  refine loop_all_if (K := N) (L := fun K k => Zq5_l0_0 N k0 k1 K c x3 x4 x5 c (c.length : Int) k v cs) (m := c.length) (P := clauseOk v c) (litOk v c) Iff.rfl (fun K n hn => ?_) (fun K n hn hp => ?_) (fun K n hn hp => ?_) (by omega)
  · simp only [Zq5_l0_0, ilt_nf hn, br_f]
  · obtain ⟨h1, h2, h3, h4⟩ := hp
    simp only [Zq5_l0_0, ilt_n hn, br_t, inb_n hn, chk_t, between_eq, bind_some', wrap_ok (show -9223372036854775808 ≤ 0 - v by omega) (show 0 - v < 9223372036854775808 by omega)]
    rw [ieq_f h1, br_f, br_ite, if_neg (by simp; omega)]
    by_cases h0 : 0 < n
    · rw [ilt_0 h0, br_t, wrap_pred (by omega) h0, inb_n (by omega), chk_t, ile_f (by have := h4 h0; omega), br_f, wrap_succ (by omega)]
    · rw [ilt_0n h0, br_f, wrap_succ (by omega)]
  · simp only [Zq5_l0_0, ilt_n hn, br_t, inb_n hn, chk_t, between_eq, bind_some', wrap_ok (show -9223372036854775808 ≤ 0 - v by omega) (show 0 - v < 9223372036854775808 by omega)]
    by_cases hz : rdI c n = 0
    · rw [ieq_t hz, br_t]
    · rw [ieq_f hz, br_f, br_ite]
      by_cases h : -v ≤ rdI c n ∧ rdI c n ≤ v
      · rw [if_neg (by simp; omega)]
        have h0 : 0 < n := by
          rcases Nat.eq_zero_or_pos n with h0 | h0
          · exact absurd ⟨hz, h.1, h.2, fun h' => by omega⟩ hp
          · exact h0
        have h4 : ¬ rdI c ((n - 1 : Nat) : Int) < rdI c n := fun h' => hp ⟨hz, h.1, h.2, fun _ => h'⟩
        rw [ilt_0 h0, br_t, wrap_pred (by omega) h0, inb_n (by omega), chk_t, ile_t (by omega), br_t]
      · rw [if_pos (by simp only [Bool.not_eq_true', decide_eq_false_iff_not]; omega)]
theorem Zq5_eq {N : Nat} {f : Int × List (List Int)} (hl : f.2.length ≤ 1048576) (hc : ∀ c ∈ f.2, c.length ≤ 1048576) (hN : 1048577 ≤ N) : Zq5 N f = some ((decide (goodF f), ()), ()) := by
  obtain ⟨v, cs⟩ := f
  unfold Zq5
  rw [between_eq, bind_some', br_ite]
  by_cases hv : 0 ≤ v ∧ v ≤ 6
  · rw [if_neg (by simp [hv]), tLen_n]
    by_cases h64 : cs.length ≤ 64
    · rw [ilt_f (show ¬ (64 : Int) < cs.length by omega), br_f]
      have := loop_all_if (L := fun K i => Zq5_l0 N (fun x => some ((x, ()), ())) (fun (_ : Unit) => some ((true, ()), ())) K cs (cs.length : Int) i v cs) (m := cs.length) (P := ∀ i, i < cs.length → clauseOk v (rdL cs i)) (fun i => clauseOk v (rdL cs i)) Iff.rfl (kt := some ((true, ()), ())) (kf := some ((false, ()), ())) (fun K n hn => ?_) (fun K n hn hp => ?_) (fun K n hn hp => ?_) (show cs.length < N by omega)
      · rw [show ((0 : Nat) : Int) = 0 from rfl] at this
        rw [this]
        by_cases h : ∀ i, i < cs.length → clauseOk v (rdL cs i)
        · rw [if_pos h, decide_eq_true (show goodF (v, cs) from ⟨hv, h64, h⟩)]
        · rw [if_neg h, decide_eq_false (show ¬ goodF (v, cs) from fun h' => h h'.2.2)]
      · simp only [Zq5_l0, ilt_nf hn, br_f]
      · simp only [Zq5_l0, ilt_n hn, br_t, inb_n hn, chk_t, tLen_n]
        rw [IsFormula_in_eq _ _ hv (rdL_len hc _) hN, if_pos hp, wrap_succ (by omega)]
      · simp only [Zq5_l0, ilt_n hn, br_t, inb_n hn, chk_t, tLen_n]
        rw [IsFormula_in_eq _ _ hv (rdL_len hc _) hN, if_neg hp]
    · rw [ilt_t (show (64 : Int) < cs.length by omega), br_t, decide_eq_false (show ¬ goodF (v, cs) from fun h => h64 h.2.1)]
  · rw [if_pos (by simp only [Bool.not_eq_true', decide_eq_false_iff_not]; exact hv), decide_eq_false (show ¬ goodF (v, cs) from fun h => hv h.1)]
theorem l1Most_eq (N : Nat) (a b : Int) : Zq26 N a b = some ((if b < a then a else b, ()), ()) := by
  unfold Zq26
  rw [br_ite, ilt_d]
  by_cases h : b < a <;> simp [h]
def meets (bits : List Int) (x : Int) : Bool := if 0 < x then decide (rdI bits (x - 1) = 1) else decide (rdI bits (-1 - x) = 0)
def solves (bits : List Int) (cs : List (List Int)) : Prop := ∀ c ∈ cs, c.any (meets bits) = true
def litsOk (v : Int) (cs : List (List Int)) : Prop := ∀ c ∈ cs, ∀ x ∈ c, x ≠ 0 ∧ -v ≤ x ∧ x ≤ v
theorem goodF_lits {f : Int × List (List Int)} (h : goodF f) : litsOk f.1 f.2 := by
  obtain ⟨_, _, h3⟩ := h
  have h4 : ∀ c ∈ f.2, clauseOk f.1 c := all_rdL.2 h3
  intro c hc
  exact all_rdI.2 fun i hi => by
    obtain ⟨a, b, c, _⟩ := h4 c hc i hi
    exact ⟨a, b, c⟩
theorem l6Meets_eq (N : Nat) {bits : List Int} {x : Int} (hl : bits.length ≤ 1048576) (h : x ≠ 0 ∧ -(bits.length : Int) ≤ x ∧ x ≤ (bits.length : Int)) : Zq30 N bits x = some ((meets bits x, ()), ()) := by
  unfold Zq30 meets
  by_cases h0 : 0 < x
  · rw [ilt_t h0, br_t, wrap_ok (by omega) (by omega), inb_i (by omega) (by omega), chk_t, ieq_d, if_pos h0]
  · rw [ilt_f h0, br_f, wrap_ok (show -9223372036854775808 ≤ 0 - x by omega) (by omega), wrap_ok (by omega) (by omega), inb_i (by omega) (by omega), chk_t, ieq_d, if_neg h0, show 0 - x - 1 = -1 - x by omega]
theorem Zq9_eq (N : Nat) {bits : List Int} {x : Int} (hl : bits.length ≤ 1048576) (h : x ≠ 0 ∧ -(bits.length : Int) ≤ x ∧ x ≤ (bits.length : Int)) : Zq9 N bits x = some ((meets bits x, ()), ()) := by
  unfold Zq9 meets
  by_cases h0 : 0 < x
  · rw [ilt_t h0, br_t, wrap_ok (by omega) (by omega), inb_i (by omega) (by omega), chk_t, ieq_d, if_pos h0]
  · rw [ilt_f h0, br_f, wrap_ok (by omega) (by omega), inb_i (by omega) (by omega), chk_t, ieq_d, if_neg h0]
theorem foldl_or {α : Type} (g : α → Bool) : ∀ (xs : List α) (b : Bool), xs.foldl (fun m x => m || g x) b = (b || xs.any g) := by
  intro xs
  induction xs with
  | nil => intro b; simp
  | cons x xs ih => intro b; rw [List.foldl_cons, ih, List.any_cons, Bool.or_assoc]
theorem l6Solves_in_eq {R : Type} {N : Nat} (k0 : List Int → Int → Bool → Int → List (List Int) → Option R) {bits : List Int} {i : Nat} {v : Int} {cs : List (List Int)} (hi : i < cs.length) (hc : (rdL cs i).length ≤ 1048576) (hb : bits.length ≤ 1048576) (hx : ∀ x ∈ rdL cs i, x ≠ 0 ∧ -(bits.length : Int) ≤ x ∧ x ≤ (bits.length : Int)) (hN : 1048577 ≤ N) :
    Zq33_l0_0 N k0 N bits i false 0 v cs = k0 bits i ((rdL cs i).any (meets bits)) v cs := by
  refine (loop_list (xs := rdL cs i) (L := fun K n met => Zq33_l0_0 N k0 K bits i met n v cs) (k := fun met => k0 bits i met v cs) (fun m x => m || meets bits x) (fun _ _ => True) (fun K n s hn _ => ?_) (fun K n s hn _ => ?_) (fun n s hn h => trivial) (s := false) (K := N) (by omega) trivial).1.trans ?_
  · simp only [Zq33_l0_0, inb_n hi, chk_t, ilt_lenf hn, br_f]
  · simp only [Zq33_l0_0, inb_n hi, chk_t, ilt_len hn, br_t, inb_n hn]
    have hm := hx _ (List.getElem_mem hn)
    rw [rdI_n hn, l6Meets_eq N hb hm, bind_some', wrap_succ (by omega)]
    cases s
    · rw [br_f, Bool.false_or]
    · rw [br_t, Bool.true_or]
  · rw [foldl_or, Bool.false_or]
theorem l6Solves_eq {N : Nat} {bits : List Int} {f : Int × List (List Int)} (hl : f.2.length ≤ 1048576) (hc : ∀ c ∈ f.2, c.length ≤ 1048576) (hb : bits.length ≤ 1048576) (hx : litsOk (bits.length : Int) f.2) (hN : 1048577 ≤ N) : Zq33 N f bits = some ((decide (solves bits f.2), ()), ()) := by
  obtain ⟨v, cs⟩ := f
  simp only at hl hc hx
  unfold Zq33
  have := loop_all_if (P := solves bits cs) (m := cs.length) (L := fun K i => Zq33_l0 N (fun x => some ((x, ()), ())) (fun (_ : Unit) => some ((true, ()), ())) K bits i v cs) (fun i => (rdL cs i).any (meets bits) = true) all_rdL (kt := some ((true, ()), ())) (kf := some ((false, ()), ())) (fun K n hn => ?_) (fun K n hn hp => ?_) (fun K n hn hp => ?_) (show cs.length < N by omega)
  · rw [show ((0 : Nat) : Int) = 0 from rfl] at this
    rw [this]
    by_cases h : solves bits cs <;> simp [h]
  · simp only [Zq33_l0, ilt_lenf hn, br_f]
  · simp only [Zq33_l0, ilt_len hn, br_t]
    rw [l6Solves_in_eq _ hn (rdL_len hc n) hb (by rw [rdL_n hn]; exact hx _ (List.getElem_mem hn)) hN, hp, Bool.not_true, br_f, wrap_succ (by omega)]
  · simp only [Zq33_l0, ilt_len hn, br_t]
    rw [l6Solves_in_eq _ hn (rdL_len hc n) hb (by rw [rdL_n hn]; exact hx _ (List.getElem_mem hn)) hN, Bool.eq_false_iff.2 hp, Bool.not_false, br_t]
theorem impl_solves_eq {N : Nat} {bits : List Int} {f : Int × List (List Int)} (hl : f.2.length ≤ 1048576) (hc : ∀ c ∈ f.2, c.length ≤ 1048576) (hb : bits.length ≤ 1048576) (hx : litsOk (bits.length : Int) f.2) (hN : 1048577 ≤ N) : Zq1 N f bits = some ((decide (solves bits f.2), ()), ()) := by
  obtain ⟨v, cs⟩ := f
  simp only at hl hc hx
  unfold Zq1
  rw [ContainsFunc_LLI_LI_eq (g := fun c => !(c.any (meets bits))) (fun c h => by
    have hcl := hc c h
    simp only [Zq2]
    rw [ContainsFunc_LI_int_eq (g := meets bits) (fun x hxc => by simp only [Zq3, Zq9_eq N hb (hx c h x hxc), bind_some']) (by omega) (by omega)]
    rfl) (show cs.length ≤ 1099511627776 by omega) (show cs.length < N by omega), bind_some', not_any]
  congr 3
  refine decide_eq_decide.2 ⟨fun h c hc => by simpa using h c hc, fun h c hc => by have := h c hc; simpa using this⟩
def allB (m : Nat) : List (List Int) := (List.range (2 ^ m)).map fun n => (List.range m).map fun v => ((n / 2 ^ (m - 1 - v) % 2 : Nat) : Int)
theorem allB_spec0 : Zq27 1048577 ((0 : Nat) : Int) = some ((allB 0, ()), ()) := by kernel_rfl
theorem allB_spec1 : Zq27 1048577 ((1 : Nat) : Int) = some ((allB 1, ()), ()) := by kernel_rfl
theorem allB_spec2 : Zq27 1048577 ((2 : Nat) : Int) = some ((allB 2, ()), ()) := by kernel_rfl
theorem allB_spec3 : Zq27 1048577 ((3 : Nat) : Int) = some ((allB 3, ()), ()) := by kernel_rfl
theorem allB_spec4 : Zq27 1048577 ((4 : Nat) : Int) = some ((allB 4, ()), ()) := by kernel_rfl
theorem allB_spec5 : Zq27 1048577 ((5 : Nat) : Int) = some ((allB 5, ()), ()) := by kernel_rfl
theorem allB_spec6 : Zq27 1048577 ((6 : Nat) : Int) = some ((allB 6, ()), ()) := by kernel_rfl
theorem allB_spec : ∀ m : Nat, m ≤ 6 → Zq27 1048577 (m : Int) = some ((allB m, ()), ())
  | 0, _ => allB_spec0
  | 1, _ => allB_spec1
  | 2, _ => allB_spec2
  | 3, _ => allB_spec3
  | 4, _ => allB_spec4
  | 5, _ => allB_spec5
  | 6, _ => allB_spec6
theorem allB_len (m : Nat) : (allB m).length = 2 ^ m := by simp [allB]
theorem allB_row {m : Nat} {b : List Int} (h : b ∈ allB m) : b.length = m := by
  unfold allB at h
  obtain ⟨n, _, rfl⟩ := List.mem_map.1 h
  simp
theorem wrap64 {n : Nat} (h : n < 18446744073709551616) : IntKind.u64.wrap (n : Int) = (n : Int) := by
  unfold IntKind.wrap
  simp only [IntKind.bits, IntKind.signed, Bool.false_and]
  have : (n : Int) % (2 ^ 64 : Int) = n := Int.emod_eq_of_lt (by omega) (by omega)
  rw [this]
  rfl
theorem ofInt64 {n : Nat} (h : n < 18446744073709551616) : (BitVec.ofInt 64 (n : Int)).toNat = n := by
  rw [BitVec.toNat_ofInt]
  omega
theorem orN {a b : Nat} (ha : a < 4294967296) (hb : b < 4294967296) : bitop .or .u64 (a : Int) (b : Int) = ((a ||| b : Nat) : Int) := by
  show IntKind.u64.wrap (((BitVec.ofInt 64 (a : Int) ||| BitVec.ofInt 64 (b : Int)).toNat : Nat) : Int) = _
  rw [BitVec.toNat_or, ofInt64 (by omega), ofInt64 (by omega)]
  have : a ||| b < 2 ^ 32 := Nat.or_lt_two_pow ha hb
  exact wrap64 (by omega)
theorem andN {a b : Nat} (ha : a < 4294967296) (hb : b < 4294967296) : bitop .and .u64 (a : Int) (b : Int) = ((a &&& b : Nat) : Int) := by
  show IntKind.u64.wrap (((BitVec.ofInt 64 (a : Int) &&& BitVec.ofInt 64 (b : Int)).toNat : Nat) : Int) = _
  rw [BitVec.toNat_and, ofInt64 (by omega), ofInt64 (by omega)]
  have : a &&& b < 2 ^ 32 := Nat.and_lt_two_pow _ hb
  exact wrap64 (by omega)
def bitAt (m n v : Nat) : Int := ((n / 2 ^ (m - 1 - v) % 2 : Nat) : Int)
theorem bitTab : ((List.range 64).all fun n => (List.range 6).all fun k => decide (bitop .and .i64 (shrI .i64 (n : Int) (k : Int)) 1 = ((n / 2 ^ k % 2 : Nat) : Int))) = true := by kernel_rfl
theorem bit_at {n k : Nat} (hn : n < 64) (hk : k < 6) : bitop .and .i64 (shrI .i64 (n : Int) (k : Int)) 1 = ((n / 2 ^ k % 2 : Nat) : Int) := by
  have h := List.all_eq_true.1 bitTab n (List.mem_range.2 hn)
  have h := List.all_eq_true.1 h k (List.mem_range.2 hk)
  exact of_decide_eq_true h
theorem assign_row {R : Type} {N m n : Nat} {k0 : Int → (List Int → Option Bool) → Int → Int → List (List Int) → List Int → Option R} {is : List Int → Option Bool} {x2 x3 : Int} {o1 : List (List Int)} (hm : m ≤ 6) (hn : n < 64) : ∀ (d v K : Nat) (o2 : List Int), v + d = m → d < K → o2.length = v →
    Zq7_l0_0 N k0 K (m : Int) is (n : Int) x2 x3 (m : Int) (v : Int) o1 o2 = k0 (m : Int) is x2 x3 o1 (o2 ++ (List.range' v d).map (bitAt m n)) := by
  intro d
  induction d with
  | zero =>
    intro v K o2 hv hK ho
    obtain ⟨K, rfl⟩ := succ_of hK
    simp only [Zq7_l0_0, ilt_nf (show ¬ v < m by omega), br_f]
    simp
  | succ d ih =>
    intro v K o2 hv hK ho
    obtain ⟨K, rfl⟩ := succ_of hK
    have e1 : IntKind.i64.wrap (IntKind.i64.wrap ((m : Int) - 1) - (v : Int)) = ((m - 1 - v : Nat) : Int) := by
      rw [wrap_ok (show -9223372036854775808 ≤ (m : Int) - 1 by omega) (by omega), wrap_ok (by omega) (by omega)]
      omega
    simp only [Zq7_l0_0, ilt_n (show v < m by omega), br_t, e1, bit_at hn (show m - 1 - v < 6 by omega)]
    rw [ile_t (by omega), chk_t, room_ok (by simp; omega), chk_t, wrap_succ (by omega), ih (v + 1) K _ (by omega) (by omega) (by simp [tApp_d, ho])]
    rw [List.range'_succ, List.map_cons, tApp_d, List.append_assoc]
    rfl
def rowB (m n : Nat) : List Int := (List.range m).map (bitAt m n)
theorem allB_rows (m : Nat) : allB m = (List.range (2 ^ m)).map (rowB m) := rfl
theorem pow_le64 {m : Nat} (h : m ≤ 6) : 2 ^ m ≤ 64 := Nat.pow_le_pow_right (by omega) h
theorem shl_m {m : Nat} (h : m ≤ 6) : shlI .i64 1 (m : Int) = ((2 ^ m : Nat) : Int) := by
  rcases (by omega : m = 0 ∨ m = 1 ∨ m = 2 ∨ m = 3 ∨ m = 4 ∨ m = 5 ∨ m = 6) with rfl | rfl | rfl | rfl | rfl | rfl | rfl <;> rfl
theorem assignments_eq {N m : Nat} {is : List Int → Option Bool} {p : List Int → Bool} (hN : 1048577 ≤ N) (hm : m ≤ 6) (hp : ∀ b ∈ allB m, is b = some (p b)) : Zq7 N (m : Int) is = some (((allB m).filter p, ()), ()) := by
  have h64 := pow_le64 hm
  have go : ∀ (r c K : Nat) (o : List (List Int)), c + r = 2 ^ m → r < K → o.length ≤ c →
      Zq7_l0 N (fun o => some ((o, ()), ())) K (m : Int) is ((2 ^ m : Nat) : Int) (c : Int) o = some ((o ++ ((List.range' c r).map (rowB m)).filter p, ()), ()) := by
    intro r
    induction r with
    | zero =>
      intro c K o hc hK ho
      obtain ⟨K, rfl⟩ := succ_of hK
      simp only [Zq7_l0, ilt_nf (show ¬ c < 2 ^ m by omega), br_f]
      simp
    | succ r ih =>
      intro c K o hc hK ho
      obtain ⟨K, rfl⟩ := succ_of hK
      simp only [Zq7_l0, ilt_n (show c < 2 ^ m by omega), br_t]
      have := assign_row (N := N) (m := m) (n := c) (k0 := fun vars2 is2 x2 x3 o1 o2 => (is2 o2).bind fun v => br v (chk (room o1 [o2]) (Zq7_l0 N (fun o => some ((o, ()), ())) K vars2 is2 x2 (IntKind.i64.wrap (x3 + 1)) (tApp o1 [o2]))) (Zq7_l0 N (fun o => some ((o, ()), ())) K vars2 is2 x2 (IntKind.i64.wrap (x3 + 1)) o1))
        (is := is) (x2 := ((2 ^ m : Nat) : Int)) (x3 := (c : Int)) (o1 := o) hm (by omega) m 0 N [] (by omega) (by omega) rfl
      rw [show ((0 : Nat) : Int) = 0 from rfl] at this
      rw [this, List.nil_append, ← List.range_eq_range']
      have hmem : rowB m c ∈ allB m := by rw [allB_rows]; exact List.mem_map.2 ⟨c, List.mem_range.2 (by omega), rfl⟩
      have hq := hp _ hmem
      unfold rowB at hq
      rw [hq, bind_some', wrap_succ (by omega), List.range'_succ, List.map_cons]
      cases hb : p (rowB m c) with
      | true =>
        unfold rowB at hb
        rw [hb, br_t, room_ok (by simp; omega), chk_t, tApp_d, ih (c + 1) K _ (by omega) (by omega) (by simp; omega)]
        rw [List.filter_cons_of_pos (show p (rowB m c) = true from hb), List.append_assoc]
        rfl
      | false =>
        unfold rowB at hb
        rw [hb, br_f, ih (c + 1) K _ (by omega) (by omega) (by omega)]
        rw [List.filter_cons_of_neg (by show ¬ p (rowB m c) = true; unfold rowB; rw [hb]; simp)]
  unfold Zq7
  rw [ile_t (by omega), chk_t, shl_m hm]
  have := go (2 ^ m) 0 N [] (by omega) (by omega) (by simp)
  rw [show ((0 : Nat) : Int) = 0 from rfl] at this
  rw [this, List.nil_append, ← List.range_eq_range', ← allB_rows]
noncomputable def solsL (f : Int × List (List Int)) : List (List Int) := (allB f.1.toNat).filter fun b => decide (solves b f.2)
theorem spec_sols_eq {N : Nat} (hNe : N = 1048577) {f : Int × List (List Int)} (hf : goodF f) (hl : f.2.length ≤ 1048576) (hc : ∀ c ∈ f.2, c.length ≤ 1048576) : Zq32 N f = some ((solsL f, ()), ()) := by
  have hN : 1048577 ≤ N := by omega
  have h0 := hf.1
  obtain ⟨v, cs⟩ := f
  simp only at h0 hl hc
  obtain ⟨m, rfl⟩ : ∃ m : Nat, v = m := ⟨v.toNat, by omega⟩
  have h64 := pow_le64 (m := m) (by omega)
  have hbl := allB_len m
  unfold Zq32
  have hsp := allB_spec m (by omega)
  rw [← hNe] at hsp
  rw [hsp, bind_some']
  refine ((loop_list (xs := allB m) (L := fun K n o => Zq32_l0 N (fun o3 => some ((o3, ()), ())) K (allB m) n (m : Int) cs o) (k := fun o => some ((o, ()), ())) (fun o b => if solves b cs then o ++ [b] else o) (fun n o => o.length ≤ n) (fun K n s hn _ => ?_) (fun K n s hn hs => ?_) (fun n s hn hs => ?_) (s := []) (K := N) (by omega) (Nat.zero_le _)).1).trans ?_
  · simp only [Zq32_l0, ilt_lenf hn, br_f]
  · have hbr := allB_row (List.getElem_mem hn)
    simp only [Zq32_l0, ilt_len hn, br_t, inb_n hn, chk_t, rdL_n hn]
    rw [l6Solves_eq hl hc (by omega) (by rw [hbr]; exact goodF_lits hf) hN, bind_some', wrap_succ (by omega), room_ok (by simp; omega), chk_t, br_ite, tApp_d]
    by_cases h : solves (allB m)[n] cs <;> simp [h]
  · by_cases h : solves (allB m)[n] cs
    · rw [if_pos h]; simp; omega
    · rw [if_neg h]; omega
  · have go : ∀ (xs o : List (List Int)), xs.foldl (fun o b => if solves b cs then o ++ [b] else o) o = o ++ xs.filter fun b => decide (solves b cs) := by
      intro xs
      induction xs with
      | nil => intro o; simp
      | cons x xs ih =>
        intro o
        rw [List.foldl_cons, ih]
        by_cases h : solves x cs <;> simp [h]
    rw [go, List.nil_append]
    rfl
theorem impl_sols_eq {N : Nat} {f : Int × List (List Int)} (hf : goodF f) (hl : f.2.length ≤ 1048576) (hc : ∀ c ∈ f.2, c.length ≤ 1048576) (hN : 1048577 ≤ N) : Zq0 N f = some ((solsL f, ()), ()) := by
  have h0 := hf.1
  obtain ⟨v, cs⟩ := f
  simp only at h0 hl hc
  obtain ⟨m, rfl⟩ : ∃ m : Nat, v = m := ⟨v.toNat, by omega⟩
  have h64 := pow_le64 (m := m) (by omega)
  unfold Zq0
  have := assignments_eq hN (m := m) (is := fun y0 => (Zq1 N ((m : Int), cs) y0).bind fun z => some z.1.1) (p := fun b => decide (solves b cs)) (by omega) fun b hb => by
    have hbr := allB_row hb
    show (Zq1 N ((m : Int), cs) b).bind _ = _
    rw [impl_solves_eq hl hc (by omega) (by rw [hbr]; exact goodF_lits hf) hN, bind_some']
  simp only []
  rw [this, bind_some']
  rfl
noncomputable def met (c : Int) (a l : List Int) : List Int := (List.range a.length).map fun i : Nat => if rdI a (i : Int) = c ∧ rdI l (i : Int) = c then c else 1 - c
theorem xor64 {a b : Nat} (ha : a < 256) (hb : b < 256) : bitop .xor .u64 (a : Int) (b : Int) = ((a ^^^ b : Nat) : Int) := by
  have e1 := ofInt64 (n := a) (by omega)
  have e2 := ofInt64 (n := b) (by omega)
  have h1 : a ^^^ b < 256 := Nat.xor_lt_two_pow (n := 8) ha hb
  show IntKind.u64.wrap (((BitVec.ofInt 64 (a : Int) ^^^ BitVec.ofInt 64 (b : Int)).toNat : Nat) : Int) = _
  rw [BitVec.toNat_xor, e1, e2]
  exact wrap64 (by omega)
def bz (b : Bool) : Int := cond b 1 0
theorem bitAt_z (m x v : Nat) : bitAt m x v = bz (x.testBit (m - 1 - v)) := by
  unfold bitAt bz
  rw [← Nat.toNat_testBit]
  cases x.testBit (m - 1 - v) <;> rfl
theorem row_len (m x : Nat) : (rowB m x).length = m := by simp [rowB]
theorem rd_row {m x v : Nat} (h : v < m) : rdI (rowB m x) (v : Int) = bz (x.testBit (m - 1 - v)) := by
  rw [rdI_n (by rw [row_len]; exact h), ← bitAt_z]
  simp [rowB]
def clN (op : Int) (x y z : Nat) : Nat := if op = 1 then (x &&& y ||| x &&& z) ||| y &&& z else if op = 2 then x &&& y else if op = 3 then x ||| y else (x ^^^ y) ^^^ z
theorem maj_z : ∀ a b c : Bool, IntKind.i64.wrap ((IntKind.i64.wrap (IntKind.i64.wrap (bz a + bz b) + bz c)).tdiv 2) = bz ((a && b || a && c) || b && c)
  | false, false, false => by kernel_rfl
  | false, false, true => by kernel_rfl
  | false, true, false => by kernel_rfl
  | false, true, true => by kernel_rfl
  | true, false, false => by kernel_rfl
  | true, false, true => by kernel_rfl
  | true, true, false => by kernel_rfl
  | true, true, true => by kernel_rfl
theorem sum_z : ∀ a b c : Bool, (IntKind.i64.wrap (IntKind.i64.wrap (bz a + bz b) + bz c)).tmod 2 = bz ((a ^^ b) ^^ c)
  | false, false, false => by kernel_rfl
  | false, false, true => by kernel_rfl
  | false, true, false => by kernel_rfl
  | false, true, true => by kernel_rfl
  | true, false, false => by kernel_rfl
  | true, false, true => by kernel_rfl
  | true, true, false => by kernel_rfl
  | true, true, true => by kernel_rfl
theorem and_z : ∀ a b : Bool, IntKind.i64.wrap (bz a * bz b) = bz (a && b)
  | false, false => by kernel_rfl
  | false, true => by kernel_rfl
  | true, false => by kernel_rfl
  | true, true => by kernel_rfl
theorem most_z : ∀ a b : Bool, (if bz b < bz a then bz a else bz b) = bz (a || b)
  | false, false => by decide
  | false, true => by decide
  | true, false => by decide
  | true, true => by decide
theorem l6Result_eq {N m x y z : Nat} {op : Int} (hm : m ≤ 6) (hop : 1 ≤ op ∧ op ≤ 4) (hN : 1048577 ≤ N) : Zq31 N op (rowB m x) (rowB m y) (rowB m z) = some ((rowB m (clN op x y z), ()), ()) := by
  unfold Zq31
  have go : ∀ (d v K : Nat) (o : List Int), v + d = m → d < K → o = (List.range v).map (bitAt m (clN op x y z)) → Zq31_l0 N (fun o => some ((o, ()), ())) K op (rowB m x) (rowB m y) (rowB m z) (v : Int) o = some ((rowB m (clN op x y z), ()), ()) := by
    intro d
    induction d with
    | zero =>
      intro v K o hd hK ho
      obtain ⟨K, rfl⟩ := succ_of hK
      simp only [Zq31_l0]
      rw [ilt_lenf (by rw [row_len]; omega), br_f, ho, show v = m by omega]
      rfl
    | succ d ih =>
      intro v K o hd hK ho
      obtain ⟨K, rfl⟩ := succ_of hK
      have hv : v < m := by omega
      have hl : o.length = v := by rw [ho]; simp
      have nx : ∀ e, e = bitAt m (clN op x y z) v → Zq31_l0 N (fun o => some ((o, ()), ())) K op (rowB m x) (rowB m y) (rowB m z) (((v + 1 : Nat)) : Int) (tApp o [e]) = some ((rowB m (clN op x y z), ()), ()) := fun e he => by
        refine ih (v + 1) K _ (by omega) (by omega) ?_
        rw [tApp_d, ho, he, List.range_succ, List.map_append]
        rfl
      have hr : ∀ e : Int, room o [e] = true := fun e => room_ok (by simp; omega)
      simp only [Zq31_l0]
      rw [ilt_len (by rw [row_len]; exact hv), br_t, inb_n (by rw [row_len]; exact hv), inb_n (by rw [row_len]; exact hv), inb_n (by rw [row_len]; exact hv)]
      have hws : IntKind.i64.wrap ((v : Int) + 1) = ((v + 1 : Nat) : Int) := wrap_succ (by omega)
      simp only [chk_t, rd_row hv, hr, hws, l1Most_eq, bind_some']
      rw [bitAt_z] at nx
      by_cases h1 : op = 1
      · rw [ieq_t h1, br_t, maj_z]
        refine nx _ ?_
        subst h1
        simp [clN]
      · rw [ieq_f h1, br_f]
        by_cases h2 : op = 2
        · rw [ieq_t h2, br_t, and_z]
          refine nx _ ?_
          subst h2
          simp [clN]
        · rw [ieq_f h2, br_f]
          by_cases h3 : op = 3
          · rw [ieq_t h3, br_t, most_z]
            refine nx _ ?_
            subst h3
            simp [clN]
          · rw [ieq_f h3, br_f, sum_z]
            refine nx _ ?_
            unfold clN
            rw [if_neg h1, if_neg h2, if_neg h3, Nat.testBit_xor, Nat.testBit_xor]
  exact go m 0 N [] (by omega) (by omega) rfl
theorem clN_lt {op : Int} {m x y z : Nat} (hx : x < 2 ^ m) (hy : y < 2 ^ m) (hz : z < 2 ^ m) : clN op x y z < 2 ^ m := by
  unfold clN
  split
  · exact Nat.or_lt_two_pow (Nat.or_lt_two_pow (Nat.and_lt_two_pow _ hy) (Nat.and_lt_two_pow _ hz)) (Nat.and_lt_two_pow _ hz)
  · split
    · exact Nat.and_lt_two_pow _ hy
    · split
      · exact Nat.or_lt_two_pow hx hy
      · exact Nat.xor_lt_two_pow (Nat.xor_lt_two_pow hx hy) hz
noncomputable def solsN (m : Nat) (cs : List (List Int)) : List Nat := (List.range (2 ^ m)).filter fun n => decide (solves (rowB m n) cs)
def castL (S : List Nat) : List Int := S.map fun n : Nat => (n : Int)
theorem solsL_rows (m : Nat) (cs : List (List Int)) : solsL ((m : Int), cs) = (solsN m cs).map (rowB m) := by
  unfold solsL solsN
  simp only [Int.toNat_natCast]
  rw [allB_rows, List.filter_map]
  rfl
theorem mem_solsN {m n : Nat} {cs : List (List Int)} : n ∈ solsN m cs ↔ n < 2 ^ m ∧ solves (rowB m n) cs := by
  unfold solsN
  rw [List.mem_filter, List.mem_range, decide_eq_true_eq]
theorem asBitsTab : ((List.range 7).all fun m => (List.range (2 ^ m)).all fun n => match Zq6 8 (rowB m n) with
  | some ((z, ()), ()) => z == (n : Int)
  | none => false) = true := by kernel_rfl
theorem asBits_more {N : Nat} {xs : List Int} {r : (Int × Unit) × Unit} (h : Zq6 8 xs = some r) (hN : 8 ≤ N) : Zq6 N xs = some r := by
  unfold Zq6 at h ⊢
  have go : ∀ (K N' : Nat) (out i : Int), K ≤ N' → ∀ r, Zq6_l0 8 (fun out => some ((out, ()), ())) K out xs (tLen xs) i = some r → Zq6_l0 N (fun out => some ((out, ()), ())) N' out xs (tLen xs) i = some r := by
    intro K
    induction K with
    | zero => intro N' out i _ r h; cases h
    | succ K ih =>
      intro N' out i hN' r h
      obtain ⟨N', rfl⟩ := succ_of (show K < N' by omega)
      simp only [Zq6_l0] at h ⊢
      cases q : ilt i (tLen xs) with
      | false => rw [q] at h; exact h
      | true =>
        rw [q, br_t] at h
        rw [br_t]
        cases q2 : inb xs i with
        | false => rw [q2] at h; cases h
        | true =>
          rw [q2, chk_t] at h
          rw [chk_t]
          exact ih N' _ _ (by omega) r h
  exact go 8 N 0 0 hN r h
theorem asBits_eq {N m n : Nat} (hm : m ≤ 6) (hn : n < 2 ^ m) (hN : 1048577 ≤ N) : Zq6 N (rowB m n) = some (((n : Int), ()), ()) := by
  have h := List.all_eq_true.1 asBitsTab m (List.mem_range.2 (by omega))
  have h := List.all_eq_true.1 h n (List.mem_range.2 hn)
  refine asBits_more (xs := rowB m n) ?_ (by omega)
  split at h
  · rename_i z e
    rw [e]
    have : z = (n : Int) := by simpa using h
    rw [this]
  · cases h
theorem wfI_n {n : Nat} (h : n < 18446744073709551616) : wfI .u64 (n : Int) = true := by
  unfold wfI
  rw [wrap64 h]
  exact ieq_t rfl
theorem hasI_cast {S : List Nat} {w : Nat} : hasI (castL S) (w : Int) = decide (w ∈ S) := by
  unfold hasI castL
  refine decide_eq_decide.2 ?_
  rw [List.mem_map]
  exact ⟨fun ⟨a, h, e⟩ => (show a = w by omega) ▸ h, fun h => ⟨w, h, rfl⟩⟩
theorem cast_len (S : List Nat) : (castL S).length = S.length := by simp [castL]
theorem rd_cast {S : List Nat} {i : Nat} (h : i < S.length) : rd U64 (castL S) (i : Int) = ((S.getD i 0 : Nat) : Int) := by
  show (castL S).getD (i : Int).toNat (0 : Int) = _
  simp [castL, h]
theorem getD_mem {S : List Nat} {i : Nat} (h : i < S.length) : S.getD i 0 ∈ S := by
  have e : S.getD i 0 = S[i] := by simp [h]
  rw [e]
  exact List.getElem_mem h
theorem closed_l0 {R : Type} {N m : Nat} {op : Int} {k0 : Int → List Int → List Int → Option R} (hm : m ≤ 6) {S : List Nat} (hS : ∀ n ∈ S, n < 2 ^ m) (hl : S.length ≤ 64) (hN : 1048577 ≤ N) :
    Zq4_l0 N k0 N op (tLen (S.map (rowB m))) 0 [] [] (S.map (rowB m)) = k0 op (castL S) (castL S) := by
  have h64 := pow_le64 hm
  have go : ∀ (d n K : Nat), n + d = S.length → d < K → Zq4_l0 N k0 K op (tLen (S.map (rowB m))) (n : Int) (castL (S.take n)) (castL (S.take n)) (S.map (rowB m)) = k0 op (castL S) (castL S) := by
    intro d
    induction d with
    | zero =>
      intro n K hd hK
      obtain ⟨K, rfl⟩ := succ_of hK
      simp only [Zq4_l0]
      rw [ilt_lenf (by simp; omega), br_f, List.take_of_length_le (by omega)]
    | succ d ih =>
      intro n K hd hK
      obtain ⟨K, rfl⟩ := succ_of hK
      have hn : n < S.length := by omega
      have hb := hS _ (List.getElem_mem hn)
      have nx := ih (n + 1) K (by omega) (by omega)
      have hlt : (castL (S.take n)).length ≤ 64 := by rw [cast_len, List.length_take]; omega
      simp only [Zq4_l0]
      rw [ilt_len (by simpa using hn), br_t, inb_n (by simpa using hn), chk_t, rdL_n (by simpa using hn), List.getElem_map, asBits_eq hm hb hN, bind_some']
      simp only []
      have hr : room (α := Int) (β := Int) (castL (S.take n)) [((S[n] : Nat) : Int)] = true := room_ok (by simp only [List.length_singleton]; omega)
      rw [wfI_n (by omega), hr, Bool.and_self, chk_t, chk_t, wrap_succ (by omega), tApp_d]
      have e : castL (S.take n) ++ [((S[n] : Nat) : Int)] = castL (S.take (n + 1)) := by
        unfold castL
        rw [List.take_succ_eq_append_getElem hn, List.map_append]
        rfl
      rw [e]
      exact nx
  exact go S.length 0 N (by omega) (by omega)
def clP (op : Int) (S : List Nat) (i j k : Nat) : Prop := clN op (S.getD i 0) (S.getD j 0) (S.getD k 0) ∈ S
theorem closed_k {R : Type} {N m : Nat} {op : Int} {S : List Nat} {k0 : Bool → Bool → Option R} {k1 : Int → Int → Int → Int → Int → Int → Int → Bool → List Int → List Int → Option R} {x3 x4 x5 x6 x7 : Int} {x8 : Bool} (hm : m ≤ 6) (hS : ∀ n ∈ S, n < 2 ^ m) (hl : S.length ≤ 64) (hop : op = 1 ∨ op = 4) {i j : Nat} (hi : i < S.length) (hj : j < S.length) (hN : 1048577 ≤ N) :
    Zq4_l1_0_0 N k0 k1 N op ((S.getD i 0 : Nat) : Int) ((S.getD j 0 : Nat) : Int) x3 x4 x5 x6 x7 x8 (tLen (castL S)) 0 (castL S) (castL S) = open Classical in if ∀ k, k < S.length → clP op S i j k then k1 op ((S.getD i 0 : Nat) : Int) x3 x4 x5 x6 x7 x8 (castL S) (castL S) else k0 false true := by
  classical
  have h64 := pow_le64 hm
  have hb : ∀ i, i < S.length → S.getD i 0 < 2 ^ m := fun i hi => hS _ (getD_mem hi)
  have bi := hb i hi
  have bj := hb j hj
  refine loop_all_if (P := ∀ k, k < S.length → clP op S i j k) (m := S.length) (L := fun K n => Zq4_l1_0_0 N k0 k1 K op ((S.getD i 0 : Nat) : Int) ((S.getD j 0 : Nat) : Int) x3 x4 x5 x6 x7 x8 (tLen (castL S)) (n : Int) (castL S) (castL S)) (clP op S i j) Iff.rfl (kt := k1 op ((S.getD i 0 : Nat) : Int) x3 x4 x5 x6 x7 x8 (castL S) (castL S)) (kf := k0 false true) (fun K n hn => ?_) (fun K n hn hp => ?_) (fun K n hn hp => ?_) (show S.length < N by omega)
  · simp only [Zq4_l1_0_0]
    rw [ilt_lenf (by rw [cast_len]; exact hn), br_f]
  · have bk := hb n hn
    have hw : clN op (S.getD i 0) (S.getD j 0) (S.getD n 0) < 2 ^ m := clN_lt bi bj bk
    unfold clP at hp
    simp only [Zq4_l1_0_0]
    rw [ilt_len (by rw [cast_len]; exact hn), br_t, inb_n (by rw [cast_len]; exact hn), chk_t, rd_cast hn, wrap_succ (by omega)]
    rcases hop with h | h
    · subst h
      simp only [clN, if_true] at hp hw
      rw [ieq_t rfl, br_t, andN (by omega) (by omega), andN (by omega) (by omega), andN (by omega) (by omega), orN (Nat.lt_of_le_of_lt Nat.and_le_left (by omega)) (Nat.lt_of_le_of_lt Nat.and_le_left (by omega)), orN (Nat.lt_of_lt_of_le (Nat.or_lt_two_pow (Nat.and_lt_two_pow _ bj) (Nat.and_lt_two_pow _ bk)) (by omega)) (Nat.lt_of_le_of_lt Nat.and_le_left (by omega)), wfI_n (by omega), chk_t, hasI_cast, decide_eq_true hp]
      simp only [Bool.not_true, br_f]
      rw [ieq_f (by decide), br_f]
    · subst h
      simp only [clN] at hp hw
      simp only [show ¬ ((4 : Int) = 1) by decide, show ¬ ((4 : Int) = 2) by decide, show ¬ ((4 : Int) = 3) by decide, if_false] at hp hw
      rw [ieq_f (by decide), br_f, ieq_t rfl, br_t, xor64 (by omega) (by omega), xor64 (Nat.lt_of_lt_of_le (Nat.xor_lt_two_pow bi bj) (by omega)) (by omega), wfI_n (by omega), chk_t, hasI_cast, decide_eq_true hp]
      simp only [Bool.not_true, br_f]
  · have bk := hb n hn
    have hw : clN op (S.getD i 0) (S.getD j 0) (S.getD n 0) < 2 ^ m := clN_lt bi bj bk
    unfold clP at hp
    simp only [Zq4_l1_0_0]
    rw [ilt_len (by rw [cast_len]; exact hn), br_t, inb_n (by rw [cast_len]; exact hn), chk_t, rd_cast hn, wrap_succ (by omega)]
    rcases hop with h | h
    · subst h
      simp only [clN, if_true] at hp hw
      rw [ieq_t rfl, br_t, andN (by omega) (by omega), andN (by omega) (by omega), andN (by omega) (by omega), orN (Nat.lt_of_le_of_lt Nat.and_le_left (by omega)) (Nat.lt_of_le_of_lt Nat.and_le_left (by omega)), orN (Nat.lt_of_lt_of_le (Nat.or_lt_two_pow (Nat.and_lt_two_pow _ bj) (Nat.and_lt_two_pow _ bk)) (by omega)) (Nat.lt_of_le_of_lt Nat.and_le_left (by omega)), wfI_n (by omega), chk_t, hasI_cast, decide_eq_false hp]
      simp only [Bool.not_false, br_t]
    · subst h
      simp only [clN] at hp hw
      simp only [show ¬ ((4 : Int) = 1) by decide, show ¬ ((4 : Int) = 2) by decide, show ¬ ((4 : Int) = 3) by decide, if_false] at hp hw
      rw [ieq_f (by decide), br_f, ieq_t rfl, br_t, xor64 (by omega) (by omega), xor64 (Nat.lt_of_lt_of_le (Nat.xor_lt_two_pow bi bj) (by omega)) (by omega), wfI_n (by omega), chk_t, hasI_cast, decide_eq_false hp]
      simp only [Bool.not_false, br_t]
theorem closed_j {R : Type} {N m : Nat} {op : Int} {S : List Nat} {k0 : Bool → Bool → Option R} {k1 : Int → Int → Int → List Int → List Int → Option R} {x6 x7 : Int} (hm : m ≤ 6) (hS : ∀ n ∈ S, n < 2 ^ m) (hl : S.length ≤ 64) (hop : 1 ≤ op ∧ op ≤ 4) {i : Nat} (hi : i < S.length) (hN : 1048577 ≤ N) :
    Zq4_l1_0 N k0 k1 N op ((S.getD i 0 : Nat) : Int) x6 x7 (tLen (castL S)) 0 (castL S) (castL S) = open Classical in if ∀ j, j < S.length → ∀ k, k < S.length → clP op S i j k then k1 op x6 x7 (castL S) (castL S) else k0 false true := by
  classical
  have h64 := pow_le64 hm
  have hb : ∀ i, i < S.length → S.getD i 0 < 2 ^ m := fun i hi => hS _ (getD_mem hi)
  have bi := hb i hi
  have same : ∀ n, n < S.length → (op = 2 ∨ op = 3) → ((∀ k, k < S.length → clP op S i n k) ↔ clN op (S.getD i 0) (S.getD n 0) 0 ∈ S) := fun n hn h => by
    have e : ∀ k, clN op (S.getD i 0) (S.getD n 0) k = clN op (S.getD i 0) (S.getD n 0) 0 := fun k => by
      rcases h with h | h <;> (subst h; rfl)
    unfold clP
    constructor
    · intro h2
      have := h2 n hn
      rwa [e] at this
    · intro h2 k hk
      rw [e]
      exact h2
  refine loop_all_if (P := ∀ j, j < S.length → ∀ k, k < S.length → clP op S i j k) (m := S.length) (L := fun K n => Zq4_l1_0 N k0 k1 K op ((S.getD i 0 : Nat) : Int) x6 x7 (tLen (castL S)) (n : Int) (castL S) (castL S)) (fun j => ∀ k, k < S.length → clP op S i j k) Iff.rfl (kt := k1 op x6 x7 (castL S) (castL S)) (kf := k0 false true) (fun K n hn => ?_) (fun K n hn hp => ?_) (fun K n hn hp => ?_) (show S.length < N by omega)
  · simp only [Zq4_l1_0]
    rw [ilt_lenf (by rw [cast_len]; exact hn), br_f]
  · have bj := hb n hn
    have hws : IntKind.i64.wrap ((n : Int) + 1) = ((n + 1 : Nat) : Int) := wrap_succ (by omega)
    simp only [Zq4_l1_0]
    rw [ilt_len (by rw [cast_len]; exact hn), br_t, inb_n (by rw [cast_len]; exact hn), chk_t, rd_cast hn]
    by_cases h2 : op = 2
    · have hp := (same n hn (.inl h2)).1 hp
      subst h2
      simp only [clN, show ¬ ((2 : Int) = 1) by decide, if_false, if_true] at hp
      rw [ieq_t rfl, br_t, andN (by omega) (by omega), wfI_n (Nat.lt_of_le_of_lt Nat.and_le_left (by omega)), chk_t, hasI_cast, decide_eq_true hp, ieq_f (by decide), br_f, br_t, hws]
      rfl
    · by_cases h3 : op = 3
      · have hp := (same n hn (.inr h3)).1 hp
        subst h3
        simp only [clN, show ¬ ((3 : Int) = 1) by decide, show ¬ ((3 : Int) = 2) by decide, if_false, if_true] at hp
        rw [ieq_f (by decide), br_f, ieq_t rfl, br_t, orN (by omega) (by omega), wfI_n (Nat.lt_of_lt_of_le (Nat.or_lt_two_pow bi bj) (by omega)), chk_t, hasI_cast, decide_eq_true hp, br_f, br_t, hws]
        rfl
      · have hop' : op = 1 ∨ op = 4 := by omega
        simp only [ieq_f h2, ieq_f h3, br_f]
        have := closed_k (N := N) (k0 := fun x10 x11 => k0 x10 x11) (k1 := fun x12 x13 x14 x15 x16 x17 x18 x19 o6 o7 => Zq4_l1_0 N k0 k1 K x12 x13 x14 x15 x16 (IntKind.i64.wrap (x17 + 1)) o6 o7) (x3 := x6) (x4 := x7) (x5 := tLen (castL S)) (x6 := (n : Int)) (x7 := op) (x8 := false) hm hS hl hop' hi hn hN
        rw [if_pos hp] at this
        simp only [hws] at this
        exact this
  · have bj := hb n hn
    have hws : IntKind.i64.wrap ((n : Int) + 1) = ((n + 1 : Nat) : Int) := wrap_succ (by omega)
    simp only [Zq4_l1_0]
    rw [ilt_len (by rw [cast_len]; exact hn), br_t, inb_n (by rw [cast_len]; exact hn), chk_t, rd_cast hn]
    by_cases h2 : op = 2
    · have hp := fun q => hp ((same n hn (.inl h2)).2 q)
      subst h2
      simp only [clN, show ¬ ((2 : Int) = 1) by decide, if_false, if_true] at hp
      rw [ieq_t rfl, br_t, andN (by omega) (by omega), wfI_n (Nat.lt_of_le_of_lt Nat.and_le_left (by omega)), chk_t, hasI_cast, decide_eq_false hp]
      rfl
    · by_cases h3 : op = 3
      · have hp := fun q => hp ((same n hn (.inr h3)).2 q)
        subst h3
        simp only [clN, show ¬ ((3 : Int) = 1) by decide, show ¬ ((3 : Int) = 2) by decide, if_false, if_true] at hp
        rw [ieq_f (by decide), br_f, ieq_t rfl, br_t, orN (by omega) (by omega), wfI_n (Nat.lt_of_lt_of_le (Nat.or_lt_two_pow bi bj) (by omega)), chk_t, hasI_cast, decide_eq_false hp]
        rfl
      · have hop' : op = 1 ∨ op = 4 := by omega
        simp only [ieq_f h2, ieq_f h3, br_f]
        have := closed_k (N := N) (k0 := fun x10 x11 => k0 x10 x11) (k1 := fun x12 x13 x14 x15 x16 x17 x18 x19 o6 o7 => Zq4_l1_0 N k0 k1 K x12 x13 x14 x15 x16 (IntKind.i64.wrap (x17 + 1)) o6 o7) (x3 := x6) (x4 := x7) (x5 := tLen (castL S)) (x6 := (n : Int)) (x7 := op) (x8 := false) hm hS hl hop' hi hn hN
        rw [if_neg hp] at this
        exact this
end Go.Proofs.Ytfilchmabmfmaaa
