/- Statements on data alone. -/
import Derived.Test.YtbnebekejbhopaaPvPure
import Derived.Test.YtbnebekejbhopaaLooseVarsFb
set_option linter.all false
set_option linter.all false
namespace Go.Proofs.Ytbnebekejbhopaa
open Go Go.PV Classical
theorem toIntS_l0_eq {R : Type} (N : Nat) (k0 : List Int → Option R) (xs : List Int) (hx : xs.length ≤ 1099511627776) : ∀ (d n : Nat) (o : List Int) (K : Nat), n + d = xs.length → d < K → o.length = xs.length →
    laws_toIntS_l0 N k0 K xs n o = k0 (o.take n ++ xs.drop n) := by
  intro d
  induction d with
  | zero =>
    intro n o K hd hK ho
    obtain ⟨k, rfl⟩ := succ_of hK
    have hn : ¬ n < xs.length := by omega
    simp only [laws_toIntS_l0, ilt_lenf hn, br_f]
    rw [List.take_of_length_le (by omega), List.drop_of_length_le (by omega), List.append_nil]
  | succ d ih =>
    intro n o K hd hK ho
    obtain ⟨k, rfl⟩ := succ_of hK
    have hn : n < xs.length := by omega
    have hno : n < o.length := by omega
    simp only [laws_toIntS_l0, ilt_len hn, inb_n hn, inb_n hno, br_t, chk_t]
    rw [wrap_succ (by omega), tSet_n, rdI_n hn, ih (n + 1) _ k (by omega) (by omega) (by simpa using ho)]
    congr 1
    rw [drop_cons hn, List.take_add_one, List.getElem?_set_self (by omega), List.take_set_of_le (Nat.le_refl n)]
    simp
theorem toIntS_eq {N : Nat} {xs : List Int} (hx : xs.length ≤ 1048576) (hN : 1048577 ≤ N) : laws_toIntS N xs = some ((xs, ()), ()) := by
  unfold laws_toIntS
  simp only [tLen_n, ile_t (show (0 : Int) ≤ (xs.length : Int) by omega), ile_t (Int.le_refl _), fits_ok (show xs.length ≤ 1099511627776 by omega), Bool.and_self, chk_t]
  have := toIntS_l0_eq N (fun o => some ((o, ()), ())) xs (by omega) xs.length 0 (tRep (xs.length : Int) 0) N (by omega) (by omega) (by simp [tRep])
  simp only [Int.natCast_zero, List.take_zero, List.drop_zero, List.nil_append] at this
  exact this
theorem eqIntS_l0_eq {R : Type} (N : Nat) (k0 : Bool → Option R) (k1 : Unit → Option R) (a b : List Int) (hx : a.length ≤ 1099511627776) (hl : a.length = b.length) : ∀ (d n : Nat) (K : Nat), n + d = a.length → d < K →
    laws_eqIntS_l0 N k0 k1 K a b n = if a.drop n = b.drop n then k1 () else k0 false := by
  intro d
  induction d with
  | zero =>
    intro n K hd hK
    obtain ⟨k, rfl⟩ := succ_of hK
    have hn : ¬ n < a.length := by omega
    simp only [laws_eqIntS_l0, ilt_lenf hn, br_f]
    rw [if_pos]
    rw [List.drop_of_length_le (by omega), List.drop_of_length_le (by omega)]
  | succ d ih =>
    intro n K hd hK
    obtain ⟨k, rfl⟩ := succ_of hK
    have hn : n < a.length := by omega
    have hnb : n < b.length := by omega
    simp only [laws_eqIntS_l0, ilt_len hn, inb_n hn, inb_n hnb, br_t, chk_t]
    rw [wrap_succ (by omega), rdI_n hn, rdI_n hnb, ih (n + 1) k (by omega) (by omega), drop_cons hn, drop_cons hnb]
    by_cases he : a[n] = b[n]
    · rw [ine_f he, br_f, he]
      simp only [List.cons.injEq, true_and]
    · rw [ine_t he, br_t, if_neg]
      intro h
      injection h with h _
      exact he h
theorem eqIntS_eq {N : Nat} {a b : List Int} (hx : a.length ≤ 1099511627776) (hN : a.length < N) : laws_eqIntS N a b = some ((decide (a = b), ()), ()) := by
  unfold laws_eqIntS
  simp only [tLen_n]
  by_cases hl : a.length = b.length
  · rw [ine_f (by omega), br_f]
    have := eqIntS_l0_eq N (fun x => some ((x, ()), ())) (fun _ => some ((true, ()), ())) a b hx hl a.length 0 N (by omega) (by omega)
    simp only [Int.natCast_zero, List.drop_zero] at this
    rw [this]
    by_cases h : a = b <;> simp [h]
  · rw [ine_t (by omega), br_t]
    have : a ≠ b := fun h => hl (by rw [h])
    simp [this]

/-! ### How much a law lets in -/
theorem szIntS_eq (N : Nat) {xs : List Int} {left : Int} (hl : 0 ≤ left ∧ left ≤ 1048576) (hx : xs.length ≤ 9223372036854775807) : laws_szIntS N xs left = some ((if (xs.length : Int) ≤ left then left - xs.length else -1, ()), ()) := by
  unfold laws_szIntS
  rw [tLen_n, wrap_ok (by omega) (by omega)]
  by_cases h : (xs.length : Int) ≤ left
  · rw [ilt_f (by omega), br_f, if_pos h]
  · rw [ilt_t (by omega), br_t, if_neg h]
/-- What is left behind lists. -/
def szL : List (List Int) → Int → Int
  | [], l => l
  | x :: xs, l => if (x.length : Int) ≤ l then szL xs (l - x.length) else -1
theorem szL_le : ∀ (xs : List (List Int)) (l : Int), 0 ≤ l → 0 ≤ szL xs l → szL xs l ≤ l ∧ ∀ x ∈ xs, (x.length : Int) ≤ l := by
  intro xs
  induction xs with
  | nil => intro l h _; exact ⟨Int.le_refl l, by simp⟩
  | cons x xs ih =>
    intro l h0 h
    unfold szL at h ⊢
    by_cases hx : (x.length : Int) ≤ l
    · rw [if_pos hx] at h ⊢
      obtain ⟨h1, h2⟩ := ih _ (by omega) h
      refine ⟨by omega, fun y hy => ?_⟩
      rcases List.mem_cons.1 hy with rfl | hy
      · exact hx
      · have := h2 y hy
        omega
    · rw [if_neg hx] at h
      omega
theorem szIntSS_l0_eq {R : Type} (N : Nat) (k0 k1 : Int → Option R) (xs : List (List Int)) (hx : ∀ x ∈ xs, x.length ≤ 9223372036854775807) (hl : xs.length ≤ 1048576) : ∀ (d n : Nat) (left : Int) (K : Nat), n + d = xs.length → d < K → 0 ≤ left → left ≤ 1048576 →
    laws_szIntSS_l0 N k0 k1 K xs left n = if 0 ≤ szL (xs.drop n) left then k1 (szL (xs.drop n) left) else k0 (-1) := by
  intro d
  induction d with
  | zero =>
    intro n left K hd hK h0 h1
    obtain ⟨k, rfl⟩ := succ_of hK
    have hn : ¬ n < xs.length := by omega
    simp only [laws_szIntSS_l0, ilt_lenf hn, br_f]
    rw [List.drop_of_length_le (by omega)]
    simp [szL, h0]
  | succ d ih =>
    intro n left K hd hK h0 h1
    obtain ⟨k, rfl⟩ := succ_of hK
    have hn : n < xs.length := by omega
    simp only [laws_szIntSS_l0, ilt_len hn, inb_n hn, br_t, chk_t]
    obtain ⟨y, r, e1, e2, e3⟩ := drop_split hn
    have hy := hx _ (List.getElem_mem hn)
    rw [rdL_n hn, e2] at *
    rw [e2] at hy
    rw [szIntS_eq N ⟨h0, h1⟩ hy, bind_some', e1]
    unfold szL
    by_cases h : (y.length : Int) ≤ left
    · simp only [if_pos h]
      rw [ilt_f (by omega), br_f, wrap_succ (by omega), ih (n + 1) _ k (by omega) (by omega) (by omega) (by omega), e3]
    · simp only [if_neg h]
      rw [ilt_t (by omega), br_t, if_neg (by omega)]
theorem szIntSS_eq {N : Nat} {xs : List (List Int)} {left : Int} (h0 : 0 ≤ left ∧ left ≤ 1048576) (hx : xs.length ≤ 9223372036854775807) (hxs : ∀ x ∈ xs, x.length ≤ 9223372036854775807) (hN : 1048577 ≤ N) :
    ∃ r : Int, laws_szIntSS N xs left = some ((r, ()), ()) ∧ (0 ≤ r → r ≤ left ∧ (xs.length : Int) ≤ left ∧ ∀ x ∈ xs, (x.length : Int) ≤ left) := by
  unfold laws_szIntSS
  rw [tLen_n, wrap_ok (by omega) (by omega)]
  by_cases h : (xs.length : Int) ≤ left
  · rw [ilt_f (by omega), br_f]
    have := szIntSS_l0_eq N (fun x => some ((x, ()), ())) (fun left1 => some ((left1, ()), ())) xs hxs (by omega) xs.length 0 (left - xs.length) N (by omega) (by omega) (by omega) (by omega)
    simp only [Int.natCast_zero, List.drop_zero] at this
    rw [this]
    by_cases hs : 0 ≤ szL xs (left - xs.length)
    · rw [if_pos hs]
      obtain ⟨h1, h2⟩ := szL_le xs _ (by omega) hs
      exact ⟨_, rfl, fun _ => ⟨by omega, h, fun x hx => by have := h2 x hx; omega⟩⟩
    · rw [if_neg hs]
      exact ⟨_, rfl, fun h => by omega⟩
  · rw [ilt_t (by omega), br_t]
    exact ⟨_, rfl, fun h => by omega⟩
theorem toIntSS_l0_eq {R : Type} (N : Nat) (k0 : List (List Int) → Option R) (xs : List (List Int)) (hx : xs.length ≤ 1048576) (hxs : ∀ x ∈ xs, x.length ≤ 1048576) (hN : 1048577 ≤ N) : ∀ (d n : Nat) (o : List (List Int)) (K : Nat), n + d = xs.length → d < K → o.length = xs.length →
    laws_toIntSS_l0 N k0 K xs n o = k0 (o.take n ++ xs.drop n) := by
  intro d
  induction d with
  | zero =>
    intro n o K hd hK ho
    obtain ⟨k, rfl⟩ := succ_of hK
    have hn : ¬ n < xs.length := by omega
    simp only [laws_toIntSS_l0, ilt_lenf hn, br_f]
    rw [List.take_of_length_le (by omega), List.drop_of_length_le (by omega), List.append_nil]
  | succ d ih =>
    intro n o K hd hK ho
    obtain ⟨k, rfl⟩ := succ_of hK
    have hn : n < xs.length := by omega
    have hno : n < o.length := by omega
    simp only [laws_toIntSS_l0, ilt_len hn, inb_n hn, inb_n hno, br_t, chk_t]
    rw [rdL_n hn, toIntS_eq (hxs _ (List.getElem_mem hn)) hN, bind_some', wrap_succ (by omega), tSet_n, ih (n + 1) _ k (by omega) (by omega) (by simpa using ho)]
    congr 1
    rw [drop_cons hn, List.take_add_one, List.getElem?_set_self (by omega), List.take_set_of_le (Nat.le_refl n)]
    simp
theorem toIntSS_eq {N : Nat} {xs : List (List Int)} (hx : xs.length ≤ 1048576) (hxs : ∀ x ∈ xs, x.length ≤ 1048576) (hN : 1048577 ≤ N) : laws_toIntSS N xs = some ((xs, ()), ()) := by
  unfold laws_toIntSS
  simp only [tLen_n, ile_t (show (0 : Int) ≤ (xs.length : Int) by omega), ile_t (Int.le_refl _), fits_ok (show xs.length ≤ 1099511627776 by omega), Bool.and_self, chk_t]
  have := toIntSS_l0_eq N (fun o => some ((o, ()), ())) xs hx hxs hN xs.length 0 (tRep (xs.length : Int) []) N (by omega) (by omega) (by simp [tRep])
  simp only [Int.natCast_zero, List.take_zero, List.drop_zero, List.nil_append] at this
  exact this
theorem eqIntSS_l0_eq {R : Type} (N : Nat) (k0 : Bool → Option R) (k1 : Unit → Option R) (a b : List (List Int)) (hx : a.length ≤ 1099511627776) (hxs : ∀ x ∈ a, x.length ≤ 1048576) (hN : 1048577 ≤ N) (hl : a.length = b.length) : ∀ (d n : Nat) (K : Nat), n + d = a.length → d < K →
    laws_eqIntSS_l0 N k0 k1 K a b n = if a.drop n = b.drop n then k1 () else k0 false := by
  intro d
  induction d with
  | zero =>
    intro n K hd hK
    obtain ⟨k, rfl⟩ := succ_of hK
    have hn : ¬ n < a.length := by omega
    simp only [laws_eqIntSS_l0, ilt_lenf hn, br_f]
    rw [if_pos]
    rw [List.drop_of_length_le (by omega), List.drop_of_length_le (by omega)]
  | succ d ih =>
    intro n K hd hK
    obtain ⟨k, rfl⟩ := succ_of hK
    have hn : n < a.length := by omega
    have hnb : n < b.length := by omega
    simp only [laws_eqIntSS_l0, ilt_len hn, inb_n hn, inb_n hnb, br_t, chk_t]
    have ha := hxs _ (List.getElem_mem hn)
    rw [wrap_succ (by omega), rdL_n hn, rdL_n hnb, eqIntS_eq (by omega) (by omega), bind_some', ih (n + 1) k (by omega) (by omega), drop_cons hn, drop_cons hnb, br_ite]
    by_cases he : a[n] = b[n]
    · rw [he, if_neg (by simp)]
      simp only [List.cons.injEq, true_and]
    · rw [if_pos (by simp [he]), if_neg]
      intro h
      injection h with h _
      exact he h
theorem eqIntSS_eq {N : Nat} {a b : List (List Int)} (hx : a.length ≤ 1048576) (hxs : ∀ x ∈ a, x.length ≤ 1048576) (hN : 1048577 ≤ N) : laws_eqIntSS N a b = some ((decide (a = b), ()), ()) := by
  unfold laws_eqIntSS
  simp only [tLen_n]
  by_cases hl : a.length = b.length
  · rw [ine_f (by omega), br_f]
    have := eqIntSS_l0_eq N (fun x => some ((x, ()), ())) (fun _ => some ((true, ()), ())) a b (by omega) hxs hN hl a.length 0 N (by omega) (by omega)
    simp only [Int.natCast_zero, List.drop_zero] at this
    rw [this]
    by_cases h : a = b <;> simp [h]
  · rw [ine_t (by omega), br_t]
    have : a ≠ b := fun h => hl (by rw [h])
    simp [this]
theorem all_rdI {xs : List Int} {p : Int → Prop} : (∀ x ∈ xs, p x) ↔ ∀ i : Nat, i < xs.length → p (rdI xs i) := by
  constructor
  · intro h i hi
    rw [rdI_n hi]
    exact h _ (List.getElem_mem hi)
  · intro h x hx
    obtain ⟨i, hi, rfl⟩ := List.mem_iff_getElem.1 hx
    have := h i hi
    rwa [rdI_n hi] at this
theorem all_rdL {xs : List (List Int)} {p : List Int → Prop} : (∀ x ∈ xs, p x) ↔ ∀ i : Nat, i < xs.length → p (rdL xs i) := by
  constructor
  · intro h i hi
    rw [rdL_n hi]
    exact h _ (List.getElem_mem hi)
  · intro h x hx
    obtain ⟨i, hi, rfl⟩ := List.mem_iff_getElem.1 hx
    have := h i hi
    rwa [rdL_n hi] at this
theorem not_any {α : Type} {xs : List α} {f : α → Bool} : (!(xs.any f)) = decide (∀ x ∈ xs, f x = false) := by
  induction xs with
  | nil => simp
  | cons x xs ih =>
    rw [List.any_cons, Bool.not_or, ih]
    by_cases h : f x = true <;> simp [h]
def findAt {α : Type} (f : α → Bool) : List α → Nat → Int
  | [], _ => -1
  | x :: xs, n => if f x = true then (n : Int) else findAt f xs (n + 1)
theorem findAt_cons {α : Type} (f : α → Bool) (x : α) (xs : List α) (n : Nat) : findAt f (x :: xs) n = if f x = true then (n : Int) else findAt f xs (n + 1) := rfl
theorem findAt_ge {α : Type} (f : α → Bool) : ∀ (xs : List α) (n : Nat), decide (0 ≤ findAt f xs n) = xs.any f := by
  intro xs
  induction xs with
  | nil => intro n; rfl
  | cons x xs ih =>
    intro n
    unfold findAt
    by_cases h : f x = true
    · rw [if_pos h]
      simp [h]
    · rw [if_neg h, ih]
      simp [h]
theorem IndexFunc_LI_int_l0_eq {R : Type} (N : Nat) (k0 : Int → Option R) (k1 : Unit → Option R) (xs : List (Int)) (f : Int → Option Bool) (g : Int → Bool) (hf : ∀ x ∈ xs, f x = some (g x)) (hx : xs.length ≤ 1099511627776) : ∀ (d n : Nat) (K : Nat), n + d = xs.length → d < K →
    slices_IndexFunc_LI_int_l0 N k0 k1 K xs f (xs.length : Int) n = if (xs.drop n).any g = true then k0 (findAt g (xs.drop n) n) else k1 () := by
  intro d
  induction d with
  | zero =>
    intro n K hd hK
    obtain ⟨k, rfl⟩ := succ_of hK
    have hn : ¬ n < xs.length := by omega
    simp only [slices_IndexFunc_LI_int_l0, ilt_nf hn, br_f]
    rw [List.drop_of_length_le (by omega)]
    simp
  | succ d ih =>
    intro n K hd hK
    obtain ⟨k, rfl⟩ := succ_of hK
    have hn : n < xs.length := by omega
    simp only [slices_IndexFunc_LI_int_l0, ilt_n hn, inb_n hn, br_t, chk_t]
    obtain ⟨y, r, e1, e2, e3⟩ := drop_split hn
    rw [wrap_succ (by omega), rdI_n hn, ih (n + 1) k (by omega) (by omega), hf _ (List.getElem_mem hn), bind_some', br_ite, e1, e2, e3, findAt_cons]
    by_cases h : g y = true
    · simp [h]
    · simp [h]
theorem ContainsFunc_LI_int_eq {N : Nat} {xs : List (Int)} {f : Int → Option Bool} {g : Int → Bool} (hf : ∀ x ∈ xs, f x = some (g x)) (hx : xs.length ≤ 1099511627776) (hN : xs.length < N) :
    slices_ContainsFunc_LI_int N xs f = some ((xs.any g, ()), ()) := by
  unfold slices_ContainsFunc_LI_int slices_IndexFunc_LI_int
  have := IndexFunc_LI_int_l0_eq N (fun x => some ((x, ()), ())) (fun _ => some (((-1 : Int), ()), ())) xs f g hf hx xs.length 0 N (by omega) (by omega)
  simp only [Int.natCast_zero, List.drop_zero] at this
  rw [tLen_n, this]
  by_cases h : xs.any g = true
  · rw [if_pos h, bind_some', ile_d, findAt_ge]
  · rw [if_neg h, bind_some']
    simp only [Bool.not_eq_true] at h
    rw [h]
    rfl
theorem IndexFunc_LLI_LI_l0_eq {R : Type} (N : Nat) (k0 : Int → Option R) (k1 : Unit → Option R) (xs : List (List Int)) (f : List Int → Option Bool) (g : List Int → Bool) (hf : ∀ x ∈ xs, f x = some (g x)) (hx : xs.length ≤ 1099511627776) : ∀ (d n : Nat) (K : Nat), n + d = xs.length → d < K →
    slices_IndexFunc_LLI_LI_l0 N k0 k1 K xs f (xs.length : Int) n = if (xs.drop n).any g = true then k0 (findAt g (xs.drop n) n) else k1 () := by
  intro d
  induction d with
  | zero =>
    intro n K hd hK
    obtain ⟨k, rfl⟩ := succ_of hK
    have hn : ¬ n < xs.length := by omega
    simp only [slices_IndexFunc_LLI_LI_l0, ilt_nf hn, br_f]
    rw [List.drop_of_length_le (by omega)]
    simp
  | succ d ih =>
    intro n K hd hK
    obtain ⟨k, rfl⟩ := succ_of hK
    have hn : n < xs.length := by omega
    simp only [slices_IndexFunc_LLI_LI_l0, ilt_n hn, inb_n hn, br_t, chk_t]
    obtain ⟨y, r, e1, e2, e3⟩ := drop_split hn
    rw [wrap_succ (by omega), rdL_n hn, ih (n + 1) k (by omega) (by omega), hf _ (List.getElem_mem hn), bind_some', br_ite, e1, e2, e3, findAt_cons]
    by_cases h : g y = true
    · simp [h]
    · simp [h]
theorem ContainsFunc_LLI_LI_eq {N : Nat} {xs : List (List Int)} {f : List Int → Option Bool} {g : List Int → Bool} (hf : ∀ x ∈ xs, f x = some (g x)) (hx : xs.length ≤ 1099511627776) (hN : xs.length < N) :
    slices_ContainsFunc_LLI_LI N xs f = some ((xs.any g, ()), ()) := by
  unfold slices_ContainsFunc_LLI_LI slices_IndexFunc_LLI_LI
  have := IndexFunc_LLI_LI_l0_eq N (fun x => some ((x, ()), ())) (fun _ => some (((-1 : Int), ()), ())) xs f g hf hx xs.length 0 N (by omega) (by omega)
  simp only [Int.natCast_zero, List.drop_zero] at this
  rw [tLen_n, this]
  by_cases h : xs.any g = true
  · rw [if_pos h, bind_some', ile_d, findAt_ge]
  · rw [if_neg h, bind_some']
    simp only [Bool.not_eq_true] at h
    rw [h]
    rfl
def isBit (n : Int) : Bool := decide (0 ≤ n ∧ n ≤ 1)
theorem l1In_eq (N : Nat) (x a b : Int) : spec_l1In N x a b = some ((decide (a ≤ x ∧ x ≤ b), ()), ()) := by
  unfold spec_l1In
  rw [br_ite, ile_d, ile_d]
  by_cases h : a ≤ x <;> by_cases h' : x ≤ b <;> simp [h, h']
theorem between_eq (N : Nat) (n low high : Int) : impl_between N n low high = some ((decide (low ≤ n ∧ n ≤ high), ()), ()) := by
  unfold impl_between
  rw [br_ite, ile_d, ile_d]
  by_cases h : low ≤ n <;> by_cases h' : n ≤ high <;> simp [h, h']
theorem l6Bits_l0_eq {R : Type} (N : Nat) (k0 : Bool → Option R) (k1 : Int → List Int → Option R) (v : Int) (xs : List Int) (hx : xs.length ≤ 1099511627776) : ∀ (d n : Nat) (K : Nat), n + d = xs.length → d < K →
    spec_l6Bits_l0 N k0 k1 K v xs n = if (xs.drop n).all isBit = true then k1 v xs else k0 false := by
  intro d
  induction d with
  | zero =>
    intro n K hd hK
    obtain ⟨k, rfl⟩ := succ_of hK
    have hn : ¬ n < xs.length := by omega
    simp only [spec_l6Bits_l0, ilt_lenf hn, br_f]
    rw [List.drop_of_length_le (by omega)]
    simp
  | succ d ih =>
    intro n K hd hK
    obtain ⟨k, rfl⟩ := succ_of hK
    have hn : n < xs.length := by omega
    simp only [spec_l6Bits_l0, ilt_len hn, inb_n hn, br_t, chk_t, l1In_eq, bind_some']
    rw [wrap_succ (by omega), rdI_n hn, ih (n + 1) k (by omega) (by omega), drop_cons hn, List.all_cons, br_ite]
    by_cases h : 0 ≤ xs[n] ∧ xs[n] ≤ 1
    · simp [isBit, h]
    · simp [isBit, h]
theorem l6Bits_eq {N : Nat} {v : Int} {xs : List Int} (hx : xs.length ≤ 1099511627776) (hN : xs.length < N) : spec_l6Bits N v xs = some ((xs.all isBit && decide ((xs.length : Int) = v), ()), ()) := by
  unfold spec_l6Bits
  have := l6Bits_l0_eq N (fun x => some ((x, ()), ())) (fun vars1 bits1 => some (((ieq (tLen bits1) vars1), ()), ())) v xs hx xs.length 0 N (by omega) (by omega)
  simp only [Int.natCast_zero, List.drop_zero] at this
  rw [this, tLen_n, ieq_d]
  by_cases h : xs.all isBit = true
  · rw [if_pos h, h, Bool.true_and]
  · rw [if_neg h]
    simp [h]
theorem any_not {α : Type} (f : α → Bool) : ∀ xs : List α, (!(xs.any fun x => !f x)) = xs.all f := by
  intro xs
  induction xs with
  | nil => rfl
  | cons x xs ih => simp only [List.any_cons, List.all_cons, Bool.not_or, Bool.not_not, ih]
theorem isAssignment_eq {N : Nat} {v : Int} {xs : List Int} (hx : xs.length ≤ 1099511627776) (hN : xs.length < N) : impl_isAssignment N v xs = some ((xs.all isBit && decide ((xs.length : Int) = v), ()), ()) := by
  unfold impl_isAssignment
  rw [ContainsFunc_LI_int_eq (g := fun n => !isBit n) (fun x _ => by simp only [impl_isAssignment_c1, between_eq, bind_some']; rfl) hx hN, bind_some', any_not, tLen_n, ieq_d, br_ite]
  by_cases h : (xs.length : Int) = v <;> simp [h]

/-- At which places two lists differ. -/
def risingAt (lo hi : Int) (xs : List Int) (i : Nat) : Prop := (lo ≤ rdI xs i ∧ rdI xs i ≤ hi) ∧ (0 < i → rdI xs ((i - 1 : Nat) : Int) < rdI xs i)
def rising (lo hi : Int) (xs : List Int) : Prop := ∀ i, i < xs.length → risingAt lo hi xs i
theorem l1Rising_eq {N : Nat} {lo hi : Int} {xs : List Int} (hx : xs.length ≤ 1048576) (hN : 1048577 ≤ N) : spec_l1Rising N xs lo hi = some ((decide (rising lo hi xs), ()), ()) := by
  unfold spec_l1Rising
  have := loop_all_if (P := rising lo hi xs) (L := fun K i => spec_l1Rising_l0 N (fun x => some ((x, ()), ())) (fun (_ : Unit) => some ((true, ()), ())) K xs lo hi i) (risingAt lo hi xs) Iff.rfl (kt := some ((true, ()), ())) (kf := some ((false, ()), ())) (fun K n hn => ?_) (fun K n hn hp => ?_) (fun K n hn hp => ?_) (show xs.length < N by omega)
  · rw [show ((0 : Nat) : Int) = 0 from rfl] at this
    rw [this]
    by_cases h : rising lo hi xs <;> simp [h]
  · simp only [spec_l1Rising_l0, ilt_lenf hn, br_f]
  · simp only [spec_l1Rising_l0, ilt_len hn, br_t, inb_n hn, chk_t, l1In_eq, bind_some']
    obtain ⟨h1, h2⟩ := hp
    rw [decide_eq_true h1, Bool.not_true, br_f]
    by_cases h0 : 0 < n
    · rw [ilt_0 h0, br_t, wrap_pred (by omega) h0, inb_n (by omega), chk_t, ile_f (by have := h2 h0; omega), br_f, wrap_succ (by omega)]
    · rw [ilt_0n h0, br_f, wrap_succ (by omega)]
  · simp only [spec_l1Rising_l0, ilt_len hn, br_t, inb_n hn, chk_t, l1In_eq, bind_some']
    by_cases h1 : lo ≤ rdI xs n ∧ rdI xs n ≤ hi
    · rw [decide_eq_true h1, Bool.not_true, br_f]
      have h0 : 0 < n := by
        rcases Nat.eq_zero_or_pos n with h0 | h0
        · exact absurd ⟨h1, fun h' => by omega⟩ hp
        · exact h0
      have h4 : ¬ rdI xs ((n - 1 : Nat) : Int) < rdI xs n := fun h' => hp ⟨h1, fun _ => h'⟩
      rw [ilt_0 h0, br_t, wrap_pred (by omega) h0, inb_n (by omega), chk_t, ile_t (by omega), br_t]
    · rw [decide_eq_false h1, Bool.not_false, br_t]
theorem isRising_eq {N : Nat} {m : Int} {xs : List Int} (hx : xs.length ≤ 1048576) (hm : 0 ≤ m ∧ m ≤ 4611686018427387904) (hN : 1048577 ≤ N) : impl_isRising N xs m = some ((decide (rising 0 (m - 1) xs), ()), ()) := by
  unfold impl_isRising
  have := loop_all_if (P := rising 0 (m - 1) xs) (L := fun K i => impl_isRising_l0 N (fun x => some ((x, ()), ())) (fun (_ : Unit) => some ((true, ()), ())) K xs m xs (xs.length : Int) i) (risingAt 0 (m - 1) xs) Iff.rfl (kt := some ((true, ()), ())) (kf := some ((false, ()), ())) (fun K n hn => ?_) (fun K n hn hp => ?_) (fun K n hn hp => ?_) (show xs.length < N by omega)
  · rw [show ((0 : Nat) : Int) = 0 from rfl] at this
    rw [tLen_n, this]
    by_cases h : rising 0 (m - 1) xs <;> simp [h]
  · simp only [impl_isRising_l0, ilt_nf hn, br_f]
  · simp only [impl_isRising_l0, ilt_n hn, br_t, inb_n hn, chk_t, between_eq, bind_some', wrap_ok (show -9223372036854775808 ≤ m - 1 by omega) (show m - 1 < 9223372036854775808 by omega)]
    obtain ⟨h1, h2⟩ := hp
    rw [decide_eq_true h1, Bool.not_true, br_f]
    by_cases h0 : 0 < n
    · rw [ilt_0 h0, br_t, wrap_pred (by omega) h0, inb_n (by omega), chk_t, ile_f (by have := h2 h0; omega), br_f, wrap_succ (by omega)]
    · rw [ilt_0n h0, br_f, wrap_succ (by omega)]
  · simp only [impl_isRising_l0, ilt_n hn, br_t, inb_n hn, chk_t, between_eq, bind_some', wrap_ok (show -9223372036854775808 ≤ m - 1 by omega) (show m - 1 < 9223372036854775808 by omega)]
    by_cases h1 : 0 ≤ rdI xs n ∧ rdI xs n ≤ m - 1
    · rw [decide_eq_true h1, Bool.not_true, br_f]
      have h0 : 0 < n := by
        rcases Nat.eq_zero_or_pos n with h0 | h0
        · exact absurd ⟨h1, fun h' => by omega⟩ hp
        · exact h0
      have h4 : ¬ rdI xs ((n - 1 : Nat) : Int) < rdI xs n := fun h' => hp ⟨h1, fun _ => h'⟩
      rw [ilt_0 h0, br_t, wrap_pred (by omega) h0, inb_n (by omega), chk_t, ile_t (by omega), br_t]
    · rw [decide_eq_false h1, Bool.not_false, br_t]
theorem szParity_eq {N : Nat} {a : Int × (List (List Int) × List Int)} (hx : a.2.1.length ≤ 9223372036854775807) (hxs : ∀ x ∈ a.2.1, x.length ≤ 9223372036854775807) (hy : a.2.2.length ≤ 9223372036854775807) (hN : 1048577 ≤ N) :
    ∃ r : Int, laws_szParity N a 1048576 = some ((r, ()), ()) ∧ (0 ≤ r → a.2.1.length ≤ 1048576 ∧ (∀ x ∈ a.2.1, x.length ≤ 1048576) ∧ a.2.2.length ≤ 1048576) := by
  obtain ⟨r, h1, h2⟩ := szIntSS_eq (left := 1048576) (by omega) hx hxs hN
  unfold laws_szParity
  simp only [h1, bind_some']
  by_cases h : 0 ≤ r
  · rw [ilt_f (by omega), br_f]
    obtain ⟨h5, h3, h4⟩ := h2 h
    rw [szIntS_eq N ⟨h, h5⟩ hy, bind_some']
    by_cases hl : (a.2.2.length : Int) ≤ r
    · simp only [if_pos hl]
      rw [ilt_f (by omega), br_f]
      exact ⟨_, rfl, fun _ => ⟨by omega, fun x hx => by have := h4 x hx; omega, by omega⟩⟩
    · simp only [if_neg hl]
      rw [ilt_t (by omega), br_t]
      exact ⟨-1, rfl, fun h => by omega⟩
  · rw [ilt_t (by omega), br_t]
    exact ⟨-1, rfl, fun h => by omega⟩
theorem toParity_eq {N : Nat} {a : Int × (List (List Int) × List Int)} (hx : a.2.1.length ≤ 1048576) (hxs : ∀ x ∈ a.2.1, x.length ≤ 1048576) (hy : a.2.2.length ≤ 1048576) (hN : 1048577 ≤ N) : laws_toParity N a = some ((a, ()), ()) := by
  unfold laws_toParity
  simp only [toIntSS_eq hx hxs hN, toIntS_eq hy hN, bind_some']
theorem eqParity_eq {N : Nat} {a b : Int × (List (List Int) × List Int)} (hx : a.2.1.length ≤ 1048576) (hxs : ∀ x ∈ a.2.1, x.length ≤ 1048576) (hy : a.2.2.length ≤ 1048576) (hN : 1048577 ≤ N) : laws_eqParity N a b = some ((decide (a = b), ()), ()) := by
  obtain ⟨a1, a2, a3⟩ := a
  obtain ⟨b1, b2, b3⟩ := b
  unfold laws_eqParity
  by_cases h1 : a1 = b1
  · rw [ine_f h1, br_f, eqIntSS_eq hx hxs hN, bind_some', br_ite]
    by_cases h2 : a2 = b2
    · rw [if_neg (by simp [h2]), eqIntS_eq (show a3.length ≤ 1099511627776 by simp at hy; omega) (show a3.length < N by simp at hy; omega), bind_some', br_ite]
      by_cases h3 : a3 = b3 <;> simp [h1, h2, h3]
    · simp [h1, h2]
  · rw [ine_t h1, br_t]
    simp [h1]
def goodP (p : Int × (List (List Int) × List Int)) : Prop := (0 ≤ p.1 ∧ p.1 ≤ 6) ∧ p.2.1.length ≤ 6 ∧ ((p.2.2.all isBit && decide ((p.2.2.length : Int) = (p.2.1.length : Int))) = true) ∧ ∀ x ∈ p.2.1, rising 0 (p.1 - 1) x
theorem spec_l6Parity_eq {N : Nat} {p : Int × (List (List Int) × List Int)} (hx : p.2.1.length ≤ 1048576) (hxs : ∀ x ∈ p.2.1, x.length ≤ 1048576) (hy : p.2.2.length ≤ 1048576) (hN : 1048577 ≤ N) : spec_l6Parity N p = some ((decide (goodP p), ()), ()) := by
  obtain ⟨m, rs, bs⟩ := p
  simp only at hx hxs hy
  unfold spec_l6Parity
  have := loop_all_if (P := ∀ x ∈ rs, rising 0 (IntKind.i64.wrap (m - 1)) x) (m := rs.length) (L := fun K i => spec_l6Parity_l0 N (fun x => some ((x, ()), ())) (fun o o1 o2 => ((spec_l1In N o 0 6).bind fun r =>
    (br r.1.1
      ((br (ile (tLen o1) 6)
        (((spec_l6Bits N (tLen o1) o2).bind fun r1 =>
          some ((r1.1.1, ()), ())))
        (some ((false, ()), ()))))
      (some ((false, ()), ()))))) K i m rs bs) (fun i => rising 0 (IntKind.i64.wrap (m - 1)) (rdL rs i)) all_rdL (kt := some ((decide ((0 ≤ m ∧ m ≤ 6) ∧ rs.length ≤ 6 ∧ ((bs.all isBit && decide ((bs.length : Int) = (rs.length : Int))) = true)), ()), ())) (kf := some ((false, ()), ())) (fun K n hn => ?_) (fun K n hn hp => ?_) (fun K n hn hp => ?_) (show rs.length < N by omega)
  · rw [show ((0 : Nat) : Int) = 0 from rfl] at this
    rw [this]
    by_cases hm : 0 ≤ m ∧ m ≤ 6
    · rw [wrap_ok (show -9223372036854775808 ≤ m - 1 by omega) (show m - 1 < 9223372036854775808 by omega)]
      by_cases h : ∀ x ∈ rs, rising 0 (m - 1) x
      · rw [if_pos h]
        congr 3
        exact decide_eq_decide.2 ⟨fun h' => ⟨h'.1, h'.2.1, h'.2.2, h⟩, fun h' => ⟨h'.1, h'.2.1, h'.2.2.1⟩⟩
      · rw [if_neg h, decide_eq_false (show ¬ goodP (m, rs, bs) from fun h' => h h'.2.2.2)]
    · rw [decide_eq_false (show ¬ goodP (m, rs, bs) from fun h => hm h.1), decide_eq_false (fun h => hm h.1), ite_self]
  · simp only [spec_l6Parity_l0, ilt_lenf hn, br_f]
    simp only [l1In_eq, bind_some', l6Bits_eq (show bs.length ≤ 1099511627776 by omega) (show bs.length < N by omega), tLen_n, br_ite, ile_d]
    by_cases hm : 0 ≤ m ∧ m ≤ 6
    · rw [if_pos (decide_eq_true hm)]
      by_cases h6 : rs.length ≤ 6
      · rw [if_pos (decide_eq_true (by omega))]
        generalize (bs.all isBit && decide ((bs.length : Int) = (rs.length : Int))) = q
        cases q <;> simp [hm, h6]
      · rw [if_neg (by simp; omega)]
        simp [h6]
    · rw [if_neg (by simpa using hm), decide_eq_false (fun h => hm h.1)]
  · simp only [spec_l6Parity_l0, ilt_len hn, br_t, inb_n hn, chk_t, l1Rising_eq (rdL_len hxs n) hN, bind_some', decide_eq_true hp, Bool.not_true, br_f]
    rw [wrap_succ (by omega)]
  · simp only [spec_l6Parity_l0, ilt_len hn, br_t, inb_n hn, chk_t, l1Rising_eq (rdL_len hxs n) hN, bind_some', decide_eq_false hp, Bool.not_false, br_t]
theorem impl_IsParity_eq {N : Nat} {p : Int × (List (List Int) × List Int)} (hx : p.2.1.length ≤ 1048576) (hxs : ∀ x ∈ p.2.1, x.length ≤ 1048576) (hy : p.2.2.length ≤ 1048576) (hN : 1048577 ≤ N) : impl_IsParity N p = some ((decide (goodP p), ()), ()) := by
  obtain ⟨m, rs, bs⟩ := p
  simp only at hx hxs hy
  unfold impl_IsParity
  simp only [between_eq, bind_some', isAssignment_eq (show bs.length ≤ 1099511627776 by omega) (show bs.length < N by omega), tLen_n, br_ite, ile_d]
  by_cases hm : 0 ≤ m ∧ m ≤ 6
  · rw [if_pos (decide_eq_true hm)]
    by_cases h6 : rs.length ≤ 6
    · rw [if_pos (decide_eq_true (by omega))]
      by_cases hb : (bs.all isBit && decide ((bs.length : Int) = (rs.length : Int))) = true
      · rw [if_pos hb, ContainsFunc_LLI_LI_eq (g := fun r => !decide (rising 0 (m - 1) r)) (fun x h => by simp only [impl_IsParity_c1, isRising_eq (hxs x h) (show 0 ≤ m ∧ m ≤ 4611686018427387904 by omega) hN, bind_some']) (by omega) (by omega), bind_some', not_any]
        congr 3
        refine decide_eq_decide.2 ⟨fun h' => ⟨hm, h6, hb, fun x hx => by simpa using h' x hx⟩, fun h' x hx => by simpa using h'.2.2.2 x hx⟩
      · rw [if_neg hb, decide_eq_false (show ¬ goodP (m, rs, bs) from fun h => hb h.2.2.1)]
    · rw [if_neg (by simp; omega), decide_eq_false (show ¬ goodP (m, rs, bs) from fun h => h6 h.2.1)]
  · rw [if_neg (by simpa using hm), decide_eq_false (show ¬ goodP (m, rs, bs) from fun h => hm h.1)]
def iotaI : Int → Nat → List Int
  | _, 0 => []
  | k, n + 1 => k :: iotaI (k + 1) n
def iotaL : Int → List (List Int) → List (List Int)
  | _, [] => []
  | k, x :: xs => iotaI k x.length :: iotaL (k + x.length) xs
def sumL : List (List Int) → Int
  | [] => 0
  | x :: xs => x.length + sumL xs
theorem sumL_cons (x : List Int) (xs : List (List Int)) : sumL (x :: xs) = x.length + sumL xs := rfl
theorem iotaI_len : ∀ (n : Nat) (k : Int), (iotaI k n).length = n := by
  intro n
  induction n with
  | zero => intro k; rfl
  | succ n ih => intro k; unfold iotaI; rw [List.length_cons, ih]
theorem sumL_le {xs : List (List Int)} (h : ∀ x ∈ xs, x.length ≤ 1048576) : 0 ≤ sumL xs ∧ sumL xs ≤ 1048576 * (xs.length : Int) := by
  induction xs with
  | nil => exact ⟨Int.le_refl _, Int.le_refl _⟩
  | cons x xs ih =>
    obtain ⟨h1, h2⟩ := ih fun y hy => h y (List.mem_cons_of_mem _ hy)
    have := h x (List.mem_cons_self ..)
    unfold sumL
    rw [List.length_cons]
    omega
theorem markIntS_eq {N : Nat} {a : List Int} {k : Int} (hk : 0 ≤ k ∧ k ≤ 2305843009213693952) (ha : a.length ≤ 1048576) (hN : 1048577 ≤ N) : laws_markIntS N a k = some ((k + a.length, ()), (iotaI k a.length, ())) := by
  have go : ∀ (d n : Nat) (o : List Int) (K : Nat) (kv : Int), n + d = o.length → o.length ≤ 1048576 → d < K → 0 ≤ kv → kv + d ≤ 4611686018427387904 →
      laws_markIntS_l0 N (fun kv1 o => some ((kv1, ()), (o, ()))) K kv n o = some ((kv + d, ()), (o.take n ++ iotaI kv d, ())) := by
    intro d
    induction d with
    | zero =>
      intro n o K kv hd ho hK h0 h1
      obtain ⟨k, rfl⟩ := succ_of hK
      have hn : ¬ n < o.length := by omega
      simp only [laws_markIntS_l0, ilt_lenf hn, br_f, iotaI, List.append_nil]
      rw [List.take_of_length_le (by omega)]
      simp
    | succ d ih =>
      intro n o K kv hd ho hK h0 h1
      obtain ⟨k, rfl⟩ := succ_of hK
      have hn : n < o.length := by omega
      simp only [laws_markIntS_l0, ilt_len hn, br_t, inb_n hn, chk_t]
      rw [wrap_succ (by omega), wrap_ok (by omega) (by omega), tSet_n, ih (n + 1) _ k _ (by simp; omega) (by simpa using ho) (by omega) (by omega) (by omega)]
      congr 2
      · congr 1
        omega
      · rw [List.take_add_one, List.getElem?_set_self (by omega), List.take_set_of_le (Nat.le_refl n)]
        simp [iotaI]
  unfold laws_markIntS
  have := go a.length 0 a N k (by omega) ha (by omega) hk.1 (by omega)
  simpa using this
theorem heldIntS_eq {N : Nat} {n : Nat} {k : Int} (hk : 0 ≤ k ∧ k ≤ 2305843009213693952) (ha : n ≤ 1048576) (hN : 1048577 ≤ N) : laws_heldIntS N (iotaI k n) k = some ((k + n, ()), ()) := by
  have go : ∀ (d n : Nat) (xs : List Int) (K : Nat) (kv : Int), n + d = xs.length → xs.length ≤ 1048576 → d < K → 0 ≤ kv → kv + d ≤ 4611686018427387904 → xs.drop n = iotaI kv d →
      laws_heldIntS_l0 N (fun x => some ((x, ()), ())) (fun kv1 => some ((kv1, ()), ())) K xs kv n = some ((kv + d, ()), ()) := by
    intro d
    induction d with
    | zero =>
      intro n xs K kv hd ho hK h0 h1 e
      obtain ⟨k, rfl⟩ := succ_of hK
      have hn : ¬ n < xs.length := by omega
      simp only [laws_heldIntS_l0, ilt_lenf hn, br_f]
      simp
    | succ d ih =>
      intro n xs K kv hd ho hK h0 h1 e
      obtain ⟨k, rfl⟩ := succ_of hK
      have hn : n < xs.length := by omega
      rw [drop_cons hn] at e
      injection e with e1 e2
      simp only [laws_heldIntS_l0, ilt_len hn, br_t, inb_n hn, chk_t]
      rw [rdI_n hn, ine_f e1, br_f, wrap_succ (by omega), wrap_ok (by omega) (by omega), ih (n + 1) _ k _ (by omega) ho (by omega) (by omega) (by omega) e2]
      congr 3
      omega
  unfold laws_heldIntS
  have hl := iotaI_len n k
  have := go n 0 (iotaI k n) N k (by omega) (by omega) (by omega) hk.1 (by omega) rfl
  simpa using this
theorem markIntSS_eq {N : Nat} {a : List (List Int)} {k : Int} (hk : 0 ≤ k ∧ k ≤ 1152921504606846976) (ha : a.length ≤ 1048576) (has : ∀ x ∈ a, x.length ≤ 1048576) (hN : 1048577 ≤ N) : laws_markIntSS N a k = some ((k + sumL a, ()), (iotaL k a, ())) := by
  have go : ∀ (d n : Nat) (o : List (List Int)) (K : Nat) (kv : Int), n + d = o.length → o.length ≤ 1048576 → (∀ x ∈ o.drop n, x.length ≤ 1048576) → d < K → 0 ≤ kv → kv + 1048576 * d ≤ 2305843009213693952 →
      laws_markIntSS_l0 N (fun kv1 o => some ((kv1, ()), (o, ()))) K kv n o = some ((kv + sumL (o.drop n), ()), (o.take n ++ iotaL kv (o.drop n), ())) := by
    intro d
    induction d with
    | zero =>
      intro n o K kv hd ho hos hK h0 h1
      obtain ⟨k, rfl⟩ := succ_of hK
      have hn : ¬ n < o.length := by omega
      simp only [laws_markIntSS_l0, ilt_lenf hn, br_f]
      rw [List.take_of_length_le (by omega), List.drop_of_length_le (by omega)]
      simp [sumL, iotaL]
    | succ d ih =>
      intro n o K kv hd ho hos hK h0 h1
      obtain ⟨k, rfl⟩ := succ_of hK
      have hn : n < o.length := by omega
      rw [drop_cons hn] at hos ⊢
      have hl := hos _ (List.mem_cons_self ..)
      simp only [laws_markIntSS_l0, ilt_len hn, br_t, inb_n hn, chk_t]
      have e : (o.set n (iotaI kv o[n].length)).drop (n + 1) = o.drop (n + 1) := by rw [List.drop_set_of_lt (by omega)]
      rw [rdL_n hn, markIntS_eq ⟨h0, by omega⟩ hl hN]
      simp only [bind_some']
      rw [wrap_succ (by omega), tSet_n, ih (n + 1) _ k _ (by simp; omega) (by simpa using ho) (by rw [e]; exact fun x hx => hos x (List.mem_cons_of_mem _ hx)) (by omega) (by omega) (by omega), e]
      congr 2
      · congr 1
        rw [sumL_cons]
        omega
      · rw [List.take_add_one, List.getElem?_set_self (by omega), List.take_set_of_le (Nat.le_refl n)]
        simp [iotaL]
  unfold laws_markIntSS
  have := go a.length 0 a N k (by omega) ha (by simpa using has) (by omega) hk.1 (by omega)
  simpa using this
theorem markParity_eq {N : Nat} {a : Int × (List (List Int) × List Int)} {k : Int} (hk : 0 ≤ k ∧ k ≤ 1152921504606846976) (ha : a.2.1.length ≤ 1048576) (has : ∀ x ∈ a.2.1, x.length ≤ 1048576) (hb : a.2.2.length ≤ 1048576) (hN : 1048577 ≤ N) : laws_markParity N a k = some ((k + sumL a.2.1 + a.2.2.length, ()), ((a.1, (iotaL k a.2.1, iotaI (k + sumL a.2.1) a.2.2.length)), ())) := by
  unfold laws_markParity
  have := sumL_le has
  simp only [markIntSS_eq hk ha has hN, bind_some']
  rw [markIntS_eq (by omega) hb hN, bind_some']
theorem l1Has_eq {N : Nat} {xs : List Int} {v : Int} (hx : xs.length ≤ 1048576) (hN : 1048577 ≤ N) : spec_l1Has N xs v = some ((decide (v ∈ xs), ()), ()) := by
  unfold spec_l1Has
  have := loop_all_if (P := ∀ x ∈ xs, x ≠ v) (L := fun K i => spec_l1Has_l0 N (fun x => some ((x, ()), ())) (fun (_ : Unit) => some ((false, ()), ())) K xs v i) (fun i => rdI xs i ≠ v) all_rdI (kt := some ((false, ()), ())) (kf := some ((true, ()), ())) (fun K n hn => ?_) (fun K n hn hp => ?_) (fun K n hn hp => ?_) (show xs.length < N by omega)
  · rw [show ((0 : Nat) : Int) = 0 from rfl] at this
    rw [this]
    by_cases h : v ∈ xs
    · rw [if_neg (fun h' => h' v h rfl), decide_eq_true h]
    · rw [if_pos (fun x hx (h' : x = v) => h (h' ▸ hx)), decide_eq_false h]
  · simp only [spec_l1Has_l0, ilt_lenf hn, br_f]
  · simp only [spec_l1Has_l0, ilt_len hn, br_t, inb_n hn, chk_t]
    rw [ieq_f hp, br_f, wrap_succ (by omega)]
  · simp only [spec_l1Has_l0, ilt_len hn, br_t, inb_n hn, chk_t]
    rw [ieq_t (Decidable.not_not.1 hp), br_t]
theorem Contains_eq {N : Nat} {xs : List Int} {v : Int} (hx : xs.length ≤ 1048576) (hN : 1048577 ≤ N) : slices_Contains_LI_int N xs v = some ((decide (v ∈ xs), ()), ()) := by
  have go : ∀ (d n : Nat) (K : Nat), n + d = xs.length → d < K → ∃ i : Int, slices_Index_LI_int_l0 N (fun x => some ((x, ()), ())) (fun (_ : Unit) => some ((-1, ()), ())) K xs v (xs.length : Int) n = some ((i, ()), ()) ∧ decide (0 ≤ i) = decide (v ∈ xs.drop n) := by
    intro d
    induction d with
    | zero =>
      intro n K hd hK
      obtain ⟨k, rfl⟩ := succ_of hK
      have hn : ¬ n < xs.length := by omega
      simp only [slices_Index_LI_int_l0, ilt_nf hn, br_f]
      rw [List.drop_of_length_le (by omega)]
      exact ⟨-1, rfl, rfl⟩
    | succ d ih =>
      intro n K hd hK
      obtain ⟨k, rfl⟩ := succ_of hK
      have hn : n < xs.length := by omega
      simp only [slices_Index_LI_int_l0, ilt_n hn, br_t, inb_n hn, chk_t]
      obtain ⟨y, r, e1, e2, e3⟩ := drop_split hn
      rw [rdI_n hn, e1, e2]
      by_cases h : v = y
      · rw [ieq_t h, br_t]
        exact ⟨_, rfl, by simp [h]⟩
      · rw [ieq_f h, br_f, wrap_succ (by omega)]
        obtain ⟨i, h1, h2⟩ := ih (n + 1) k (by omega) (by omega)
        refine ⟨i, h1, ?_⟩
        rw [h2, e3]
        simp [h]
  unfold slices_Contains_LI_int slices_Index_LI_int
  obtain ⟨i, h1, h2⟩ := go xs.length 0 N (by omega) (by omega)
  simp only [Int.natCast_zero, List.drop_zero] at h1 h2
  rw [tLen_n, h1, bind_some', ile_d, h2]
theorem foldl_and {α : Type} (g : α → Bool) : ∀ (xs : List α) (b : Bool), xs.foldl (fun m x => m && g x) b = (b && xs.all g) := by
  intro xs
  induction xs with
  | nil => intro b; simp
  | cons x xs ih => intro b; rw [List.foldl_cons, ih, List.all_cons, Bool.and_assoc]
theorem LooseVars_in_eq {R : Type} {N : Nat} (k0 : Int → Bool → Int → List (List Int) → List Int → List Int → Option R) {v m : Int} {rs : List (List Int)} {bs o : List Int} (hl : rs.length ≤ 1048576) (hr : ∀ r ∈ rs, r.length ≤ 1048576) (hN : 1048577 ≤ N) :
    spec_LooseVars_l0_0 N k0 N v true 0 m rs bs o = k0 v (rs.all fun r => !decide (v ∈ r)) m rs bs o := by
  refine (loop_list (xs := rs) (L := fun K n b => spec_LooseVars_l0_0 N k0 K v b n m rs bs o) (k := fun b => k0 v b m rs bs o) (fun b r => b && !decide (v ∈ r)) (fun _ _ => True) (fun K n s hn _ => ?_) (fun K n s hn _ => ?_) (fun n s hn h => trivial) (s := true) (K := N) (by omega) trivial).1.trans ?_
  · simp only [spec_LooseVars_l0_0, ilt_lenf hn, br_f]
  · simp only [spec_LooseVars_l0_0, ilt_len hn, br_t, inb_n hn, chk_t]
    rw [rdL_n hn, l1Has_eq (hr _ (List.getElem_mem hn)) hN, bind_some', wrap_succ (by omega)]
    cases s
    · rw [br_f, Bool.false_and]
    · rw [br_t, Bool.true_and]
  · rw [foldl_and, Bool.true_and]
def looseStep (rs : List (List Int)) (n : Nat) (o : List Int) : List Int := if (rs.all fun r => !decide ((n : Int) ∈ r)) = true then o ++ [(n : Int)] else o
theorem looseStep_len {rs : List (List Int)} {n : Nat} {o : List Int} (h : o.length ≤ n) : (looseStep rs n o).length ≤ n + 1 := by
  unfold looseStep
  by_cases hc : (rs.all fun r => !decide ((n : Int) ∈ r)) = true
  · rw [if_pos hc]; simp; omega
  · rw [if_neg hc]; omega
noncomputable def looseR (p : Int × (List (List Int) × List Int)) : List Int × Bool := if goodP p then (iter (looseStep p.2.1) p.1.toNat 0 [], true) else ([], false)
theorem looseR_len (p : Int × (List (List Int) × List Int)) : (looseR p).1.length ≤ 6 := by
  unfold looseR
  by_cases h : goodP p
  · rw [if_pos h]
    have := iter_inv (f := looseStep p.2.1) (Inv := fun n o => o.length ≤ n) (d := p.1.toNat) (n := 0) (s := []) (Nat.zero_le _) fun i s _ _ hs => looseStep_len hs
    have := h.1
    simp only
    omega
  · rw [if_neg h]
    exact Nat.zero_le _
theorem spec_LooseVars_eq {N : Nat} {p : Int × (List (List Int) × List Int)} (hx : p.2.1.length ≤ 1048576) (hxs : ∀ x ∈ p.2.1, x.length ≤ 1048576) (hy : p.2.2.length ≤ 1048576) (hN : 1048577 ≤ N) : spec_LooseVars N p = some (((looseR p).1, (looseR p).2, ()), ()) := by
  unfold spec_LooseVars looseR
  simp only [spec_l6Parity_eq hx hxs hy hN, bind_some']
  by_cases hg : goodP p
  · obtain ⟨v, rs, bs⟩ := p
    simp only at hx hxs hy
    rw [decide_eq_true hg, Bool.not_true, br_f, if_pos hg]
    obtain ⟨hv, _⟩ := hg
    obtain ⟨m, rfl⟩ : ∃ m : Nat, v = m := ⟨v.toNat, by simp only at hv; omega⟩
    simp only at hv ⊢
    rw [Int.toNat_natCast]
    refine (loop_iter (L := fun K n o => spec_LooseVars_l0 N (fun o => some ((o, true, ()), ())) K n (m : Int) rs bs o) (k := fun o => some ((o, true, ()), ())) (Inv := fun n o => o.length ≤ n) (step := looseStep rs) (fun K n s hn _ => ?_) (fun K n s hn hs => ?_) (fun n s hn h => looseStep_len h) (s := []) (m := m) (K := N) (by omega) (Nat.zero_le _))
    · simp only [spec_LooseVars_l0, ilt_nf hn, br_f]
    · simp only [spec_LooseVars_l0, ilt_n hn, br_t]
      rw [LooseVars_in_eq _ hx hxs hN, wrap_succ (by omega), room_ok (by simp; omega), chk_t, br_ite]
      unfold looseStep
      by_cases hc : (rs.all fun r => !decide ((n : Int) ∈ r)) = true
      · rw [if_pos hc, if_pos hc]
        rfl
      · rw [if_neg hc, if_neg hc]
  · rw [decide_eq_false hg, Bool.not_false, br_t, if_neg hg]
theorem impl_LooseVars_eq {N : Nat} {p : Int × (List (List Int) × List Int)} (hx : p.2.1.length ≤ 1048576) (hxs : ∀ x ∈ p.2.1, x.length ≤ 1048576) (hy : p.2.2.length ≤ 1048576) (hN : 1048577 ≤ N) : impl_LooseVars N p = some (((looseR p).1, (looseR p).2, ()), ()) := by
  unfold impl_LooseVars looseR
  simp only [impl_IsParity_eq hx hxs hy hN, bind_some']
  by_cases hg : goodP p
  · obtain ⟨v, rs, bs⟩ := p
    simp only at hx hxs hy
    rw [decide_eq_true hg, Bool.not_true, br_f, if_pos hg]
    obtain ⟨hv, _⟩ := hg
    obtain ⟨m, rfl⟩ : ∃ m : Nat, v = m := ⟨v.toNat, by simp only at hv; omega⟩
    simp only at hv ⊢
    rw [Int.toNat_natCast]
    refine (loop_iter (L := fun K n o => impl_LooseVars_l0 N (fun o => some ((o, true, ()), ())) K (m : Int) n (m : Int) rs bs o) (k := fun o => some ((o, true, ()), ())) (Inv := fun n o => o.length ≤ n) (step := looseStep rs) (fun K n s hn _ => ?_) (fun K n s hn hs => ?_) (fun n s hn h => looseStep_len h) (s := []) (m := m) (K := N) (by omega) (Nat.zero_le _))
    · simp only [impl_LooseVars_l0, ilt_nf hn, br_f]
    · simp only [impl_LooseVars_l0, ilt_n hn, br_t]
      rw [ContainsFunc_LLI_LI_eq (g := fun r => decide ((n : Int) ∈ r)) (fun r h => by simp only [impl_LooseVars_c1, Contains_eq (hxs r h) hN, bind_some']) (show rs.length ≤ 1099511627776 by omega) (show rs.length < N by omega), bind_some', wrap_succ (by omega), room_ok (by simp; omega), chk_t, br_ite]
      unfold looseStep
      have e : (!(rs.any fun r => decide ((n : Int) ∈ r))) = (rs.all fun r => !decide ((n : Int) ∈ r)) := by
        have := any_not (fun r : List Int => !decide ((n : Int) ∈ r)) rs
        simpa using this
      rw [e]
      by_cases hc : (rs.all fun r => !decide ((n : Int) ∈ r)) = true
      · rw [if_pos hc, if_pos hc]
        rfl
      · rw [if_neg hc, if_neg hc]
  · rw [decide_eq_false hg, Bool.not_false, br_t, if_neg hg]
theorem LooseVars_pure {a : Int × (List (List Int) × List Int)} (hx : a.2.1.length ≤ 9223372036854775807) (hxs : ∀ x ∈ a.2.1, x.length ≤ 9223372036854775807) (hy : a.2.2.length ≤ 9223372036854775807) : laws_FnExactLooseVars 1048577 a = some ((true, ()), ()) := by
  unfold laws_FnExactLooseVars
  have hN : 1048577 ≤ 1048577 := Nat.le_refl _
  obtain ⟨r, h1, h2⟩ := szParity_eq hx hxs hy hN
  simp only [h1, bind_some']
  by_cases h : 0 ≤ r
  · rw [ilt_f (by omega), br_f]
    obtain ⟨h3, h4, h5⟩ := h2 h
    have hr := looseR_len a
    have s1 := sumL_le h4
    have k0 : (0 : Int) ≤ 1 ∧ (1 : Int) ≤ 1152921504606846976 := by omega
    have k1 : (0 : Int) ≤ 1 ∧ (1 : Int) ≤ 2305843009213693952 := by omega
    simp only [toParity_eq h3 h4 h5 hN, bind_some', spec_LooseVars_eq h3 h4 h5 hN, impl_LooseVars_eq h3 h4 h5 hN, eqParity_eq h3 h4 h5 hN, eqIntS_eq (show (looseR a).1.length ≤ 1099511627776 by omega) (show (looseR a).1.length < 1048577 by omega), decide_true, Bool.not_true, br_f, markParity_eq k0 h3 h4 h5 hN, ilt_f (show ¬ 1 + sumL a.2.1 + (a.2.2.length : Int) < 0 by omega), markIntS_eq k1 (show (looseR a).1.length ≤ 1048576 by omega) hN, heldIntS_eq k1 (show (looseR a).1.length ≤ 1048576 by omega) hN, ilt_f (show ¬ 1 + ((looseR a).1.length : Int) < 0 by omega), ine_f (rfl : 1 + ((looseR a).1.length : Int) = 1 + ((looseR a).1.length : Int))]
    simp [br_ite]
  · rw [ilt_t (by omega), br_t]
theorem LooseVars_pureT : ∀ x : argsT (psOf [QIQLLILI]), WfA [QIQLLILI] x → ∃ k m, (laws_FnExactLooseVars_S k).f x = some ((true, ()), m) :=
  fun x h => ⟨1048577, (), LooseVars_pure (len_ok h.1.2.1.1) (fun y hy => len_ok (h.1.2.1.2 y hy).1) (len_ok h.1.2.2.1)⟩
end Go.Proofs.Ytbnebekejbhopaa
