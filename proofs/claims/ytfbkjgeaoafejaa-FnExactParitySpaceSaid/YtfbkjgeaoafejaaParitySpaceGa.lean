/- Statements on data alone. -/
import Derived.Test.YtfbkjgeaoafejaaPvPure
import Derived.Test.YtfbkjgeaoafejaaParitySpaceFc
set_option linter.all false
set_option linter.all false
namespace Go.Proofs.Ytfbkjgeaoafejaa
open Go Go.PV Classical
theorem toIntS_l0_eq {R : Type} (N : Nat) (k0 : List Int → Option R) (xs : List Int) (hx : xs.length ≤ 1099511627776) : ∀ (d n : Nat) (o : List Int) (K : Nat), n + d = xs.length → d < K → o.length = xs.length →
    laws_toIntS_l0 N k0 K xs n o = k0 (o.take n ++ xs.drop n) := by
  intro d
  induction d with
  | zero =>
    intro n o K hd hK ho
    obtain ⟨k, rfl⟩ := succ_of hK
    have hn : ¬ n < xs.length := by omega
    simp only [laws_toIntS_l0, ilt_lenf hn, br_f]
    rw [List.take_of_length_le (by omega), List.drop_of_length_le (by omega), List.append_nil]
  | succ d ih =>
    intro n o K hd hK ho
    obtain ⟨k, rfl⟩ := succ_of hK
    have hn : n < xs.length := by omega
    have hno : n < o.length := by omega
    simp only [laws_toIntS_l0, ilt_len hn, inb_n hn, inb_n hno, br_t, chk_t]
    rw [wrap_succ (by omega), tSet_n, rdI_n hn, ih (n + 1) _ k (by omega) (by omega) (by simpa using ho)]
    congr 1
    rw [drop_cons hn, List.take_add_one, List.getElem?_set_self (by omega), List.take_set_of_le (Nat.le_refl n)]
    simp
theorem toIntS_eq {N : Nat} {xs : List Int} (hx : xs.length ≤ 1048576) (hN : 1048577 ≤ N) : laws_toIntS N xs = some ((xs, ()), ()) := by
  unfold laws_toIntS
  simp only [tLen_n, ile_t (show (0 : Int) ≤ (xs.length : Int) by omega), ile_t (Int.le_refl _), fits_ok (show xs.length ≤ 1099511627776 by omega), Bool.and_self, chk_t]
  have := toIntS_l0_eq N (fun o => some ((o, ()), ())) xs (by omega) xs.length 0 (tRep (xs.length : Int) 0) N (by omega) (by omega) (by simp [tRep])
  simp only [Int.natCast_zero, List.take_zero, List.drop_zero, List.nil_append] at this
  exact this
theorem eqIntS_l0_eq {R : Type} (N : Nat) (k0 : Bool → Option R) (k1 : Unit → Option R) (a b : List Int) (hx : a.length ≤ 1099511627776) (hl : a.length = b.length) : ∀ (d n : Nat) (K : Nat), n + d = a.length → d < K →
    laws_eqIntS_l0 N k0 k1 K a b n = if a.drop n = b.drop n then k1 () else k0 false := by
  intro d
  induction d with
  | zero =>
    intro n K hd hK
    obtain ⟨k, rfl⟩ := succ_of hK
    have hn : ¬ n < a.length := by omega
    simp only [laws_eqIntS_l0, ilt_lenf hn, br_f]
    rw [if_pos]
    rw [List.drop_of_length_le (by omega), List.drop_of_length_le (by omega)]
  | succ d ih =>
    intro n K hd hK
    obtain ⟨k, rfl⟩ := succ_of hK
    have hn : n < a.length := by omega
    have hnb : n < b.length := by omega
    simp only [laws_eqIntS_l0, ilt_len hn, inb_n hn, inb_n hnb, br_t, chk_t]
    rw [wrap_succ (by omega), rdI_n hn, rdI_n hnb, ih (n + 1) k (by omega) (by omega), drop_cons hn, drop_cons hnb]
    by_cases he : a[n] = b[n]
    · rw [ine_f he, br_f, he]
      simp only [List.cons.injEq, true_and]
    · rw [ine_t he, br_t, if_neg]
      intro h
      injection h with h _
      exact he h
theorem eqIntS_eq {N : Nat} {a b : List Int} (hx : a.length ≤ 1099511627776) (hN : a.length < N) : laws_eqIntS N a b = some ((decide (a = b), ()), ()) := by
  unfold laws_eqIntS
  simp only [tLen_n]
  by_cases hl : a.length = b.length
  · rw [ine_f (by omega), br_f]
    have := eqIntS_l0_eq N (fun x => some ((x, ()), ())) (fun _ => some ((true, ()), ())) a b hx hl a.length 0 N (by omega) (by omega)
    simp only [Int.natCast_zero, List.drop_zero] at this
    rw [this]
    by_cases h : a = b <;> simp [h]
  · rw [ine_t (by omega), br_t]
    have : a ≠ b := fun h => hl (by rw [h])
    simp [this]

/-! ### How much a law lets in -/
theorem szIntS_eq (N : Nat) {xs : List Int} {left : Int} (hl : 0 ≤ left ∧ left ≤ 1048576) (hx : xs.length ≤ 9223372036854775807) : laws_szIntS N xs left = some ((if (xs.length : Int) ≤ left then left - xs.length else -1, ()), ()) := by
  unfold laws_szIntS
  rw [tLen_n, wrap_ok (by omega) (by omega)]
  by_cases h : (xs.length : Int) ≤ left
  · rw [ilt_f (by omega), br_f, if_pos h]
  · rw [ilt_t (by omega), br_t, if_neg h]
def szL : List (List Int) → Int → Int
  | [], l => l
  | x :: xs, l => if (x.length : Int) ≤ l then szL xs (l - x.length) else -1
theorem szL_le : ∀ (xs : List (List Int)) (l : Int), 0 ≤ l → 0 ≤ szL xs l → szL xs l ≤ l ∧ ∀ x ∈ xs, (x.length : Int) ≤ l := by
  intro xs
  induction xs with
  | nil => intro l h _; exact ⟨Int.le_refl l, by simp⟩
  | cons x xs ih =>
    intro l h0 h
    unfold szL at h ⊢
    by_cases hx : (x.length : Int) ≤ l
    · rw [if_pos hx] at h ⊢
      obtain ⟨h1, h2⟩ := ih _ (by omega) h
      refine ⟨by omega, fun y hy => ?_⟩
      rcases List.mem_cons.1 hy with rfl | hy
      · exact hx
      · have := h2 y hy
        omega
    · rw [if_neg hx] at h
      omega
theorem szIntSS_l0_eq {R : Type} (N : Nat) (k0 k1 : Int → Option R) (xs : List (List Int)) (hx : ∀ x ∈ xs, x.length ≤ 9223372036854775807) (hl : xs.length ≤ 1048576) : ∀ (d n : Nat) (left : Int) (K : Nat), n + d = xs.length → d < K → 0 ≤ left → left ≤ 1048576 →
    laws_szIntSS_l0 N k0 k1 K xs left n = if 0 ≤ szL (xs.drop n) left then k1 (szL (xs.drop n) left) else k0 (-1) := by
  intro d
  induction d with
  | zero =>
    intro n left K hd hK h0 h1
    obtain ⟨k, rfl⟩ := succ_of hK
    have hn : ¬ n < xs.length := by omega
    simp only [laws_szIntSS_l0, ilt_lenf hn, br_f]
    rw [List.drop_of_length_le (by omega)]
    simp [szL, h0]
  | succ d ih =>
    intro n left K hd hK h0 h1
    obtain ⟨k, rfl⟩ := succ_of hK
    have hn : n < xs.length := by omega
    simp only [laws_szIntSS_l0, ilt_len hn, inb_n hn, br_t, chk_t]
    obtain ⟨y, r, e1, e2, e3⟩ := drop_split hn
    have hy := hx _ (List.getElem_mem hn)
    rw [rdL_n hn, e2] at *
    rw [e2] at hy
    rw [szIntS_eq N ⟨h0, h1⟩ hy, bind_some', e1]
    unfold szL
    by_cases h : (y.length : Int) ≤ left
    · simp only [if_pos h]
      rw [ilt_f (by omega), br_f, wrap_succ (by omega), ih (n + 1) _ k (by omega) (by omega) (by omega) (by omega), e3]
    · simp only [if_neg h]
      rw [ilt_t (by omega), br_t, if_neg (by omega)]
theorem szIntSS_eq {N : Nat} {xs : List (List Int)} {left : Int} (h0 : 0 ≤ left ∧ left ≤ 1048576) (hx : xs.length ≤ 9223372036854775807) (hxs : ∀ x ∈ xs, x.length ≤ 9223372036854775807) (hN : 1048577 ≤ N) :
    ∃ r : Int, laws_szIntSS N xs left = some ((r, ()), ()) ∧ (0 ≤ r → r ≤ left ∧ (xs.length : Int) ≤ left ∧ ∀ x ∈ xs, (x.length : Int) ≤ left) := by
  unfold laws_szIntSS
  rw [tLen_n, wrap_ok (by omega) (by omega)]
  by_cases h : (xs.length : Int) ≤ left
  · rw [ilt_f (by omega), br_f]
    have := szIntSS_l0_eq N (fun x => some ((x, ()), ())) (fun left1 => some ((left1, ()), ())) xs hxs (by omega) xs.length 0 (left - xs.length) N (by omega) (by omega) (by omega) (by omega)
    simp only [Int.natCast_zero, List.drop_zero] at this
    rw [this]
    by_cases hs : 0 ≤ szL xs (left - xs.length)
    · rw [if_pos hs]
      obtain ⟨h1, h2⟩ := szL_le xs _ (by omega) hs
      exact ⟨_, rfl, fun _ => ⟨by omega, h, fun x hx => by have := h2 x hx; omega⟩⟩
    · rw [if_neg hs]
      exact ⟨_, rfl, fun h => by omega⟩
  · rw [ilt_t (by omega), br_t]
    exact ⟨_, rfl, fun h => by omega⟩
theorem toIntSS_l0_eq {R : Type} (N : Nat) (k0 : List (List Int) → Option R) (xs : List (List Int)) (hx : xs.length ≤ 1048576) (hxs : ∀ x ∈ xs, x.length ≤ 1048576) (hN : 1048577 ≤ N) : ∀ (d n : Nat) (o : List (List Int)) (K : Nat), n + d = xs.length → d < K → o.length = xs.length →
    laws_toIntSS_l0 N k0 K xs n o = k0 (o.take n ++ xs.drop n) := by
  intro d
  induction d with
  | zero =>
    intro n o K hd hK ho
    obtain ⟨k, rfl⟩ := succ_of hK
    have hn : ¬ n < xs.length := by omega
    simp only [laws_toIntSS_l0, ilt_lenf hn, br_f]
    rw [List.take_of_length_le (by omega), List.drop_of_length_le (by omega), List.append_nil]
  | succ d ih =>
    intro n o K hd hK ho
    obtain ⟨k, rfl⟩ := succ_of hK
    have hn : n < xs.length := by omega
    have hno : n < o.length := by omega
    simp only [laws_toIntSS_l0, ilt_len hn, inb_n hn, inb_n hno, br_t, chk_t]
    rw [rdL_n hn, toIntS_eq (hxs _ (List.getElem_mem hn)) hN, bind_some', wrap_succ (by omega), tSet_n, ih (n + 1) _ k (by omega) (by omega) (by simpa using ho)]
    congr 1
    rw [drop_cons hn, List.take_add_one, List.getElem?_set_self (by omega), List.take_set_of_le (Nat.le_refl n)]
    simp
theorem toIntSS_eq {N : Nat} {xs : List (List Int)} (hx : xs.length ≤ 1048576) (hxs : ∀ x ∈ xs, x.length ≤ 1048576) (hN : 1048577 ≤ N) : laws_toIntSS N xs = some ((xs, ()), ()) := by
  unfold laws_toIntSS
  simp only [tLen_n, ile_t (show (0 : Int) ≤ (xs.length : Int) by omega), ile_t (Int.le_refl _), fits_ok (show xs.length ≤ 1099511627776 by omega), Bool.and_self, chk_t]
  have := toIntSS_l0_eq N (fun o => some ((o, ()), ())) xs hx hxs hN xs.length 0 (tRep (xs.length : Int) []) N (by omega) (by omega) (by simp [tRep])
  simp only [Int.natCast_zero, List.take_zero, List.drop_zero, List.nil_append] at this
  exact this
theorem eqIntSS_l0_eq {R : Type} (N : Nat) (k0 : Bool → Option R) (k1 : Unit → Option R) (a b : List (List Int)) (hx : a.length ≤ 1099511627776) (hxs : ∀ x ∈ a, x.length ≤ 1048576) (hN : 1048577 ≤ N) (hl : a.length = b.length) : ∀ (d n : Nat) (K : Nat), n + d = a.length → d < K →
    laws_eqIntSS_l0 N k0 k1 K a b n = if a.drop n = b.drop n then k1 () else k0 false := by
  intro d
  induction d with
  | zero =>
    intro n K hd hK
    obtain ⟨k, rfl⟩ := succ_of hK
    have hn : ¬ n < a.length := by omega
    simp only [laws_eqIntSS_l0, ilt_lenf hn, br_f]
    rw [if_pos]
    rw [List.drop_of_length_le (by omega), List.drop_of_length_le (by omega)]
  | succ d ih =>
    intro n K hd hK
    obtain ⟨k, rfl⟩ := succ_of hK
    have hn : n < a.length := by omega
    have hnb : n < b.length := by omega
    simp only [laws_eqIntSS_l0, ilt_len hn, inb_n hn, inb_n hnb, br_t, chk_t]
    have ha := hxs _ (List.getElem_mem hn)
    rw [wrap_succ (by omega), rdL_n hn, rdL_n hnb, eqIntS_eq (by omega) (by omega), bind_some', ih (n + 1) k (by omega) (by omega), drop_cons hn, drop_cons hnb, br_ite]
    by_cases he : a[n] = b[n]
    · rw [he, if_neg (by simp)]
      simp only [List.cons.injEq, true_and]
    · rw [if_pos (by simp [he]), if_neg]
      intro h
      injection h with h _
      exact he h
theorem eqIntSS_eq {N : Nat} {a b : List (List Int)} (hx : a.length ≤ 1048576) (hxs : ∀ x ∈ a, x.length ≤ 1048576) (hN : 1048577 ≤ N) : laws_eqIntSS N a b = some ((decide (a = b), ()), ()) := by
  unfold laws_eqIntSS
  simp only [tLen_n]
  by_cases hl : a.length = b.length
  · rw [ine_f (by omega), br_f]
    have := eqIntSS_l0_eq N (fun x => some ((x, ()), ())) (fun _ => some ((true, ()), ())) a b (by omega) hxs hN hl a.length 0 N (by omega) (by omega)
    simp only [Int.natCast_zero, List.drop_zero] at this
    rw [this]
    by_cases h : a = b <;> simp [h]
  · rw [ine_t (by omega), br_t]
    have : a ≠ b := fun h => hl (by rw [h])
    simp [this]
theorem all_rdI {xs : List Int} {p : Int → Prop} : (∀ x ∈ xs, p x) ↔ ∀ i : Nat, i < xs.length → p (rdI xs i) := by
  constructor
  · intro h i hi
    rw [rdI_n hi]
    exact h _ (List.getElem_mem hi)
  · intro h x hx
    obtain ⟨i, hi, rfl⟩ := List.mem_iff_getElem.1 hx
    have := h i hi
    rwa [rdI_n hi] at this
theorem all_rdL {xs : List (List Int)} {p : List Int → Prop} : (∀ x ∈ xs, p x) ↔ ∀ i : Nat, i < xs.length → p (rdL xs i) := by
  constructor
  · intro h i hi
    rw [rdL_n hi]
    exact h _ (List.getElem_mem hi)
  · intro h x hx
    obtain ⟨i, hi, rfl⟩ := List.mem_iff_getElem.1 hx
    have := h i hi
    rwa [rdL_n hi] at this
theorem not_any {α : Type} {xs : List α} {f : α → Bool} : (!(xs.any f)) = decide (∀ x ∈ xs, f x = false) := by
  induction xs with
  | nil => simp
  | cons x xs ih =>
    rw [List.any_cons, Bool.not_or, ih]
    by_cases h : f x = true <;> simp [h]
def findAt {α : Type} (f : α → Bool) : List α → Nat → Int
  | [], _ => -1
  | x :: xs, n => if f x = true then (n : Int) else findAt f xs (n + 1)
theorem findAt_cons {α : Type} (f : α → Bool) (x : α) (xs : List α) (n : Nat) : findAt f (x :: xs) n = if f x = true then (n : Int) else findAt f xs (n + 1) := rfl
theorem findAt_ge {α : Type} (f : α → Bool) : ∀ (xs : List α) (n : Nat), decide (0 ≤ findAt f xs n) = xs.any f := by
  intro xs
  induction xs with
  | nil => intro n; rfl
  | cons x xs ih =>
    intro n
    unfold findAt
    by_cases h : f x = true
    · rw [if_pos h]
      simp [h]
    · rw [if_neg h, ih]
      simp [h]
theorem IndexFunc_LI_int_l0_eq {R : Type} (N : Nat) (k0 : Int → Option R) (k1 : Unit → Option R) (xs : List (Int)) (f : Int → Option Bool) (g : Int → Bool) (hf : ∀ x ∈ xs, f x = some (g x)) (hx : xs.length ≤ 1099511627776) : ∀ (d n : Nat) (K : Nat), n + d = xs.length → d < K →
    slices_IndexFunc_LI_int_l0 N k0 k1 K xs f (xs.length : Int) n = if (xs.drop n).any g = true then k0 (findAt g (xs.drop n) n) else k1 () := by
  intro d
  induction d with
  | zero =>
    intro n K hd hK
    obtain ⟨k, rfl⟩ := succ_of hK
    have hn : ¬ n < xs.length := by omega
    simp only [slices_IndexFunc_LI_int_l0, ilt_nf hn, br_f]
    rw [List.drop_of_length_le (by omega)]
    simp
  | succ d ih =>
    intro n K hd hK
    obtain ⟨k, rfl⟩ := succ_of hK
    have hn : n < xs.length := by omega
    simp only [slices_IndexFunc_LI_int_l0, ilt_n hn, inb_n hn, br_t, chk_t]
    obtain ⟨y, r, e1, e2, e3⟩ := drop_split hn
    rw [wrap_succ (by omega), rdI_n hn, ih (n + 1) k (by omega) (by omega), hf _ (List.getElem_mem hn), bind_some', br_ite, e1, e2, e3, findAt_cons]
    by_cases h : g y = true
    · simp [h]
    · simp [h]
theorem ContainsFunc_LI_int_eq {N : Nat} {xs : List (Int)} {f : Int → Option Bool} {g : Int → Bool} (hf : ∀ x ∈ xs, f x = some (g x)) (hx : xs.length ≤ 1099511627776) (hN : xs.length < N) :
    slices_ContainsFunc_LI_int N xs f = some ((xs.any g, ()), ()) := by
  unfold slices_ContainsFunc_LI_int slices_IndexFunc_LI_int
  have := IndexFunc_LI_int_l0_eq N (fun x => some ((x, ()), ())) (fun _ => some (((-1 : Int), ()), ())) xs f g hf hx xs.length 0 N (by omega) (by omega)
  simp only [Int.natCast_zero, List.drop_zero] at this
  rw [tLen_n, this]
  by_cases h : xs.any g = true
  · rw [if_pos h, bind_some', ile_d, findAt_ge]
  · rw [if_neg h, bind_some']
    simp only [Bool.not_eq_true] at h
    rw [h]
    rfl
theorem IndexFunc_LLI_LI_l0_eq {R : Type} (N : Nat) (k0 : Int → Option R) (k1 : Unit → Option R) (xs : List (List Int)) (f : List Int → Option Bool) (g : List Int → Bool) (hf : ∀ x ∈ xs, f x = some (g x)) (hx : xs.length ≤ 1099511627776) : ∀ (d n : Nat) (K : Nat), n + d = xs.length → d < K →
    slices_IndexFunc_LLI_LI_l0 N k0 k1 K xs f (xs.length : Int) n = if (xs.drop n).any g = true then k0 (findAt g (xs.drop n) n) else k1 () := by
  intro d
  induction d with
  | zero =>
    intro n K hd hK
    obtain ⟨k, rfl⟩ := succ_of hK
    have hn : ¬ n < xs.length := by omega
    simp only [slices_IndexFunc_LLI_LI_l0, ilt_nf hn, br_f]
    rw [List.drop_of_length_le (by omega)]
    simp
  | succ d ih =>
    intro n K hd hK
    obtain ⟨k, rfl⟩ := succ_of hK
    have hn : n < xs.length := by omega
    simp only [slices_IndexFunc_LLI_LI_l0, ilt_n hn, inb_n hn, br_t, chk_t]
    obtain ⟨y, r, e1, e2, e3⟩ := drop_split hn
    rw [wrap_succ (by omega), rdL_n hn, ih (n + 1) k (by omega) (by omega), hf _ (List.getElem_mem hn), bind_some', br_ite, e1, e2, e3, findAt_cons]
    by_cases h : g y = true
    · simp [h]
    · simp [h]
theorem ContainsFunc_LLI_LI_eq {N : Nat} {xs : List (List Int)} {f : List Int → Option Bool} {g : List Int → Bool} (hf : ∀ x ∈ xs, f x = some (g x)) (hx : xs.length ≤ 1099511627776) (hN : xs.length < N) :
    slices_ContainsFunc_LLI_LI N xs f = some ((xs.any g, ()), ()) := by
  unfold slices_ContainsFunc_LLI_LI slices_IndexFunc_LLI_LI
  have := IndexFunc_LLI_LI_l0_eq N (fun x => some ((x, ()), ())) (fun _ => some (((-1 : Int), ()), ())) xs f g hf hx xs.length 0 N (by omega) (by omega)
  simp only [Int.natCast_zero, List.drop_zero] at this
  rw [tLen_n, this]
  by_cases h : xs.any g = true
  · rw [if_pos h, bind_some', ile_d, findAt_ge]
  · rw [if_neg h, bind_some']
    simp only [Bool.not_eq_true] at h
    rw [h]
    rfl
def isBit (n : Int) : Bool := decide (0 ≤ n ∧ n ≤ 1)
theorem l1In_eq (N : Nat) (x a b : Int) : spec_l1In N x a b = some ((decide (a ≤ x ∧ x ≤ b), ()), ()) := by
  unfold spec_l1In
  rw [br_ite, ile_d, ile_d]
  by_cases h : a ≤ x <;> by_cases h' : x ≤ b <;> simp [h, h']
theorem between_eq (N : Nat) (n low high : Int) : impl_between N n low high = some ((decide (low ≤ n ∧ n ≤ high), ()), ()) := by
  unfold impl_between
  rw [br_ite, ile_d, ile_d]
  by_cases h : low ≤ n <;> by_cases h' : n ≤ high <;> simp [h, h']
theorem l6Bits_l0_eq {R : Type} (N : Nat) (k0 : Bool → Option R) (k1 : Int → List Int → Option R) (v : Int) (xs : List Int) (hx : xs.length ≤ 1099511627776) : ∀ (d n : Nat) (K : Nat), n + d = xs.length → d < K →
    spec_l6Bits_l0 N k0 k1 K v xs n = if (xs.drop n).all isBit = true then k1 v xs else k0 false := by
  intro d
  induction d with
  | zero =>
    intro n K hd hK
    obtain ⟨k, rfl⟩ := succ_of hK
    have hn : ¬ n < xs.length := by omega
    simp only [spec_l6Bits_l0, ilt_lenf hn, br_f]
    rw [List.drop_of_length_le (by omega)]
    simp
  | succ d ih =>
    intro n K hd hK
    obtain ⟨k, rfl⟩ := succ_of hK
    have hn : n < xs.length := by omega
    simp only [spec_l6Bits_l0, ilt_len hn, inb_n hn, br_t, chk_t, l1In_eq, bind_some']
    rw [wrap_succ (by omega), rdI_n hn, ih (n + 1) k (by omega) (by omega), drop_cons hn, List.all_cons, br_ite]
    by_cases h : 0 ≤ xs[n] ∧ xs[n] ≤ 1
    · simp [isBit, h]
    · simp [isBit, h]
theorem l6Bits_eq {N : Nat} {v : Int} {xs : List Int} (hx : xs.length ≤ 1099511627776) (hN : xs.length < N) : spec_l6Bits N v xs = some ((xs.all isBit && decide ((xs.length : Int) = v), ()), ()) := by
  unfold spec_l6Bits
  have := l6Bits_l0_eq N (fun x => some ((x, ()), ())) (fun vars1 bits1 => some (((ieq (tLen bits1) vars1), ()), ())) v xs hx xs.length 0 N (by omega) (by omega)
  simp only [Int.natCast_zero, List.drop_zero] at this
  rw [this, tLen_n, ieq_d]
  by_cases h : xs.all isBit = true
  · rw [if_pos h, h, Bool.true_and]
  · rw [if_neg h]
    simp [h]
theorem any_not {α : Type} (f : α → Bool) : ∀ xs : List α, (!(xs.any fun x => !f x)) = xs.all f := by
  intro xs
  induction xs with
  | nil => rfl
  | cons x xs ih => simp only [List.any_cons, List.all_cons, Bool.not_or, Bool.not_not, ih]
theorem isAssignment_eq {N : Nat} {v : Int} {xs : List Int} (hx : xs.length ≤ 1099511627776) (hN : xs.length < N) : impl_isAssignment N v xs = some ((xs.all isBit && decide ((xs.length : Int) = v), ()), ()) := by
  unfold impl_isAssignment
  rw [ContainsFunc_LI_int_eq (g := fun n => !isBit n) (fun x _ => by simp only [impl_isAssignment_c1, between_eq, bind_some']; rfl) hx hN, bind_some', any_not, tLen_n, ieq_d, br_ite]
  by_cases h : (xs.length : Int) = v <;> simp [h]
def risingAt (lo hi : Int) (xs : List Int) (i : Nat) : Prop := (lo ≤ rdI xs i ∧ rdI xs i ≤ hi) ∧ (0 < i → rdI xs ((i - 1 : Nat) : Int) < rdI xs i)
def rising (lo hi : Int) (xs : List Int) : Prop := ∀ i, i < xs.length → risingAt lo hi xs i
theorem l1Rising_eq {N : Nat} {lo hi : Int} {xs : List Int} (hx : xs.length ≤ 1048576) (hN : 1048577 ≤ N) : spec_l1Rising N xs lo hi = some ((decide (rising lo hi xs), ()), ()) := by
  unfold spec_l1Rising
  have := loop_all_if (P := rising lo hi xs) (L := fun K i => spec_l1Rising_l0 N (fun x => some ((x, ()), ())) (fun (_ : Unit) => some ((true, ()), ())) K xs lo hi i) (risingAt lo hi xs) Iff.rfl (kt := some ((true, ()), ())) (kf := some ((false, ()), ())) (fun K n hn => ?_) (fun K n hn hp => ?_) (fun K n hn hp => ?_) (show xs.length < N by omega)
  · rw [show ((0 : Nat) : Int) = 0 from rfl] at this
    rw [this]
    by_cases h : rising lo hi xs <;> simp [h]
  · simp only [spec_l1Rising_l0, ilt_lenf hn, br_f]
  · simp only [spec_l1Rising_l0, ilt_len hn, br_t, inb_n hn, chk_t, l1In_eq, bind_some']
    obtain ⟨h1, h2⟩ := hp
    rw [decide_eq_true h1, Bool.not_true, br_f]
    by_cases h0 : 0 < n
    · rw [ilt_0 h0, br_t, wrap_pred (by omega) h0, inb_n (by omega), chk_t, ile_f (by have := h2 h0; omega), br_f, wrap_succ (by omega)]
    · rw [ilt_0n h0, br_f, wrap_succ (by omega)]
  · simp only [spec_l1Rising_l0, ilt_len hn, br_t, inb_n hn, chk_t, l1In_eq, bind_some']
    by_cases h1 : lo ≤ rdI xs n ∧ rdI xs n ≤ hi
    · rw [decide_eq_true h1, Bool.not_true, br_f]
      have h0 : 0 < n := by
        rcases Nat.eq_zero_or_pos n with h0 | h0
        · exact absurd ⟨h1, fun h' => by omega⟩ hp
        · exact h0
      have h4 : ¬ rdI xs ((n - 1 : Nat) : Int) < rdI xs n := fun h' => hp ⟨h1, fun _ => h'⟩
      rw [ilt_0 h0, br_t, wrap_pred (by omega) h0, inb_n (by omega), chk_t, ile_t (by omega), br_t]
    · rw [decide_eq_false h1, Bool.not_false, br_t]
theorem isRising_eq {N : Nat} {m : Int} {xs : List Int} (hx : xs.length ≤ 1048576) (hm : 0 ≤ m ∧ m ≤ 4611686018427387904) (hN : 1048577 ≤ N) : impl_isRising N xs m = some ((decide (rising 0 (m - 1) xs), ()), ()) := by
  unfold impl_isRising
  have := loop_all_if (P := rising 0 (m - 1) xs) (L := fun K i => impl_isRising_l0 N (fun x => some ((x, ()), ())) (fun (_ : Unit) => some ((true, ()), ())) K xs m xs (xs.length : Int) i) (risingAt 0 (m - 1) xs) Iff.rfl (kt := some ((true, ()), ())) (kf := some ((false, ()), ())) (fun K n hn => ?_) (fun K n hn hp => ?_) (fun K n hn hp => ?_) (show xs.length < N by omega)
  · rw [show ((0 : Nat) : Int) = 0 from rfl] at this
    rw [tLen_n, this]
    by_cases h : rising 0 (m - 1) xs <;> simp [h]
  · simp only [impl_isRising_l0, ilt_nf hn, br_f]
  · simp only [impl_isRising_l0, ilt_n hn, br_t, inb_n hn, chk_t, between_eq, bind_some', wrap_ok (show -9223372036854775808 ≤ m - 1 by omega) (show m - 1 < 9223372036854775808 by omega)]
    obtain ⟨h1, h2⟩ := hp
    rw [decide_eq_true h1, Bool.not_true, br_f]
    by_cases h0 : 0 < n
    · rw [ilt_0 h0, br_t, wrap_pred (by omega) h0, inb_n (by omega), chk_t, ile_f (by have := h2 h0; omega), br_f, wrap_succ (by omega)]
    · rw [ilt_0n h0, br_f, wrap_succ (by omega)]
  · simp only [impl_isRising_l0, ilt_n hn, br_t, inb_n hn, chk_t, between_eq, bind_some', wrap_ok (show -9223372036854775808 ≤ m - 1 by omega) (show m - 1 < 9223372036854775808 by omega)]
    by_cases h1 : 0 ≤ rdI xs n ∧ rdI xs n ≤ m - 1
    · rw [decide_eq_true h1, Bool.not_true, br_f]
      have h0 : 0 < n := by
        rcases Nat.eq_zero_or_pos n with h0 | h0
        · exact absurd ⟨h1, fun h' => by omega⟩ hp
        · exact h0
      have h4 : ¬ rdI xs ((n - 1 : Nat) : Int) < rdI xs n := fun h' => hp ⟨h1, fun _ => h'⟩
      rw [ilt_0 h0, br_t, wrap_pred (by omega) h0, inb_n (by omega), chk_t, ile_t (by omega), br_t]
    · rw [decide_eq_false h1, Bool.not_false, br_t]
theorem szParity_eq {N : Nat} {a : Int × (List (List Int) × List Int)} (hx : a.2.1.length ≤ 9223372036854775807) (hxs : ∀ x ∈ a.2.1, x.length ≤ 9223372036854775807) (hy : a.2.2.length ≤ 9223372036854775807) (hN : 1048577 ≤ N) :
    ∃ r : Int, laws_szParity N a 1048576 = some ((r, ()), ()) ∧ (0 ≤ r → a.2.1.length ≤ 1048576 ∧ (∀ x ∈ a.2.1, x.length ≤ 1048576) ∧ a.2.2.length ≤ 1048576) := by
  obtain ⟨r, h1, h2⟩ := szIntSS_eq (left := 1048576) (by omega) hx hxs hN
  unfold laws_szParity
  simp only [h1, bind_some']
  by_cases h : 0 ≤ r
  · rw [ilt_f (by omega), br_f]
    obtain ⟨h5, h3, h4⟩ := h2 h
    rw [szIntS_eq N ⟨h, h5⟩ hy, bind_some']
    by_cases hl : (a.2.2.length : Int) ≤ r
    · simp only [if_pos hl]
      rw [ilt_f (by omega), br_f]
      exact ⟨_, rfl, fun _ => ⟨by omega, fun x hx => by have := h4 x hx; omega, by omega⟩⟩
    · simp only [if_neg hl]
      rw [ilt_t (by omega), br_t]
      exact ⟨-1, rfl, fun h => by omega⟩
  · rw [ilt_t (by omega), br_t]
    exact ⟨-1, rfl, fun h => by omega⟩
theorem toParity_eq {N : Nat} {a : Int × (List (List Int) × List Int)} (hx : a.2.1.length ≤ 1048576) (hxs : ∀ x ∈ a.2.1, x.length ≤ 1048576) (hy : a.2.2.length ≤ 1048576) (hN : 1048577 ≤ N) : laws_toParity N a = some ((a, ()), ()) := by
  unfold laws_toParity
  simp only [toIntSS_eq hx hxs hN, toIntS_eq hy hN, bind_some']
theorem eqParity_eq {N : Nat} {a b : Int × (List (List Int) × List Int)} (hx : a.2.1.length ≤ 1048576) (hxs : ∀ x ∈ a.2.1, x.length ≤ 1048576) (hy : a.2.2.length ≤ 1048576) (hN : 1048577 ≤ N) : laws_eqParity N a b = some ((decide (a = b), ()), ()) := by
  obtain ⟨a1, a2, a3⟩ := a
  obtain ⟨b1, b2, b3⟩ := b
  unfold laws_eqParity
  by_cases h1 : a1 = b1
  · rw [ine_f h1, br_f, eqIntSS_eq hx hxs hN, bind_some', br_ite]
    by_cases h2 : a2 = b2
    · rw [if_neg (by simp [h2]), eqIntS_eq (show a3.length ≤ 1099511627776 by simp at hy; omega) (show a3.length < N by simp at hy; omega), bind_some', br_ite]
      by_cases h3 : a3 = b3 <;> simp [h1, h2, h3]
    · simp [h1, h2]
  · rw [ine_t h1, br_t]
    simp [h1]
def goodP (p : Int × (List (List Int) × List Int)) : Prop := (0 ≤ p.1 ∧ p.1 ≤ 6) ∧ p.2.1.length ≤ 6 ∧ ((p.2.2.all isBit && decide ((p.2.2.length : Int) = (p.2.1.length : Int))) = true) ∧ ∀ x ∈ p.2.1, rising 0 (p.1 - 1) x
theorem spec_l6Parity_eq {N : Nat} {p : Int × (List (List Int) × List Int)} (hx : p.2.1.length ≤ 1048576) (hxs : ∀ x ∈ p.2.1, x.length ≤ 1048576) (hy : p.2.2.length ≤ 1048576) (hN : 1048577 ≤ N) : spec_l6Parity N p = some ((decide (goodP p), ()), ()) := by
  obtain ⟨m, rs, bs⟩ := p
  simp only at hx hxs hy
  unfold spec_l6Parity
  have := loop_all_if (P := ∀ x ∈ rs, rising 0 (IntKind.i64.wrap (m - 1)) x) (m := rs.length) (L := fun K i => spec_l6Parity_l0 N (fun x => some ((x, ()), ())) (fun o o1 o2 => ((spec_l1In N o 0 6).bind fun r =>
    (br r.1.1
      ((br (ile (tLen o1) 6)
        (((spec_l6Bits N (tLen o1) o2).bind fun r1 =>
          some ((r1.1.1, ()), ())))
        (some ((false, ()), ()))))
      (some ((false, ()), ()))))) K i m rs bs) (fun i => rising 0 (IntKind.i64.wrap (m - 1)) (rdL rs i)) all_rdL (kt := some ((decide ((0 ≤ m ∧ m ≤ 6) ∧ rs.length ≤ 6 ∧ ((bs.all isBit && decide ((bs.length : Int) = (rs.length : Int))) = true)), ()), ())) (kf := some ((false, ()), ())) (fun K n hn => ?_) (fun K n hn hp => ?_) (fun K n hn hp => ?_) (show rs.length < N by omega)
  · rw [show ((0 : Nat) : Int) = 0 from rfl] at this
    rw [this]
    by_cases hm : 0 ≤ m ∧ m ≤ 6
    · rw [wrap_ok (show -9223372036854775808 ≤ m - 1 by omega) (show m - 1 < 9223372036854775808 by omega)]
      by_cases h : ∀ x ∈ rs, rising 0 (m - 1) x
      · rw [if_pos h]
        congr 3
        exact decide_eq_decide.2 ⟨fun h' => ⟨h'.1, h'.2.1, h'.2.2, h⟩, fun h' => ⟨h'.1, h'.2.1, h'.2.2.1⟩⟩
      · rw [if_neg h, decide_eq_false (show ¬ goodP (m, rs, bs) from fun h' => h h'.2.2.2)]
    · rw [decide_eq_false (show ¬ goodP (m, rs, bs) from fun h => hm h.1), decide_eq_false (fun h => hm h.1), ite_self]
  · simp only [spec_l6Parity_l0, ilt_lenf hn, br_f]
    simp only [l1In_eq, bind_some', l6Bits_eq (show bs.length ≤ 1099511627776 by omega) (show bs.length < N by omega), tLen_n, br_ite, ile_d]
    by_cases hm : 0 ≤ m ∧ m ≤ 6
    · rw [if_pos (decide_eq_true hm)]
      by_cases h6 : rs.length ≤ 6
      · rw [if_pos (decide_eq_true (by omega))]
        generalize (bs.all isBit && decide ((bs.length : Int) = (rs.length : Int))) = q
        cases q <;> simp [hm, h6]
      · rw [if_neg (by simp; omega)]
        simp [h6]
    · rw [if_neg (by simpa using hm), decide_eq_false (fun h => hm h.1)]
  · simp only [spec_l6Parity_l0, ilt_len hn, br_t, inb_n hn, chk_t, l1Rising_eq (rdL_len hxs n) hN, bind_some', decide_eq_true hp, Bool.not_true, br_f]
    rw [wrap_succ (by omega)]
  · simp only [spec_l6Parity_l0, ilt_len hn, br_t, inb_n hn, chk_t, l1Rising_eq (rdL_len hxs n) hN, bind_some', decide_eq_false hp, Bool.not_false, br_t]
theorem impl_IsParity_eq {N : Nat} {p : Int × (List (List Int) × List Int)} (hx : p.2.1.length ≤ 1048576) (hxs : ∀ x ∈ p.2.1, x.length ≤ 1048576) (hy : p.2.2.length ≤ 1048576) (hN : 1048577 ≤ N) : impl_IsParity N p = some ((decide (goodP p), ()), ()) := by
  obtain ⟨m, rs, bs⟩ := p
  simp only at hx hxs hy
  unfold impl_IsParity
  simp only [between_eq, bind_some', isAssignment_eq (show bs.length ≤ 1099511627776 by omega) (show bs.length < N by omega), tLen_n, br_ite, ile_d]
  by_cases hm : 0 ≤ m ∧ m ≤ 6
  · rw [if_pos (decide_eq_true hm)]
    by_cases h6 : rs.length ≤ 6
    · rw [if_pos (decide_eq_true (by omega))]
      by_cases hb : (bs.all isBit && decide ((bs.length : Int) = (rs.length : Int))) = true
      · rw [if_pos hb, ContainsFunc_LLI_LI_eq (g := fun r => !decide (rising 0 (m - 1) r)) (fun x h => by simp only [impl_IsParity_c1, isRising_eq (hxs x h) (show 0 ≤ m ∧ m ≤ 4611686018427387904 by omega) hN, bind_some']) (by omega) (by omega), bind_some', not_any]
        congr 3
        refine decide_eq_decide.2 ⟨fun h' => ⟨hm, h6, hb, fun x hx => by simpa using h' x hx⟩, fun h' x hx => by simpa using h'.2.2.2 x hx⟩
      · rw [if_neg hb, decide_eq_false (show ¬ goodP (m, rs, bs) from fun h => hb h.2.2.1)]
    · rw [if_neg (by simp; omega), decide_eq_false (show ¬ goodP (m, rs, bs) from fun h => h6 h.2.1)]
  · rw [if_neg (by simpa using hm), decide_eq_false (show ¬ goodP (m, rs, bs) from fun h => hm h.1)]
def iotaI : Int → Nat → List Int
  | _, 0 => []
  | k, n + 1 => k :: iotaI (k + 1) n
def iotaL : Int → List (List Int) → List (List Int)
  | _, [] => []
  | k, x :: xs => iotaI k x.length :: iotaL (k + x.length) xs
def sumL : List (List Int) → Int
  | [] => 0
  | x :: xs => x.length + sumL xs
theorem sumL_cons (x : List Int) (xs : List (List Int)) : sumL (x :: xs) = x.length + sumL xs := rfl
theorem iotaI_len : ∀ (n : Nat) (k : Int), (iotaI k n).length = n := by
  intro n
  induction n with
  | zero => intro k; rfl
  | succ n ih => intro k; unfold iotaI; rw [List.length_cons, ih]
theorem sumL_le {xs : List (List Int)} (h : ∀ x ∈ xs, x.length ≤ 1048576) : 0 ≤ sumL xs ∧ sumL xs ≤ 1048576 * (xs.length : Int) := by
  induction xs with
  | nil => exact ⟨Int.le_refl _, Int.le_refl _⟩
  | cons x xs ih =>
    obtain ⟨h1, h2⟩ := ih fun y hy => h y (List.mem_cons_of_mem _ hy)
    have := h x (List.mem_cons_self ..)
    unfold sumL
    rw [List.length_cons]
    omega
theorem markIntS_eq {N : Nat} {a : List Int} {k : Int} (hk : 0 ≤ k ∧ k ≤ 2305843009213693952) (ha : a.length ≤ 1048576) (hN : 1048577 ≤ N) : laws_markIntS N a k = some ((k + a.length, ()), (iotaI k a.length, ())) := by
  have go : ∀ (d n : Nat) (o : List Int) (K : Nat) (kv : Int), n + d = o.length → o.length ≤ 1048576 → d < K → 0 ≤ kv → kv + d ≤ 4611686018427387904 →
      laws_markIntS_l0 N (fun kv1 o => some ((kv1, ()), (o, ()))) K kv n o = some ((kv + d, ()), (o.take n ++ iotaI kv d, ())) := by
    intro d
    induction d with
    | zero =>
      intro n o K kv hd ho hK h0 h1
      obtain ⟨k, rfl⟩ := succ_of hK
      have hn : ¬ n < o.length := by omega
      simp only [laws_markIntS_l0, ilt_lenf hn, br_f, iotaI, List.append_nil]
      rw [List.take_of_length_le (by omega)]
      simp
    | succ d ih =>
      intro n o K kv hd ho hK h0 h1
      obtain ⟨k, rfl⟩ := succ_of hK
      have hn : n < o.length := by omega
      simp only [laws_markIntS_l0, ilt_len hn, br_t, inb_n hn, chk_t]
      rw [wrap_succ (by omega), wrap_ok (by omega) (by omega), tSet_n, ih (n + 1) _ k _ (by simp; omega) (by simpa using ho) (by omega) (by omega) (by omega)]
      congr 2
      · congr 1
        omega
      · rw [List.take_add_one, List.getElem?_set_self (by omega), List.take_set_of_le (Nat.le_refl n)]
        simp [iotaI]
  unfold laws_markIntS
  have := go a.length 0 a N k (by omega) ha (by omega) hk.1 (by omega)
  simpa using this
theorem heldIntS_eq {N : Nat} {n : Nat} {k : Int} (hk : 0 ≤ k ∧ k ≤ 2305843009213693952) (ha : n ≤ 1048576) (hN : 1048577 ≤ N) : laws_heldIntS N (iotaI k n) k = some ((k + n, ()), ()) := by
  have go : ∀ (d n : Nat) (xs : List Int) (K : Nat) (kv : Int), n + d = xs.length → xs.length ≤ 1048576 → d < K → 0 ≤ kv → kv + d ≤ 4611686018427387904 → xs.drop n = iotaI kv d →
      laws_heldIntS_l0 N (fun x => some ((x, ()), ())) (fun kv1 => some ((kv1, ()), ())) K xs kv n = some ((kv + d, ()), ()) := by
    intro d
    induction d with
    | zero =>
      intro n xs K kv hd ho hK h0 h1 e
      obtain ⟨k, rfl⟩ := succ_of hK
      have hn : ¬ n < xs.length := by omega
      simp only [laws_heldIntS_l0, ilt_lenf hn, br_f]
      simp
    | succ d ih =>
      intro n xs K kv hd ho hK h0 h1 e
      obtain ⟨k, rfl⟩ := succ_of hK
      have hn : n < xs.length := by omega
      rw [drop_cons hn] at e
      injection e with e1 e2
      simp only [laws_heldIntS_l0, ilt_len hn, br_t, inb_n hn, chk_t]
      rw [rdI_n hn, ine_f e1, br_f, wrap_succ (by omega), wrap_ok (by omega) (by omega), ih (n + 1) _ k _ (by omega) ho (by omega) (by omega) (by omega) e2]
      congr 3
      omega
  unfold laws_heldIntS
  have hl := iotaI_len n k
  have := go n 0 (iotaI k n) N k (by omega) (by omega) (by omega) hk.1 (by omega) rfl
  simpa using this
theorem markIntSS_eq {N : Nat} {a : List (List Int)} {k : Int} (hk : 0 ≤ k ∧ k ≤ 1152921504606846976) (ha : a.length ≤ 1048576) (has : ∀ x ∈ a, x.length ≤ 1048576) (hN : 1048577 ≤ N) : laws_markIntSS N a k = some ((k + sumL a, ()), (iotaL k a, ())) := by
  have go : ∀ (d n : Nat) (o : List (List Int)) (K : Nat) (kv : Int), n + d = o.length → o.length ≤ 1048576 → (∀ x ∈ o.drop n, x.length ≤ 1048576) → d < K → 0 ≤ kv → kv + 1048576 * d ≤ 2305843009213693952 →
      laws_markIntSS_l0 N (fun kv1 o => some ((kv1, ()), (o, ()))) K kv n o = some ((kv + sumL (o.drop n), ()), (o.take n ++ iotaL kv (o.drop n), ())) := by
    intro d
    induction d with
    | zero =>
      intro n o K kv hd ho hos hK h0 h1
      obtain ⟨k, rfl⟩ := succ_of hK
      have hn : ¬ n < o.length := by omega
      simp only [laws_markIntSS_l0, ilt_lenf hn, br_f]
      rw [List.take_of_length_le (by omega), List.drop_of_length_le (by omega)]
      simp [sumL, iotaL]
    | succ d ih =>
      intro n o K kv hd ho hos hK h0 h1
      obtain ⟨k, rfl⟩ := succ_of hK
      have hn : n < o.length := by omega
      rw [drop_cons hn] at hos ⊢
      have hl := hos _ (List.mem_cons_self ..)
      simp only [laws_markIntSS_l0, ilt_len hn, br_t, inb_n hn, chk_t]
      have e : (o.set n (iotaI kv o[n].length)).drop (n + 1) = o.drop (n + 1) := by rw [List.drop_set_of_lt (by omega)]
      rw [rdL_n hn, markIntS_eq ⟨h0, by omega⟩ hl hN]
      simp only [bind_some']
      rw [wrap_succ (by omega), tSet_n, ih (n + 1) _ k _ (by simp; omega) (by simpa using ho) (by rw [e]; exact fun x hx => hos x (List.mem_cons_of_mem _ hx)) (by omega) (by omega) (by omega), e]
      congr 2
      · congr 1
        rw [sumL_cons]
        omega
      · rw [List.take_add_one, List.getElem?_set_self (by omega), List.take_set_of_le (Nat.le_refl n)]
        simp [iotaL]
  unfold laws_markIntSS
  have := go a.length 0 a N k (by omega) ha (by simpa using has) (by omega) hk.1 (by omega)
  simpa using this
theorem heldIntSS_eq {N : Nat} {a : List (List Int)} {k : Int} (hk : 0 ≤ k ∧ k ≤ 1152921504606846976) (ha : a.length ≤ 1048576) (has : ∀ x ∈ a, x.length ≤ 1048576) (hN : 1048577 ≤ N) : laws_heldIntSS N (iotaL k a) k = some ((k + sumL a, ()), ()) := by
  have go : ∀ (b : List (List Int)) (n : Nat) (xs : List (List Int)) (K : Nat) (kv : Int), n + b.length = xs.length → xs.length ≤ 1048576 → (∀ x ∈ b, x.length ≤ 1048576) → b.length < K → 0 ≤ kv → kv + 1048576 * b.length ≤ 2305843009213693952 → xs.drop n = iotaL kv b →
      laws_heldIntSS_l0 N (fun x => some ((x, ()), ())) (fun kv1 => some ((kv1, ()), ())) K xs kv n = some ((kv + sumL b, ()), ()) := by
    intro b
    induction b with
    | nil =>
      intro n xs K kv hd ho hos hK h0 h1 e
      obtain ⟨k, rfl⟩ := succ_of hK
      have hn : ¬ n < xs.length := by simp at hd; omega
      simp only [laws_heldIntSS_l0, ilt_lenf hn, br_f]
      simp [sumL]
    | cons y b ih =>
      intro n xs K kv hd ho hos hK h0 h1 e
      obtain ⟨k, rfl⟩ := succ_of hK
      rw [List.length_cons] at hd hK h1
      have hn : n < xs.length := by omega
      rw [drop_cons hn] at e
      injection e with e1 e2
      have hl := hos _ (List.mem_cons_self ..)
      simp only [laws_heldIntSS_l0, ilt_len hn, br_t, inb_n hn, chk_t]
      rw [rdL_n hn, e1, heldIntS_eq ⟨h0, by omega⟩ hl hN]
      simp only [bind_some']
      rw [ilt_f (by omega), br_f, wrap_succ (by omega), ih (n + 1) _ k _ (by omega) ho (fun x hx => hos x (List.mem_cons_of_mem _ hx)) (by omega) (by omega) (by omega) e2]
      congr 3
      rw [sumL_cons]
      omega
  have len : ∀ (a : List (List Int)) (k : Int), (iotaL k a).length = a.length := by
    intro a
    induction a with
    | nil => intro k; rfl
    | cons x a ih => intro k; unfold iotaL; rw [List.length_cons, ih, List.length_cons]
  unfold laws_heldIntSS
  have hl := len a k
  have := go a 0 (iotaL k a) N k (by omega) (by omega) has (by omega) hk.1 (by omega) rfl
  simpa using this
theorem markParity_eq {N : Nat} {a : Int × (List (List Int) × List Int)} {k : Int} (hk : 0 ≤ k ∧ k ≤ 1152921504606846976) (ha : a.2.1.length ≤ 1048576) (has : ∀ x ∈ a.2.1, x.length ≤ 1048576) (hb : a.2.2.length ≤ 1048576) (hN : 1048577 ≤ N) : laws_markParity N a k = some ((k + sumL a.2.1 + a.2.2.length, ()), ((a.1, (iotaL k a.2.1, iotaI (k + sumL a.2.1) a.2.2.length)), ())) := by
  unfold laws_markParity
  have := sumL_le has
  simp only [markIntSS_eq hk ha has hN, bind_some']
  rw [markIntS_eq (by omega) hb hN, bind_some']
theorem eqIntA2_eq (N : Nat) (a b : Int × Int) : laws_eqIntA2 N a b = some ((decide (a = b), ()), ()) := by
  obtain ⟨a1, a2⟩ := a
  obtain ⟨b1, b2⟩ := b
  unfold laws_eqIntA2 laws_eqIntA2_l0
  by_cases h1 : a1 = b1
  · rw [ine_f h1, br_f]
    by_cases h2 : a2 = b2
    · rw [ine_f h2, br_f]; simp [h1, h2]
    · rw [ine_t h2, br_t]; simp [h2]
  · rw [ine_t h1, br_t]; simp [h1]
theorem eqIntA2S_eq {N : Nat} {a b : List (Int × Int)} (hx : a.length ≤ 1048576) (hN : 1048577 ≤ N) : laws_eqIntA2S N a b = some ((decide (a = b), ()), ()) := by
  unfold laws_eqIntA2S
  simp only [tLen_n]
  by_cases hl : a.length = b.length
  · rw [ine_f (by omega), br_f]
    have := loop_all_if (P := a = b) (m := a.length) (L := fun K i => laws_eqIntA2S_l0 N (fun x => some ((x, ()), ())) (fun (_ : Unit) => some ((true, ()), ())) K a b i) (fun i => rdP a i = rdP b i) ⟨fun h i _ => by rw [h], fun h => List.ext_getElem hl fun i h1 h2 => by have := h i h1; rwa [rdP_n h1, rdP_n h2] at this⟩ (kt := some ((true, ()), ())) (kf := some ((false, ()), ())) (fun K n hn => ?_) (fun K n hn hp => ?_) (fun K n hn hp => ?_) (show a.length < N by omega)
    · rw [show ((0 : Nat) : Int) = 0 from rfl] at this
      rw [this]
      by_cases h : a = b <;> simp [h]
    · simp only [laws_eqIntA2S_l0, ilt_lenf hn, br_f]
    · simp only [laws_eqIntA2S_l0, ilt_len hn, inb_n hn, inb_n (show n < b.length by omega), br_t, chk_t, eqIntA2_eq, bind_some']
      rw [decide_eq_true hp, Bool.not_true, br_f, wrap_succ (by omega)]
    · simp only [laws_eqIntA2S_l0, ilt_len hn, inb_n hn, inb_n (show n < b.length by omega), br_t, chk_t, eqIntA2_eq, bind_some']
      rw [decide_eq_false hp, Bool.not_false, br_t]
  · rw [ine_t (by omega), br_t]
    have : a ≠ b := fun h => hl (by rw [h])
    simp [this]
theorem compare_eq (N : Nat) (x y : Int) : cmp_Compare_int N x y = some ((if x < y then -1 else if y < x then 1 else 0, ()), ()) := by
  unfold cmp_Compare_int cmp_isNaN_int
  simp only [bind_some', ine_f (rfl : x = x), ine_f (rfl : y = y), br_f]
  by_cases h1 : x < y
  · rw [ilt_t h1, br_t, if_pos h1]
  · rw [ilt_f h1, br_f, if_neg h1]
    by_cases h2 : y < x
    · rw [ilt_t h2, br_t, if_pos h2]
    · rw [ilt_f h2, br_f, if_neg h2]
def allB (m : Nat) : List (List Int) := (List.range (2 ^ m)).map fun n => (List.range m).map fun v => ((n / 2 ^ (m - 1 - v) % 2 : Nat) : Int)
theorem allB_spec0 : spec_l6All 1048577 ((0 : Nat) : Int) = some ((allB 0, ()), ()) := by kernel_rfl
theorem allB_spec1 : spec_l6All 1048577 ((1 : Nat) : Int) = some ((allB 1, ()), ()) := by kernel_rfl
theorem allB_spec2 : spec_l6All 1048577 ((2 : Nat) : Int) = some ((allB 2, ()), ()) := by kernel_rfl
theorem allB_spec3 : spec_l6All 1048577 ((3 : Nat) : Int) = some ((allB 3, ()), ()) := by kernel_rfl
theorem allB_spec4 : spec_l6All 1048577 ((4 : Nat) : Int) = some ((allB 4, ()), ()) := by kernel_rfl
theorem allB_spec5 : spec_l6All 1048577 ((5 : Nat) : Int) = some ((allB 5, ()), ()) := by kernel_rfl
theorem allB_spec6 : spec_l6All 1048577 ((6 : Nat) : Int) = some ((allB 6, ()), ()) := by kernel_rfl
theorem allB_spec : ∀ m : Nat, m ≤ 6 → spec_l6All 1048577 (m : Int) = some ((allB m, ()), ())
  | 0, _ => allB_spec0
  | 1, _ => allB_spec1
  | 2, _ => allB_spec2
  | 3, _ => allB_spec3
  | 4, _ => allB_spec4
  | 5, _ => allB_spec5
  | 6, _ => allB_spec6
theorem allB_len (m : Nat) : (allB m).length = 2 ^ m := by simp [allB]
theorem allB_row {m : Nat} {b : List Int} (h : b ∈ allB m) : b.length = m := by
  unfold allB at h
  obtain ⟨n, _, rfl⟩ := List.mem_map.1 h
  simp
theorem iter_app {p : Nat → Prop} [DecidablePred p] : ∀ (d n : Nat) (o : List Int), iter (fun n o => if p n then o ++ [(n : Int)] else o) d n o = o ++ ((List.range' n d).filter fun i => decide (p i)).map (fun i : Nat => (i : Int)) := by
  intro d
  induction d with
  | zero => intro n o; simp [iter]
  | succ d ih =>
    intro n o
    unfold iter
    rw [ih, List.range'_succ]
    by_cases h : p n <;> simp [h]
theorem wrap64 {n : Nat} (h : n < 18446744073709551616) : IntKind.u64.wrap (n : Int) = (n : Int) := by
  unfold IntKind.wrap
  simp only [IntKind.bits, IntKind.signed, Bool.false_and]
  have : (n : Int) % (2 ^ 64 : Int) = n := Int.emod_eq_of_lt (by omega) (by omega)
  rw [this]
  rfl
def bitAt (m n v : Nat) : Int := ((n / 2 ^ (m - 1 - v) % 2 : Nat) : Int)
theorem bitTab : ((List.range 64).all fun n => (List.range 6).all fun k => decide (bitop .and .i64 (shrI .i64 (n : Int) (k : Int)) 1 = ((n / 2 ^ k % 2 : Nat) : Int))) = true := by kernel_rfl
theorem bit_at {n k : Nat} (hn : n < 64) (hk : k < 6) : bitop .and .i64 (shrI .i64 (n : Int) (k : Int)) 1 = ((n / 2 ^ k % 2 : Nat) : Int) := by
  have h := List.all_eq_true.1 bitTab n (List.mem_range.2 hn)
  have h := List.all_eq_true.1 h k (List.mem_range.2 hk)
  exact of_decide_eq_true h
theorem assign_row {R : Type} {N m n : Nat} {k0 : Int → (List Int → Option Bool) → Int → Int → List (List Int) → List Int → Option R} {is : List Int → Option Bool} {x2 x3 : Int} {o1 : List (List Int)} (hm : m ≤ 6) (hn : n < 64) : ∀ (d v K : Nat) (o2 : List Int), v + d = m → d < K → o2.length = v →
    impl_assignments_own_l0_0 N k0 K (m : Int) is (n : Int) x2 x3 (m : Int) (v : Int) o1 o2 = k0 (m : Int) is x2 x3 o1 (o2 ++ (List.range' v d).map (bitAt m n)) := by
  intro d
  induction d with
  | zero =>
    intro v K o2 hv hK ho
    obtain ⟨K, rfl⟩ := succ_of hK
    simp only [impl_assignments_own_l0_0, ilt_nf (show ¬ v < m by omega), br_f]
    simp
  | succ d ih =>
    intro v K o2 hv hK ho
    obtain ⟨K, rfl⟩ := succ_of hK
    have e1 : IntKind.i64.wrap (IntKind.i64.wrap ((m : Int) - 1) - (v : Int)) = ((m - 1 - v : Nat) : Int) := by
      rw [wrap_ok (show -9223372036854775808 ≤ (m : Int) - 1 by omega) (by omega), wrap_ok (by omega) (by omega)]
      omega
    simp only [impl_assignments_own_l0_0, ilt_n (show v < m by omega), br_t, e1, bit_at hn (show m - 1 - v < 6 by omega)]
    rw [ile_t (by omega), chk_t, room_ok (by simp; omega), chk_t, wrap_succ (by omega), ih (v + 1) K _ (by omega) (by omega) (by simp [tApp_d, ho])]
    rw [List.range'_succ, List.map_cons, tApp_d, List.append_assoc]
    rfl
def rowB (m n : Nat) : List Int := (List.range m).map (bitAt m n)
theorem allB_rows (m : Nat) : allB m = (List.range (2 ^ m)).map (rowB m) := rfl
theorem pow_le64 {m : Nat} (h : m ≤ 6) : 2 ^ m ≤ 64 := Nat.pow_le_pow_right (by omega) h
theorem shl_m {m : Nat} (h : m ≤ 6) : shlI .i64 1 (m : Int) = ((2 ^ m : Nat) : Int) := by
  rcases (by omega : m = 0 ∨ m = 1 ∨ m = 2 ∨ m = 3 ∨ m = 4 ∨ m = 5 ∨ m = 6) with rfl | rfl | rfl | rfl | rfl | rfl | rfl <;> rfl
theorem assignments_eq {N m : Nat} {is : List Int → Option Bool} {p : List Int → Bool} (hN : 1048577 ≤ N) (hm : m ≤ 6) (hp : ∀ b ∈ allB m, is b = some (p b)) : impl_assignments_own N (m : Int) is = some (((allB m).filter p, ()), ()) := by
  have h64 := pow_le64 hm
  have go : ∀ (r c K : Nat) (o : List (List Int)), c + r = 2 ^ m → r < K → o.length ≤ c →
      impl_assignments_own_l0 N (fun o => some ((o, ()), ())) K (m : Int) is ((2 ^ m : Nat) : Int) (c : Int) o = some ((o ++ ((List.range' c r).map (rowB m)).filter p, ()), ()) := by
    intro r
    induction r with
    | zero =>
      intro c K o hc hK ho
      obtain ⟨K, rfl⟩ := succ_of hK
      simp only [impl_assignments_own_l0, ilt_nf (show ¬ c < 2 ^ m by omega), br_f]
      simp
    | succ r ih =>
      intro c K o hc hK ho
      obtain ⟨K, rfl⟩ := succ_of hK
      simp only [impl_assignments_own_l0, ilt_n (show c < 2 ^ m by omega), br_t]
      have := assign_row (N := N) (m := m) (n := c) (k0 := fun vars2 is2 x2 x3 o1 o2 => (is2 o2).bind fun v => br v (chk (room o1 [o2]) (impl_assignments_own_l0 N (fun o => some ((o, ()), ())) K vars2 is2 x2 (IntKind.i64.wrap (x3 + 1)) (tApp o1 [o2]))) (impl_assignments_own_l0 N (fun o => some ((o, ()), ())) K vars2 is2 x2 (IntKind.i64.wrap (x3 + 1)) o1))
        (is := is) (x2 := ((2 ^ m : Nat) : Int)) (x3 := (c : Int)) (o1 := o) hm (by omega) m 0 N [] (by omega) (by omega) rfl
      rw [show ((0 : Nat) : Int) = 0 from rfl] at this
      rw [this, List.nil_append, ← List.range_eq_range']
      have hmem : rowB m c ∈ allB m := by rw [allB_rows]; exact List.mem_map.2 ⟨c, List.mem_range.2 (by omega), rfl⟩
      have hq := hp _ hmem
      unfold rowB at hq
      rw [hq, bind_some', wrap_succ (by omega), List.range'_succ, List.map_cons]
      cases hb : p (rowB m c) with
      | true =>
        unfold rowB at hb
        rw [hb, br_t, room_ok (by simp; omega), chk_t, tApp_d, ih (c + 1) K _ (by omega) (by omega) (by simp; omega)]
        rw [List.filter_cons_of_pos (show p (rowB m c) = true from hb), List.append_assoc]
        rfl
      | false =>
        unfold rowB at hb
        rw [hb, br_f, ih (c + 1) K _ (by omega) (by omega) (by omega)]
        rw [List.filter_cons_of_neg (by show ¬ p (rowB m c) = true; unfold rowB; rw [hb]; simp)]
  unfold impl_assignments_own
  rw [ile_t (by omega), chk_t, shl_m hm]
  have := go (2 ^ m) 0 N [] (by omega) (by omega) (by simp)
  rw [show ((0 : Nat) : Int) = 0 from rfl] at this
  rw [this, List.nil_append, ← List.range_eq_range', ← allB_rows]
theorem allB_bits {m : Nat} {b : List Int} (h : b ∈ allB m) : ∀ x ∈ b, x = 0 ∨ x = 1 := by
  obtain ⟨n, _, rfl⟩ := List.mem_map.1 h
  intro x hx
  obtain ⟨v, _, rfl⟩ := List.mem_map.1 hx
  omega
def sumAt (b : List Int) : List Int → Int
  | [] => 0
  | v :: r => rdI b v + sumAt b r
theorem rdI_bit {b : List Int} (h : ∀ x ∈ b, x = 0 ∨ x = 1) (i : Int) : rdI b i = 0 ∨ rdI b i = 1 := by
  unfold rdI
  rw [List.getD_eq_getElem?_getD]
  cases hq : b[i.toNat]? with
  | none => exact .inl rfl
  | some v => exact h v (List.mem_of_getElem? hq)
theorem sumAt_le {b : List Int} (h : ∀ x ∈ b, x = 0 ∨ x = 1) : ∀ row : List Int, 0 ≤ sumAt b row ∧ sumAt b row ≤ row.length := by
  intro row
  induction row with
  | nil => simp [sumAt]
  | cons v r ih =>
    have := rdI_bit h v
    simp only [sumAt, List.length_cons]
    omega
theorem sumAt_snoc (b : List Int) (v : Int) : ∀ row : List Int, sumAt b (row ++ [v]) = sumAt b row + rdI b v := by
  intro row
  induction row with
  | nil => simp [sumAt]
  | cons u r ih => simp only [sumAt, List.cons_append]; omega
theorem rising_in {lo hi : Int} {xs : List Int} (h : rising lo hi xs) : ∀ x ∈ xs, lo ≤ x ∧ x ≤ hi := all_rdI.2 fun i hi => (h i hi).1
def evenAt (rows : List (List Int)) (right : List Int) (b : List Int) (r : Nat) : Prop := (rdI right r + sumAt b (rdL rows r)) % 2 = 0
noncomputable def evenB (p : Int × (List (List Int) × List Int)) (b : List Int) : Bool := decide (∀ r, r < p.2.1.length → evenAt p.2.1 p.2.2 b r)
theorem goodP_right {p : Int × (List (List Int) × List Int)} (h : goodP p) : p.2.2.length = p.2.1.length ∧ ∀ x ∈ p.2.2, x = 0 ∨ x = 1 := by
  have := h.2.2.1
  rw [Bool.and_eq_true, decide_eq_true_iff] at this
  refine ⟨by omega, fun x hx => ?_⟩
  have := List.all_eq_true.1 this.1 x hx
  simp only [isBit, decide_eq_true_eq] at this
  omega
theorem parity_row {R : Type} {N : Nat} {k0 : List Int → Int × (List (List Int) × List Int) → Int → Int → List (List Int) → Int → Int → Option R} {b row : List Int} {x4 : Int × (List (List Int) × List Int)} {i : Int} {x5 : List (List Int)} {x6 x7 : Int} (hb : ∀ x ∈ b, x = 0 ∨ x = 1) (hr : ∀ v ∈ row, 0 ≤ v ∧ v < b.length) (hl : row.length ≤ 1048576) :
    ∀ (d n K : Nat), n + d = row.length → d < K → impl_Parity_solutions_c1_l0_0 N k0 K b x4 i (sumAt b (row.take n)) x5 x6 x7 row (row.length : Int) (n : Int) = k0 b x4 i (sumAt b row) x5 x6 x7 := by
  intro d
  induction d with
  | zero =>
    intro n K hn hK
    obtain ⟨K, rfl⟩ := succ_of hK
    simp only [impl_Parity_solutions_c1_l0_0, ilt_nf (show ¬ n < row.length by omega), br_f]
    rw [List.take_of_length_le (by omega)]
  | succ d ih =>
    intro n K hn hK
    obtain ⟨K, rfl⟩ := succ_of hK
    have hlt : n < row.length := by omega
    have hv := hr _ (List.getElem_mem hlt)
    simp only [impl_Parity_solutions_c1_l0_0, ilt_n hlt, br_t, inb_n hlt, chk_t, rdI_n hlt]
    rw [inb_i hv.1 (by omega), chk_t]
    have h1 := sumAt_le hb (row.take n)
    have h2 := rdI_bit hb row[n]
    have h3 : (row.take n).length ≤ 1048576 := by simp; omega
    rw [wrap_ok (show -9223372036854775808 ≤ sumAt b (row.take n) + rdI b row[n] by omega) (by omega), wrap_succ (by omega), ← sumAt_snoc]
    have e : row.take n ++ [row[n]] = row.take (n + 1) := by rw [List.take_add_one, List.getElem?_eq_getElem hlt]; rfl
    rw [e]
    exact ih (n + 1) K (by omega) (by omega)
theorem parity_c1 {N : Nat} (hN : 1048577 ≤ N) {p : Int × (List (List Int) × List Int)} (hp : goodP p) (hrows : ∀ x ∈ p.2.1, x.length ≤ 1048576) {b : List Int} (hb : b ∈ allB p.1.toNat) : impl_Parity_solutions_c1 N b p = some ((evenB p b, ()), ()) := by
  have hbits := allB_bits hb
  have hbl := allB_row hb
  obtain ⟨hr1, hr2⟩ := goodP_right hp
  have h0 := hp.1
  have h6 := hp.2.1
  unfold impl_Parity_solutions_c1
  have := loop_all_if (P := ∀ r, r < p.2.1.length → evenAt p.2.1 p.2.2 b r) (m := p.2.1.length) (L := fun K i => impl_Parity_solutions_c1_l0 N (fun x => some ((x, ()), ())) (fun (_ : Unit) => some ((true, ()), ())) K b p p.2.1 (p.2.1.length : Int) i) (fun i => evenAt p.2.1 p.2.2 b i) Iff.rfl
    (kt := some ((true, ()), ())) (kf := some ((false, ()), ())) (fun K n hn => ?_) (fun K n hn hq => ?_) (fun K n hn hq => ?_) (show p.2.1.length < N by omega)
  · rw [show ((0 : Nat) : Int) = 0 from rfl] at this
    rw [tLen_n, this]
    unfold evenB
    by_cases h : ∀ r, r < p.2.1.length → evenAt p.2.1 p.2.2 b r
    · rw [if_pos h, decide_eq_true h]
    · rw [if_neg h, decide_eq_false h]
  · simp only [impl_Parity_solutions_c1_l0, ilt_nf hn, br_f]
  all_goals
    simp only [impl_Parity_solutions_c1_l0, ilt_n hn, br_t, inb_n hn, chk_t]
    have hmem : rdL p.2.1 n ∈ p.2.1 := by rw [rdL_n hn]; exact List.getElem_mem hn
    have hin := rising_in (hp.2.2.2 _ hmem)
    have hlen := hrows _ hmem
    have hpr := parity_row (R := (Bool × Unit) × Unit) (N := N) (k0 := fun list2 x4 i sum x5 x6 x7 => chk (inb x4.2.2 i) (br (ine (sum.tmod 2) (rdI x4.2.2 i)) (some ((false, ()), ())) (impl_Parity_solutions_c1_l0 N (fun x => some ((x, ()), ())) (fun (_ : Unit) => some ((true, ()), ())) K list2 x4 x5 x6 (IntKind.i64.wrap (x7 + 1)))))
      (b := b) (row := rdL p.2.1 n) (x4 := p) (i := (n : Int)) (x5 := p.2.1) (x6 := (p.2.1.length : Int)) (x7 := (n : Int)) hbits (fun v hv => by have := hin v hv; omega) hlen (rdL p.2.1 n).length 0 N (by omega) (by omega)
    simp only [List.take_zero, sumAt] at hpr
    rw [show ((0 : Nat) : Int) = 0 from rfl] at hpr
    rw [tLen_n, hpr, inb_n (show n < p.2.2.length by omega), chk_t, wrap_succ (by omega)]
    have hs := sumAt_le hbits (rdL p.2.1 n)
    have hbit := rdI_bit hr2 (n : Int)
    rw [Int.tmod_eq_emod_of_nonneg hs.1]
    unfold evenAt at hq
  · rw [ine_f (by omega), br_f]
  · rw [ine_t (by omega), br_t]
theorem impl_even_eq {N : Nat} (hN : 1048577 ≤ N) {p : Int × (List (List Int) × List Int)} (hp : goodP p) (hrows : ∀ x ∈ p.2.1, x.length ≤ 1048576) : impl_Parity_solutions N p = some (((allB p.1.toNat).filter (evenB p), ()), ()) := by
  unfold impl_Parity_solutions
  have h0 := hp.1
  have e : p.1 = ((p.1.toNat : Nat) : Int) := by omega
  have := assignments_eq hN (m := p.1.toNat) (is := fun y0 => (impl_Parity_solutions_c1 N y0 p).bind fun z => some z.1.1) (p := evenB p) (by omega) fun b hb => by rw [parity_c1 hN hp hrows hb, bind_some']
  rw [← e] at this
  rw [show ((p.1, (p.2.1, p.2.2)) : Int × (List (List Int) × List Int)) = p from rfl, this, bind_some']
theorem even_row {R : Type} {N : Nat} {k0 : List (List Int) → Int → Bool → Int → Int → Int → List (List Int) → List Int → List (List Int) → Option R} {all rows : List (List Int)} {a r : Nat} {f : Bool} {x : Int} {o16 : Int} {right : List Int} {o19 : List (List Int)} (ha : a < all.length) (hr : r < rows.length) (hb : ∀ x ∈ rdL all a, x = 0 ∨ x = 1) (hrow : ∀ v ∈ rdL rows r, 0 ≤ v ∧ v < (rdL all a).length) (hl : (rdL rows r).length ≤ 1048576) (hx : x = 0 ∨ x = 1) :
    ∀ (d n K : Nat), n + d = (rdL rows r).length → d < K → spec_l6Even_l0_0_0 N k0 K all (a : Int) f (r : Int) (x + sumAt (rdL all a) ((rdL rows r).take n)) (n : Int) o16 rows right o19 = k0 all (a : Int) f (r : Int) (x + sumAt (rdL all a) (rdL rows r)) o16 rows right o19 := by
  intro d
  induction d with
  | zero =>
    intro n K hn hK
    obtain ⟨K, rfl⟩ := succ_of hK
    simp only [spec_l6Even_l0_0_0, inb_n hr, chk_t, tLen_n, ilt_nf (show ¬ n < (rdL rows r).length by omega), br_f]
    rw [List.take_of_length_le (by omega)]
  | succ d ih =>
    intro n K hn hK
    obtain ⟨K, rfl⟩ := succ_of hK
    have hlt : n < (rdL rows r).length := by omega
    have hv := hrow _ (List.getElem_mem hlt)
    simp only [spec_l6Even_l0_0_0, inb_n hr, inb_n ha, chk_t, tLen_n, ilt_n hlt, br_t, inb_n hlt, rdI_n hlt]
    rw [inb_i hv.1 (by omega), chk_t]
    have h1 := sumAt_le hb ((rdL rows r).take n)
    have h2 := rdI_bit hb (rdL rows r)[n]
    have h3 : ((rdL rows r).take n).length ≤ 1048576 := by simp; omega
    rw [wrap_ok (show -9223372036854775808 ≤ x + sumAt (rdL all a) ((rdL rows r).take n) + rdI (rdL all a) (rdL rows r)[n] by omega) (by omega), wrap_succ (by omega), Int.add_assoc, ← sumAt_snoc]
    have e : (rdL rows r).take n ++ [(rdL rows r)[n]] = (rdL rows r).take (n + 1) := by rw [List.take_add_one, List.getElem?_eq_getElem hlt]; rfl
    rw [e]
    exact ih (n + 1) K (by omega) (by omega)
theorem even_rows {R : Type} {N : Nat} (hN : 1048577 ≤ N) {k0 : List (List Int) → Int → Bool → Int → List (List Int) → List Int → List (List Int) → Option R} {all : List (List Int)} {a : Nat} {p : Int × (List (List Int) × List Int)} {o12 : Int} {o15 : List (List Int)} (hp : goodP p) (hrows : ∀ x ∈ p.2.1, x.length ≤ 1048576) (ha : a < all.length) (hb : ∀ x ∈ rdL all a, x = 0 ∨ x = 1) (hbl : (rdL all a).length = p.1.toNat) :
    ∀ (d n K : Nat) (f : Bool), n + d = p.2.1.length → d < K → spec_l6Even_l0_0 N k0 K all (a : Int) f (n : Int) o12 p.2.1 p.2.2 o15 = k0 all (a : Int) (f && decide (∀ r : Nat, n ≤ r → r < p.2.1.length → evenAt p.2.1 p.2.2 (rdL all a) r)) o12 p.2.1 p.2.2 o15 := by
  obtain ⟨hr1, hr2⟩ := goodP_right hp
  have h0 := hp.1
  have h6 := hp.2.1
  intro d
  induction d with
  | zero =>
    intro n K f hn hK
    obtain ⟨K, rfl⟩ := succ_of hK
    simp only [spec_l6Even_l0_0, ilt_lenf (show ¬ n < p.2.1.length by omega), br_f]
    rw [decide_eq_true (fun r h1 h2 => by omega), Bool.and_true]
  | succ d ih =>
    intro n K f hn hK
    obtain ⟨K, rfl⟩ := succ_of hK
    have hlt : n < p.2.1.length := by omega
    simp only [spec_l6Even_l0_0, ilt_len hlt, br_t, inb_n (show n < p.2.2.length by omega), chk_t]
    have hmem : rdL p.2.1 n ∈ p.2.1 := by rw [rdL_n hlt]; exact List.getElem_mem hlt
    have hin := rising_in (hp.2.2.2 _ hmem)
    have hlen := hrows _ hmem
    have hbit := rdI_bit hr2 (n : Int)
    have hpr := even_row (R := R) (N := N) (k0 := fun x11 x12 x13 x14 x15 o16 o17 o18 o19 => br x13 (spec_l6Even_l0_0 N k0 K x11 x12 (ieq (x15.tmod 2) 0) (IntKind.i64.wrap (x14 + 1)) o16 o17 o18 o19) (spec_l6Even_l0_0 N k0 K x11 x12 false (IntKind.i64.wrap (x14 + 1)) o16 o17 o18 o19))
      (all := all) (rows := p.2.1) (a := a) (r := n) (f := f) (x := rdI p.2.2 n) (o16 := o12) (right := p.2.2) (o19 := o15) ha hlt hb (fun v hv => by have := hin v hv; omega) hlen hbit (rdL p.2.1 n).length 0 N (by omega) (by omega)
    simp only [List.take_zero, sumAt, Int.add_zero] at hpr
    rw [show ((0 : Nat) : Int) = 0 from rfl] at hpr
    rw [hpr]
    have hs := sumAt_le hb (rdL p.2.1 n)
    rw [Int.tmod_eq_emod_of_nonneg (show 0 ≤ rdI p.2.2 n + sumAt (rdL all a) (rdL p.2.1 n) by omega), wrap_succ (by omega)]
    have split : (∀ r : Nat, n ≤ r → r < p.2.1.length → evenAt p.2.1 p.2.2 (rdL all a) r) ↔ evenAt p.2.1 p.2.2 (rdL all a) n ∧ ∀ r : Nat, n + 1 ≤ r → r < p.2.1.length → evenAt p.2.1 p.2.2 (rdL all a) r :=
      ⟨fun h => ⟨h n (Nat.le_refl _) hlt, fun r h1 h2 => h r (by omega) h2⟩, fun h r h1 h2 => by
        by_cases e : r = n
        · rw [e]; exact h.1
        · exact h.2 r (by omega) h2⟩
    rw [ih (n + 1) K _ (by omega) (by omega), ih (n + 1) K _ (by omega) (by omega), ieq_d]
    cases f with
    | false => rw [br_f, Bool.false_and, Bool.false_and]
    | true =>
      rw [br_t, Bool.true_and, ← Bool.decide_and]
      congr 1
      exact decide_eq_decide.2 split.symm
theorem spec_even_eq {N : Nat} (hNe : N = 1048577) {p : Int × (List (List Int) × List Int)} (hp : goodP p) (hrows : ∀ x ∈ p.2.1, x.length ≤ 1048576) : spec_l6Even N p = some (((allB p.1.toNat).filter (evenB p), ()), ()) := by
  have hN : 1048577 ≤ N := by omega
  have h0 := hp.1
  have e : p.1 = ((p.1.toNat : Nat) : Int) := by omega
  have hall := allB_spec p.1.toNat (by omega)
  rw [← hNe, ← e] at hall
  unfold spec_l6Even
  rw [hall, bind_some']
  have hlen := allB_len p.1.toNat
  have h64 := pow_le64 (m := p.1.toNat) (by omega)
  have go : ∀ (d n K : Nat) (o : List (List Int)), n + d = (allB p.1.toNat).length → d < K → o.length ≤ n →
      spec_l6Even_l0 N (fun o8 => some ((o8, ()), ())) K (allB p.1.toNat) (n : Int) p.1 p.2.1 p.2.2 o = some ((o ++ ((allB p.1.toNat).drop n).filter (evenB p), ()), ()) := by
    intro d
    induction d with
    | zero =>
      intro n K o hn hK ho
      obtain ⟨K, rfl⟩ := succ_of hK
      simp only [spec_l6Even_l0, ilt_lenf (show ¬ n < (allB p.1.toNat).length by omega), br_f]
      rw [List.drop_of_length_le (by omega)]
      simp
    | succ d ih =>
      intro n K o hn hK ho
      obtain ⟨K, rfl⟩ := succ_of hK
      have hlt : n < (allB p.1.toNat).length := by omega
      simp only [spec_l6Even_l0, ilt_len hlt, br_t]
      have hmem : rdL (allB p.1.toNat) n ∈ allB p.1.toNat := by rw [rdL_n hlt]; exact List.getElem_mem hlt
      have := even_rows (R := (List (List Int) × Unit) × Unit) hN (k0 := fun x7 x8 x9 o12 o13 o14 o15 => br x9 (chk (inb x7 x8) (chk (room o15 [rdL x7 x8]) (spec_l6Even_l0 N (fun o8 => some ((o8, ()), ())) K x7 (IntKind.i64.wrap (x8 + 1)) o12 o13 o14 (tApp o15 [rdL x7 x8])))) (spec_l6Even_l0 N (fun o8 => some ((o8, ()), ())) K x7 (IntKind.i64.wrap (x8 + 1)) o12 o13 o14 o15))
        (all := allB p.1.toNat) (a := n) (p := p) (o12 := p.1) (o15 := o) hp hrows hlt (allB_bits hmem) (allB_row hmem) p.2.1.length 0 N true (by omega) (by have := hp.2.1; omega)
      rw [show ((0 : Nat) : Int) = 0 from rfl] at this
      rw [this, Bool.true_and, wrap_succ (by omega)]
      obtain ⟨y, r, e1, e2, e3⟩ := drop_split hlt
      have hev : decide (∀ r : Nat, 0 ≤ r → r < p.2.1.length → evenAt p.2.1 p.2.2 (rdL (allB p.1.toNat) n) r) = evenB p y := by
        unfold evenB
        rw [rdL_n hlt, e2]
        exact decide_eq_decide.2 ⟨fun h r hr => h r (Nat.zero_le _) hr, fun h r _ hr => h r hr⟩
      rw [hev, e1]
      cases hq : evenB p y with
      | true =>
        rw [br_t, inb_n hlt, chk_t, room_ok (by simp; omega), chk_t, tApp_d, ih (n + 1) K _ (by omega) (by omega) (by simp; omega), rdL_n hlt, e2, e3, List.filter_cons_of_pos hq, List.append_assoc]
        rfl
      | false =>
        rw [br_f, ih (n + 1) K _ (by omega) (by omega) (by omega), e3, List.filter_cons_of_neg (by rw [hq]; simp)]
  have := go (allB p.1.toNat).length 0 N [] (by omega) (by omega) (by simp)
  rw [show ((0 : Nat) : Int) = 0 from rfl] at this
  rw [this, List.nil_append, List.drop_zero]
/-! ### The formula of a parity -/
end Go.Proofs.Ytfbkjgeaoafejaa
