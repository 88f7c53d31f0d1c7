/- Statements on data alone. -/
import Derived.Test.YtaodifjegdpifaaGreatPvPure
import Derived.Test.YtaodifjegdpifaaGreatHornFd
set_option linter.all false
set_option linter.all false
namespace Go.Proofs.YtaodifjegdpifaaGreat
open Go Go.PV Classical
theorem all_rdI {xs : List Int} {p : Int → Prop} : (∀ x ∈ xs, p x) ↔ ∀ i : Nat, i < xs.length → p (rdI xs i) := by
  constructor
  · intro h i hi
    rw [rdI_n hi]
    exact h _ (List.getElem_mem hi)
  · intro h x hx
    obtain ⟨i, hi, rfl⟩ := List.mem_iff_getElem.1 hx
    have := h i hi
    rwa [rdI_n hi] at this
theorem all_rdL {xs : List (List Int)} {p : List Int → Prop} : (∀ x ∈ xs, p x) ↔ ∀ i : Nat, i < xs.length → p (rdL xs i) := by
  constructor
  · intro h i hi
    rw [rdL_n hi]
    exact h _ (List.getElem_mem hi)
  · intro h x hx
    obtain ⟨i, hi, rfl⟩ := List.mem_iff_getElem.1 hx
    have := h i hi
    rwa [rdL_n hi] at this
theorem not_any {α : Type} {xs : List α} {f : α → Bool} : (!(xs.any f)) = decide (∀ x ∈ xs, f x = false) := by
  induction xs with
  | nil => simp
  | cons x xs ih =>
    rw [List.any_cons, Bool.not_or, ih]
    by_cases h : f x = true <;> simp [h]
def findAt {α : Type} (f : α → Bool) : List α → Nat → Int
  | [], _ => -1
  | x :: xs, n => if f x = true then (n : Int) else findAt f xs (n + 1)
theorem findAt_cons {α : Type} (f : α → Bool) (x : α) (xs : List α) (n : Nat) : findAt f (x :: xs) n = if f x = true then (n : Int) else findAt f xs (n + 1) := rfl
theorem findAt_ge {α : Type} (f : α → Bool) : ∀ (xs : List α) (n : Nat), decide (0 ≤ findAt f xs n) = xs.any f := by
  intro xs
  induction xs with
  | nil => intro n; rfl
  | cons x xs ih =>
    intro n
    unfold findAt
    by_cases h : f x = true
    · rw [if_pos h]
      simp [h]
    · rw [if_neg h, ih]
      simp [h]
theorem IndexFunc_LI_int_l0_eq {R : Type} (N : Nat) (k0 : Int → Option R) (k1 : Unit → Option R) (xs : List (Int)) (f : Int → Option Bool) (g : Int → Bool) (hf : ∀ x ∈ xs, f x = some (g x)) (hx : xs.length ≤ 1099511627776) : ∀ (d n : Nat) (K : Nat), n + d = xs.length → d < K →
    slices_IndexFunc_LI_int_l0 N k0 k1 K xs f (xs.length : Int) n = if (xs.drop n).any g = true then k0 (findAt g (xs.drop n) n) else k1 () := by
  intro d
  induction d with
  | zero =>
    intro n K hd hK
    obtain ⟨k, rfl⟩ := succ_of hK
    have hn : ¬ n < xs.length := by omega
    simp only [slices_IndexFunc_LI_int_l0, ilt_nf hn, br_f]
    rw [List.drop_of_length_le (by omega)]
    simp
  | succ d ih =>
    intro n K hd hK
    obtain ⟨k, rfl⟩ := succ_of hK
    have hn : n < xs.length := by omega
    simp only [slices_IndexFunc_LI_int_l0, ilt_n hn, inb_n hn, br_t, chk_t]
    obtain ⟨y, r, e1, e2, e3⟩ := drop_split hn
    rw [wrap_succ (by omega), rdI_n hn, ih (n + 1) k (by omega) (by omega), hf _ (List.getElem_mem hn), bind_some', br_ite, e1, e2, e3, findAt_cons]
    by_cases h : g y = true
    · simp [h]
    · simp [h]
theorem ContainsFunc_LI_int_eq {N : Nat} {xs : List (Int)} {f : Int → Option Bool} {g : Int → Bool} (hf : ∀ x ∈ xs, f x = some (g x)) (hx : xs.length ≤ 1099511627776) (hN : xs.length < N) :
    slices_ContainsFunc_LI_int N xs f = some ((xs.any g, ()), ()) := by
  unfold slices_ContainsFunc_LI_int slices_IndexFunc_LI_int
  have := IndexFunc_LI_int_l0_eq N (fun x => some ((x, ()), ())) (fun _ => some (((-1 : Int), ()), ())) xs f g hf hx xs.length 0 N (by omega) (by omega)
  simp only [Int.natCast_zero, List.drop_zero] at this
  rw [tLen_n, this]
  by_cases h : xs.any g = true
  · rw [if_pos h, bind_some', ile_d, findAt_ge]
  · rw [if_neg h, bind_some']
    simp only [Bool.not_eq_true] at h
    rw [h]
    rfl
theorem IndexFunc_LLI_LI_l0_eq {R : Type} (N : Nat) (k0 : Int → Option R) (k1 : Unit → Option R) (xs : List (List Int)) (f : List Int → Option Bool) (g : List Int → Bool) (hf : ∀ x ∈ xs, f x = some (g x)) (hx : xs.length ≤ 1099511627776) : ∀ (d n : Nat) (K : Nat), n + d = xs.length → d < K →
    slices_IndexFunc_LLI_LI_l0 N k0 k1 K xs f (xs.length : Int) n = if (xs.drop n).any g = true then k0 (findAt g (xs.drop n) n) else k1 () := by
  intro d
  induction d with
  | zero =>
    intro n K hd hK
    obtain ⟨k, rfl⟩ := succ_of hK
    have hn : ¬ n < xs.length := by omega
    simp only [slices_IndexFunc_LLI_LI_l0, ilt_nf hn, br_f]
    rw [List.drop_of_length_le (by omega)]
    simp
  | succ d ih =>
    intro n K hd hK
    obtain ⟨k, rfl⟩ := succ_of hK
    have hn : n < xs.length := by omega
    simp only [slices_IndexFunc_LLI_LI_l0, ilt_n hn, inb_n hn, br_t, chk_t]
    obtain ⟨y, r, e1, e2, e3⟩ := drop_split hn
    rw [wrap_succ (by omega), rdL_n hn, ih (n + 1) k (by omega) (by omega), hf _ (List.getElem_mem hn), bind_some', br_ite, e1, e2, e3, findAt_cons]
    by_cases h : g y = true
    · simp [h]
    · simp [h]
theorem ContainsFunc_LLI_LI_eq {N : Nat} {xs : List (List Int)} {f : List Int → Option Bool} {g : List Int → Bool} (hf : ∀ x ∈ xs, f x = some (g x)) (hx : xs.length ≤ 1099511627776) (hN : xs.length < N) :
    slices_ContainsFunc_LLI_LI N xs f = some ((xs.any g, ()), ()) := by
  unfold slices_ContainsFunc_LLI_LI slices_IndexFunc_LLI_LI
  have := IndexFunc_LLI_LI_l0_eq N (fun x => some ((x, ()), ())) (fun _ => some (((-1 : Int), ()), ())) xs f g hf hx xs.length 0 N (by omega) (by omega)
  simp only [Int.natCast_zero, List.drop_zero] at this
  rw [tLen_n, this]
  by_cases h : xs.any g = true
  · rw [if_pos h, bind_some', ile_d, findAt_ge]
  · rw [if_neg h, bind_some']
    simp only [Bool.not_eq_true] at h
    rw [h]
    rfl
def isBit (n : Int) : Bool := decide (0 ≤ n ∧ n ≤ 1)
theorem l1In_eq (N : Nat) (x a b : Int) : spec_l1In N x a b = some ((decide (a ≤ x ∧ x ≤ b), ()), ()) := by
  unfold spec_l1In
  rw [br_ite, ile_d, ile_d]
  by_cases h : a ≤ x <;> by_cases h' : x ≤ b <;> simp [h, h']
theorem between_eq (N : Nat) (n low high : Int) : impl_between N n low high = some ((decide (low ≤ n ∧ n ≤ high), ()), ()) := by
  unfold impl_between
  rw [br_ite, ile_d, ile_d]
  by_cases h : low ≤ n <;> by_cases h' : n ≤ high <;> simp [h, h']
theorem l6Bits_l0_eq {R : Type} (N : Nat) (k0 : Bool → Option R) (k1 : Int → List Int → Option R) (v : Int) (xs : List Int) (hx : xs.length ≤ 1099511627776) : ∀ (d n : Nat) (K : Nat), n + d = xs.length → d < K →
    spec_l6Bits_l0 N k0 k1 K v xs n = if (xs.drop n).all isBit = true then k1 v xs else k0 false := by
  intro d
  induction d with
  | zero =>
    intro n K hd hK
    obtain ⟨k, rfl⟩ := succ_of hK
    have hn : ¬ n < xs.length := by omega
    simp only [spec_l6Bits_l0, ilt_lenf hn, br_f]
    rw [List.drop_of_length_le (by omega)]
    simp
  | succ d ih =>
    intro n K hd hK
    obtain ⟨k, rfl⟩ := succ_of hK
    have hn : n < xs.length := by omega
    simp only [spec_l6Bits_l0, ilt_len hn, inb_n hn, br_t, chk_t, l1In_eq, bind_some']
    rw [wrap_succ (by omega), rdI_n hn, ih (n + 1) k (by omega) (by omega), drop_cons hn, List.all_cons, br_ite]
    by_cases h : 0 ≤ xs[n] ∧ xs[n] ≤ 1
    · simp [isBit, h]
    · simp [isBit, h]
theorem l6Bits_eq {N : Nat} {v : Int} {xs : List Int} (hx : xs.length ≤ 1099511627776) (hN : xs.length < N) : spec_l6Bits N v xs = some ((xs.all isBit && decide ((xs.length : Int) = v), ()), ()) := by
  unfold spec_l6Bits
  have := l6Bits_l0_eq N (fun x => some ((x, ()), ())) (fun vars1 bits1 => some (((ieq (tLen bits1) vars1), ()), ())) v xs hx xs.length 0 N (by omega) (by omega)
  simp only [Int.natCast_zero, List.drop_zero] at this
  rw [this, tLen_n, ieq_d]
  by_cases h : xs.all isBit = true
  · rw [if_pos h, h, Bool.true_and]
  · rw [if_neg h]
    simp [h]
theorem any_not {α : Type} (f : α → Bool) : ∀ xs : List α, (!(xs.any fun x => !f x)) = xs.all f := by
  intro xs
  induction xs with
  | nil => rfl
  | cons x xs ih => simp only [List.any_cons, List.all_cons, Bool.not_or, Bool.not_not, ih]
theorem isAssignment_eq {N : Nat} {v : Int} {xs : List Int} (hx : xs.length ≤ 1099511627776) (hN : xs.length < N) : impl_isAssignment N v xs = some ((xs.all isBit && decide ((xs.length : Int) = v), ()), ()) := by
  unfold impl_isAssignment
  rw [ContainsFunc_LI_int_eq (g := fun n => !isBit n) (fun x _ => by simp only [impl_isAssignment_c1, between_eq, bind_some']; rfl) hx hN, bind_some', any_not, tLen_n, ieq_d, br_ite]
  by_cases h : (xs.length : Int) = v <;> simp [h]
def litOk (v : Int) (c : List Int) (k : Nat) : Prop := rdI c k ≠ 0 ∧ -v ≤ rdI c k ∧ rdI c k ≤ v ∧ (0 < k → rdI c ((k - 1 : Nat) : Int) < rdI c k)
def clauseOk (v : Int) (c : List Int) : Prop := ∀ k, k < c.length → litOk v c k
def goodF (f : Int × List (List Int)) : Prop := (0 ≤ f.1 ∧ f.1 ≤ 6) ∧ f.2.length ≤ 64 ∧ ∀ i, i < f.2.length → clauseOk f.1 (rdL f.2 i)
theorem spec_l6Literal_eq (N : Nat) {v : Int} (hv : 0 ≤ v ∧ v ≤ 6) (x : Int) : spec_l6Literal N v x = some ((decide (x ≠ 0 ∧ -v ≤ x ∧ x ≤ v), ()), ()) := by
  unfold spec_l6Literal
  rw [wrap_ok (by omega) (by omega), l1In_eq, bind_some', br_ite, ine_d]
  have e : (0 : Int) - v = -v := by omega
  rw [e]
  by_cases h : x = 0 <;> simp [h]
theorem l6Good_in_eq {R : Type} {N : Nat} (k0 : Bool → Option R) (k1 : Int → Int → List (List Int) → Option R) {v : Int} (hv : 0 ≤ v ∧ v ≤ 6) {cs : List (List Int)} {i : Nat} (hi : i < cs.length) (hc : (rdL cs i).length ≤ 1048576) (hN : 1048577 ≤ N) :
    spec_l6Good_l0_0 N k0 k1 N i 0 v cs = if clauseOk v (rdL cs i) then k1 i v cs else k0 false := by
  refine loop_all_if (K := N) (L := fun K k => spec_l6Good_l0_0 N k0 k1 K i k v cs) (m := (rdL cs i).length) (P := clauseOk v (rdL cs i)) (litOk v (rdL cs i)) Iff.rfl (fun K n hn => ?_) (fun K n hn hp => ?_) (fun K n hn hp => ?_) (by omega)
  · simp only [spec_l6Good_l0_0, inb_n hi, chk_t, ilt_lenf hn, br_f]
  · obtain ⟨h1, h2, h3, h4⟩ := hp
    simp only [spec_l6Good_l0_0, inb_n hi, chk_t, ilt_len hn, br_t, inb_n hn, spec_l6Literal_eq N hv, bind_some']
    rw [br_ite, if_neg (by simp [h1, h2, h3])]
    by_cases h0 : 0 < n
    · rw [ilt_0 h0, br_t, wrap_pred (by omega) h0, inb_n (by omega), chk_t, ile_f (by have := h4 h0; omega), br_f, wrap_succ (by omega)]
    · rw [ilt_0n h0, br_f, wrap_succ (by omega)]
  · simp only [spec_l6Good_l0_0, inb_n hi, chk_t, ilt_len hn, br_t, inb_n hn, spec_l6Literal_eq N hv, bind_some']
    by_cases h : rdI (rdL cs i) n ≠ 0 ∧ -v ≤ rdI (rdL cs i) n ∧ rdI (rdL cs i) n ≤ v
    · rw [br_ite, if_neg (by simp [h])]
      have h0 : 0 < n := by
        rcases Nat.eq_zero_or_pos n with h0 | h0
        · exact absurd ⟨h.1, h.2.1, h.2.2, fun h' => by omega⟩ hp
        · exact h0
      have h4 : ¬ rdI (rdL cs i) ((n - 1 : Nat) : Int) < rdI (rdL cs i) n := fun h' => hp ⟨h.1, h.2.1, h.2.2, fun _ => h'⟩
      rw [ilt_0 h0, br_t, wrap_pred (by omega) h0, inb_n (by omega), chk_t, ile_t (by omega), br_t]
    · rw [br_ite, if_pos (by simp only [Bool.not_eq_true', decide_eq_false_iff_not]; exact h)]
theorem spec_l6Good_eq {N : Nat} {f : Int × List (List Int)} (hl : f.2.length ≤ 1048576) (hc : ∀ c ∈ f.2, c.length ≤ 1048576) (hN : 1048577 ≤ N) : spec_l6Good N f = some ((decide (goodF f), ()), ()) := by
  obtain ⟨v, cs⟩ := f
  unfold spec_l6Good
  rw [l1In_eq, bind_some', br_ite]
  by_cases hv : 0 ≤ v ∧ v ≤ 6
  · rw [if_neg (by simp [hv]), tLen_n]
    by_cases h64 : cs.length ≤ 64
    · rw [ilt_f (show ¬ (64 : Int) < cs.length by omega), br_f]
      have := loop_all_if (L := fun K i => spec_l6Good_l0 N (fun x => some ((x, ()), ())) (fun (_ : Unit) => some ((true, ()), ())) K i v cs) (m := cs.length) (P := ∀ i, i < cs.length → clauseOk v (rdL cs i)) (fun i => clauseOk v (rdL cs i)) Iff.rfl (kt := some ((true, ()), ())) (kf := some ((false, ()), ())) (fun K n hn => ?_) (fun K n hn hp => ?_) (fun K n hn hp => ?_) (show cs.length < N by omega)
      · rw [show ((0 : Nat) : Int) = 0 from rfl] at this
        rw [this]
        by_cases h : ∀ i, i < cs.length → clauseOk v (rdL cs i)
        · rw [if_pos h, decide_eq_true (show goodF (v, cs) from ⟨hv, h64, h⟩)]
        · rw [if_neg h, decide_eq_false (show ¬ goodF (v, cs) from fun h' => h h'.2.2)]
      · simp only [spec_l6Good_l0, ilt_lenf hn, br_f]
      · simp only [spec_l6Good_l0, ilt_len hn, br_t]
        rw [l6Good_in_eq _ _ hv hn (rdL_len hc _) hN, if_pos hp, wrap_succ (by omega)]
      · simp only [spec_l6Good_l0, ilt_len hn, br_t]
        rw [l6Good_in_eq _ _ hv hn (rdL_len hc _) hN, if_neg hp]
    · rw [ilt_t (show (64 : Int) < cs.length by omega), br_t, decide_eq_false (show ¬ goodF (v, cs) from fun h => h64 h.2.1)]
  · rw [if_pos (by simp only [Bool.not_eq_true', decide_eq_false_iff_not]; exact hv), decide_eq_false (show ¬ goodF (v, cs) from fun h => hv h.1)]
theorem IsFormula_in_eq {R : Type} {N : Nat} (k0 : Bool → Option R) (k1 : List (List Int) → Int → Int → Int → List (List Int) → Option R) {v : Int} (hv : 0 ≤ v ∧ v ≤ 6) {c : List Int} {x3 : List (List Int)} {x4 x5 : Int} {cs : List (List Int)} (hc : c.length ≤ 1048576) (hN : 1048577 ≤ N) :
    impl_IsFormula_l0_0 N k0 k1 N c x3 x4 x5 c (c.length : Int) 0 v cs = if clauseOk v c then k1 x3 x4 x5 v cs else k0 false := by
  refine loop_all_if (K := N) (L := fun K k => impl_IsFormula_l0_0 N k0 k1 K c x3 x4 x5 c (c.length : Int) k v cs) (m := c.length) (P := clauseOk v c) (litOk v c) Iff.rfl (fun K n hn => ?_) (fun K n hn hp => ?_) (fun K n hn hp => ?_) (by omega)
  · simp only [impl_IsFormula_l0_0, ilt_nf hn, br_f]
  · obtain ⟨h1, h2, h3, h4⟩ := hp
    simp only [impl_IsFormula_l0_0, ilt_n hn, br_t, inb_n hn, chk_t, between_eq, bind_some', wrap_ok (show -9223372036854775808 ≤ 0 - v by omega) (show 0 - v < 9223372036854775808 by omega)]
    rw [ieq_f h1, br_f, br_ite, if_neg (by simp; omega)]
    by_cases h0 : 0 < n
    · rw [ilt_0 h0, br_t, wrap_pred (by omega) h0, inb_n (by omega), chk_t, ile_f (by have := h4 h0; omega), br_f, wrap_succ (by omega)]
    · rw [ilt_0n h0, br_f, wrap_succ (by omega)]
  · simp only [impl_IsFormula_l0_0, ilt_n hn, br_t, inb_n hn, chk_t, between_eq, bind_some', wrap_ok (show -9223372036854775808 ≤ 0 - v by omega) (show 0 - v < 9223372036854775808 by omega)]
    by_cases hz : rdI c n = 0
    · rw [ieq_t hz, br_t]
    · rw [ieq_f hz, br_f, br_ite]
      by_cases h : -v ≤ rdI c n ∧ rdI c n ≤ v
      · rw [if_neg (by simp; omega)]
        have h0 : 0 < n := by
          rcases Nat.eq_zero_or_pos n with h0 | h0
          · exact absurd ⟨hz, h.1, h.2, fun h' => by omega⟩ hp
          · exact h0
        have h4 : ¬ rdI c ((n - 1 : Nat) : Int) < rdI c n := fun h' => hp ⟨hz, h.1, h.2, fun _ => h'⟩
        rw [ilt_0 h0, br_t, wrap_pred (by omega) h0, inb_n (by omega), chk_t, ile_t (by omega), br_t]
      · rw [if_pos (by simp only [Bool.not_eq_true', decide_eq_false_iff_not]; omega)]
theorem impl_IsFormula_eq {N : Nat} {f : Int × List (List Int)} (hl : f.2.length ≤ 1048576) (hc : ∀ c ∈ f.2, c.length ≤ 1048576) (hN : 1048577 ≤ N) : impl_IsFormula N f = some ((decide (goodF f), ()), ()) := by
  obtain ⟨v, cs⟩ := f
  unfold impl_IsFormula
  rw [between_eq, bind_some', br_ite]
  by_cases hv : 0 ≤ v ∧ v ≤ 6
  · rw [if_neg (by simp [hv]), tLen_n]
    by_cases h64 : cs.length ≤ 64
    · rw [ilt_f (show ¬ (64 : Int) < cs.length by omega), br_f]
      have := loop_all_if (L := fun K i => impl_IsFormula_l0 N (fun x => some ((x, ()), ())) (fun (_ : Unit) => some ((true, ()), ())) K cs (cs.length : Int) i v cs) (m := cs.length) (P := ∀ i, i < cs.length → clauseOk v (rdL cs i)) (fun i => clauseOk v (rdL cs i)) Iff.rfl (kt := some ((true, ()), ())) (kf := some ((false, ()), ())) (fun K n hn => ?_) (fun K n hn hp => ?_) (fun K n hn hp => ?_) (show cs.length < N by omega)
      · rw [show ((0 : Nat) : Int) = 0 from rfl] at this
        rw [this]
        by_cases h : ∀ i, i < cs.length → clauseOk v (rdL cs i)
        · rw [if_pos h, decide_eq_true (show goodF (v, cs) from ⟨hv, h64, h⟩)]
        · rw [if_neg h, decide_eq_false (show ¬ goodF (v, cs) from fun h' => h h'.2.2)]
      · simp only [impl_IsFormula_l0, ilt_nf hn, br_f]
      · simp only [impl_IsFormula_l0, ilt_n hn, br_t, inb_n hn, chk_t, tLen_n]
        rw [IsFormula_in_eq _ _ hv (rdL_len hc _) hN, if_pos hp, wrap_succ (by omega)]
      · simp only [impl_IsFormula_l0, ilt_n hn, br_t, inb_n hn, chk_t, tLen_n]
        rw [IsFormula_in_eq _ _ hv (rdL_len hc _) hN, if_neg hp]
    · rw [ilt_t (show (64 : Int) < cs.length by omega), br_t, decide_eq_false (show ¬ goodF (v, cs) from fun h => h64 h.2.1)]
  · rw [if_pos (by simp only [Bool.not_eq_true', decide_eq_false_iff_not]; exact hv), decide_eq_false (show ¬ goodF (v, cs) from fun h => hv h.1)]
def cntI (c : List Int) : Int := c.foldl (fun u x => if 0 < x then u + 1 else u) 0
theorem ClassOf_in_eq {R : Type} {N : Nat} (k0 : Bool → Bool → Bool → List Int → Int → List (List Int) → Int → Int → Option R) {a b c : Bool} {cl : List Int} {x3 : List (List Int)} {x4 x5 : Int} (hc : cl.length ≤ 1048576) (hN : 1048577 ≤ N) :
    impl_ClassOf_l0_0 N k0 N a b c cl 0 x3 x4 x5 cl (cl.length : Int) 0 = k0 a b c cl (cntI cl) x3 x4 x5 ∧ 0 ≤ cntI cl ∧ cntI cl ≤ (cl.length : Int) := by
  refine loop_list (xs := cl) (L := fun K n up => impl_ClassOf_l0_0 N k0 K a b c cl up x3 x4 x5 cl (cl.length : Int) n) (k := fun up => k0 a b c cl up x3 x4 x5) (fun (u : Int) x => if 0 < x then u + 1 else u) (fun n up => 0 ≤ up ∧ up ≤ (n : Int)) (fun K n s hn _ => ?_) (fun K n s hn h => ?_) (fun n s hn h => ?_) (by omega) ⟨by omega, by omega⟩
  · simp only [impl_ClassOf_l0_0, ilt_nf hn, br_f]
  · simp only [impl_ClassOf_l0_0, ilt_n hn, br_t, inb_n hn, chk_t]
    rw [wrap_succ (by omega), wrap_ok (by omega) (by omega), rdI_n hn, br_ite, ilt_d]
    by_cases h : 0 < cl[n] <;> simp [h]
  · by_cases h : 0 < cl[n] <;> simp only [h, if_true, if_false] <;> omega
def classF (t : Bool × Bool × Bool) (c : List Int) : Bool × Bool × Bool := (t.1 && decide ((c.length : Int) ≤ 2), t.2.1 && decide (cntI c ≤ 1), t.2.2 && decide ((c.length : Int) - cntI c ≤ 1))
theorem l1Most_eq (N : Nat) (a b : Int) : spec_l1Most N a b = some ((if b < a then a else b, ()), ()) := by
  unfold spec_l1Most
  rw [br_ite, ilt_d]
  by_cases h : b < a <;> simp [h]
theorem impl_ClassOf_l0_eq {N : Nat} {cs : List (List Int)} (hl : cs.length ≤ 1048576) (hc : ∀ c ∈ cs, c.length ≤ 1048576) (hN : 1048577 ≤ N) :
    impl_ClassOf_l0 N (fun two horn dual => some ((two, horn, dual, true, ()), ())) N true true true cs (cs.length : Int) 0 = some (((cs.foldl classF (true, true, true)).1, (cs.foldl classF (true, true, true)).2.1, (cs.foldl classF (true, true, true)).2.2, true, ()), ()) := by
  refine (loop_list (xs := cs) (L := fun K i (s : Bool × Bool × Bool) => impl_ClassOf_l0 N (fun two horn dual => some ((two, horn, dual, true, ()), ())) K s.1 s.2.1 s.2.2 cs (cs.length : Int) i) (k := fun s => some ((s.1, s.2.1, s.2.2, true, ()), ())) classF (fun _ _ => True) (fun K n s hn _ => ?_) (fun K n s hn _ => ?_) (fun n s hn h => trivial) (s := (true, true, true)) (K := N) (by omega) trivial).1
  · simp only [impl_ClassOf_l0, ilt_nf hn, br_f]
  · simp only [impl_ClassOf_l0, ilt_n hn, br_t, inb_n hn, chk_t, tLen_n (rdL cs n)]
    have hb := rdL_len hc n
    obtain ⟨e, h1, h2⟩ := ClassOf_in_eq (fun two1 horn1 dual1 clause above x3 x4 x5 => (br two1
        ((br horn1
          ((br dual1
            (impl_ClassOf_l0 N (fun two horn dual => some ((two, horn, dual, true, ()), ())) K (ile (tLen clause) 2) (ile above 1) (ile (IntKind.i64.wrap ((tLen clause) - above)) 1) x3 x4 (IntKind.i64.wrap (x5 + 1)))
            (impl_ClassOf_l0 N (fun two horn dual => some ((two, horn, dual, true, ()), ())) K (ile (tLen clause) 2) (ile above 1) false x3 x4 (IntKind.i64.wrap (x5 + 1)))))
          ((br dual1
            (impl_ClassOf_l0 N (fun two horn dual => some ((two, horn, dual, true, ()), ())) K (ile (tLen clause) 2) false (ile (IntKind.i64.wrap ((tLen clause) - above)) 1) x3 x4 (IntKind.i64.wrap (x5 + 1)))
            (impl_ClassOf_l0 N (fun two horn dual => some ((two, horn, dual, true, ()), ())) K (ile (tLen clause) 2) false false x3 x4 (IntKind.i64.wrap (x5 + 1)))))))
        ((br horn1
          ((br dual1
            (impl_ClassOf_l0 N (fun two horn dual => some ((two, horn, dual, true, ()), ())) K false (ile above 1) (ile (IntKind.i64.wrap ((tLen clause) - above)) 1) x3 x4 (IntKind.i64.wrap (x5 + 1)))
            (impl_ClassOf_l0 N (fun two horn dual => some ((two, horn, dual, true, ()), ())) K false (ile above 1) false x3 x4 (IntKind.i64.wrap (x5 + 1)))))
          ((br dual1
            (impl_ClassOf_l0 N (fun two horn dual => some ((two, horn, dual, true, ()), ())) K false false (ile (IntKind.i64.wrap ((tLen clause) - above)) 1) x3 x4 (IntKind.i64.wrap (x5 + 1)))
            (impl_ClassOf_l0 N (fun two horn dual => some ((two, horn, dual, true, ()), ())) K false false false x3 x4 (IntKind.i64.wrap (x5 + 1))))))))) (a := s.1) (b := s.2.1) (c := s.2.2) (cl := rdL cs n) (x3 := cs) (x4 := (cs.length : Int)) (x5 := (n : Int)) hb hN
    refine e.trans ?_
    simp only [tLen_n, wrap_ok (show -9223372036854775808 ≤ ((rdL cs n).length : Int) - cntI (rdL cs n) by omega) (show ((rdL cs n).length : Int) - cntI (rdL cs n) < 9223372036854775808 by omega), ile_d]
    rw [wrap_succ (by omega), rdL_n hn]
    obtain ⟨a, b, c⟩ := s
    cases a <;> cases b <;> cases c <;> simp only [br_t, br_f, classF, Bool.true_and, Bool.false_and]
def meets (bits : List Int) (x : Int) : Bool := if 0 < x then decide (rdI bits (x - 1) = 1) else decide (rdI bits (-1 - x) = 0)
def solves (bits : List Int) (cs : List (List Int)) : Prop := ∀ c ∈ cs, c.any (meets bits) = true
def litsOk (v : Int) (cs : List (List Int)) : Prop := ∀ c ∈ cs, ∀ x ∈ c, x ≠ 0 ∧ -v ≤ x ∧ x ≤ v
theorem goodF_lits {f : Int × List (List Int)} (h : goodF f) : litsOk f.1 f.2 := by
  obtain ⟨_, _, h3⟩ := h
  have h4 : ∀ c ∈ f.2, clauseOk f.1 c := all_rdL.2 h3
  intro c hc
  exact all_rdI.2 fun i hi => by
    obtain ⟨a, b, c, _⟩ := h4 c hc i hi
    exact ⟨a, b, c⟩
theorem l6Meets_eq (N : Nat) {bits : List Int} {x : Int} (hl : bits.length ≤ 1048576) (h : x ≠ 0 ∧ -(bits.length : Int) ≤ x ∧ x ≤ (bits.length : Int)) : spec_l6Meets N bits x = some ((meets bits x, ()), ()) := by
  unfold spec_l6Meets meets
  by_cases h0 : 0 < x
  · rw [ilt_t h0, br_t, wrap_ok (by omega) (by omega), inb_i (by omega) (by omega), chk_t, ieq_d, if_pos h0]
  · rw [ilt_f h0, br_f, wrap_ok (show -9223372036854775808 ≤ 0 - x by omega) (by omega), wrap_ok (by omega) (by omega), inb_i (by omega) (by omega), chk_t, ieq_d, if_neg h0, show 0 - x - 1 = -1 - x by omega]
theorem impl_meets_eq (N : Nat) {bits : List Int} {x : Int} (hl : bits.length ≤ 1048576) (h : x ≠ 0 ∧ -(bits.length : Int) ≤ x ∧ x ≤ (bits.length : Int)) : impl_meets N bits x = some ((meets bits x, ()), ()) := by
  unfold impl_meets meets
  by_cases h0 : 0 < x
  · rw [ilt_t h0, br_t, wrap_ok (by omega) (by omega), inb_i (by omega) (by omega), chk_t, ieq_d, if_pos h0]
  · rw [ilt_f h0, br_f, wrap_ok (by omega) (by omega), inb_i (by omega) (by omega), chk_t, ieq_d, if_neg h0]
theorem foldl_or {α : Type} (g : α → Bool) : ∀ (xs : List α) (b : Bool), xs.foldl (fun m x => m || g x) b = (b || xs.any g) := by
  intro xs
  induction xs with
  | nil => intro b; simp
  | cons x xs ih => intro b; rw [List.foldl_cons, ih, List.any_cons, Bool.or_assoc]
theorem l6Solves_in_eq {R : Type} {N : Nat} (k0 : List Int → Int → Bool → Int → List (List Int) → Option R) {bits : List Int} {i : Nat} {v : Int} {cs : List (List Int)} (hi : i < cs.length) (hc : (rdL cs i).length ≤ 1048576) (hb : bits.length ≤ 1048576) (hx : ∀ x ∈ rdL cs i, x ≠ 0 ∧ -(bits.length : Int) ≤ x ∧ x ≤ (bits.length : Int)) (hN : 1048577 ≤ N) :
    spec_l6Solves_l0_0 N k0 N bits i false 0 v cs = k0 bits i ((rdL cs i).any (meets bits)) v cs := by
  refine (loop_list (xs := rdL cs i) (L := fun K n met => spec_l6Solves_l0_0 N k0 K bits i met n v cs) (k := fun met => k0 bits i met v cs) (fun m x => m || meets bits x) (fun _ _ => True) (fun K n s hn _ => ?_) (fun K n s hn _ => ?_) (fun n s hn h => trivial) (s := false) (K := N) (by omega) trivial).1.trans ?_
  · simp only [spec_l6Solves_l0_0, inb_n hi, chk_t, ilt_lenf hn, br_f]
  · simp only [spec_l6Solves_l0_0, inb_n hi, chk_t, ilt_len hn, br_t, inb_n hn]
    have hm := hx _ (List.getElem_mem hn)
    rw [rdI_n hn, l6Meets_eq N hb hm, bind_some', wrap_succ (by omega)]
    cases s
    · rw [br_f, Bool.false_or]
    · rw [br_t, Bool.true_or]
  · rw [foldl_or, Bool.false_or]
theorem l6Solves_eq {N : Nat} {bits : List Int} {f : Int × List (List Int)} (hl : f.2.length ≤ 1048576) (hc : ∀ c ∈ f.2, c.length ≤ 1048576) (hb : bits.length ≤ 1048576) (hx : litsOk (bits.length : Int) f.2) (hN : 1048577 ≤ N) : spec_l6Solves N f bits = some ((decide (solves bits f.2), ()), ()) := by
  obtain ⟨v, cs⟩ := f
  simp only at hl hc hx
  unfold spec_l6Solves
  have := loop_all_if (P := solves bits cs) (m := cs.length) (L := fun K i => spec_l6Solves_l0 N (fun x => some ((x, ()), ())) (fun (_ : Unit) => some ((true, ()), ())) K bits i v cs) (fun i => (rdL cs i).any (meets bits) = true) all_rdL (kt := some ((true, ()), ())) (kf := some ((false, ()), ())) (fun K n hn => ?_) (fun K n hn hp => ?_) (fun K n hn hp => ?_) (show cs.length < N by omega)
  · rw [show ((0 : Nat) : Int) = 0 from rfl] at this
    rw [this]
    by_cases h : solves bits cs <;> simp [h]
  · simp only [spec_l6Solves_l0, ilt_lenf hn, br_f]
  · simp only [spec_l6Solves_l0, ilt_len hn, br_t]
    rw [l6Solves_in_eq _ hn (rdL_len hc n) hb (by rw [rdL_n hn]; exact hx _ (List.getElem_mem hn)) hN, hp, Bool.not_true, br_f, wrap_succ (by omega)]
  · simp only [spec_l6Solves_l0, ilt_len hn, br_t]
    rw [l6Solves_in_eq _ hn (rdL_len hc n) hb (by rw [rdL_n hn]; exact hx _ (List.getElem_mem hn)) hN, Bool.eq_false_iff.2 hp, Bool.not_false, br_t]
theorem impl_solves_eq {N : Nat} {bits : List Int} {f : Int × List (List Int)} (hl : f.2.length ≤ 1048576) (hc : ∀ c ∈ f.2, c.length ≤ 1048576) (hb : bits.length ≤ 1048576) (hx : litsOk (bits.length : Int) f.2) (hN : 1048577 ≤ N) : impl_Formula_solves N f bits = some ((decide (solves bits f.2), ()), ()) := by
  obtain ⟨v, cs⟩ := f
  simp only at hl hc hx
  unfold impl_Formula_solves
  rw [ContainsFunc_LLI_LI_eq (g := fun c => !(c.any (meets bits))) (fun c h => by
    have hcl := hc c h
    simp only [impl_Formula_solves_c1]
    rw [ContainsFunc_LI_int_eq (g := meets bits) (fun x hxc => by simp only [impl_Formula_solves_c1_c1, impl_meets_eq N hb (hx c h x hxc), bind_some']) (by omega) (by omega)]
    rfl) (show cs.length ≤ 1099511627776 by omega) (show cs.length < N by omega), bind_some', not_any]
  congr 3
  refine decide_eq_decide.2 ⟨fun h c hc => by simpa using h c hc, fun h c hc => by have := h c hc; simpa using this⟩
theorem impl_IsSolution_eq {N : Nat} {bits : List Int} {f : Int × List (List Int)} (hl : f.2.length ≤ 1048576) (hc : ∀ c ∈ f.2, c.length ≤ 1048576) (hb : bits.length ≤ 1048576) (hN : 1048577 ≤ N) : impl_IsSolution N f bits = some ((decide ((goodF f ∧ ((bits.all isBit && decide ((bits.length : Int) = f.1)) = true)) ∧ solves bits f.2), decide (goodF f ∧ ((bits.all isBit && decide ((bits.length : Int) = f.1)) = true)), ()), ()) := by
  unfold impl_IsSolution
  simp only [impl_IsFormula_eq hl hc hN, bind_some', isAssignment_eq (show bits.length ≤ 1099511627776 by omega) (show bits.length < N by omega)]
  by_cases hg : goodF f
  · by_cases hq : (bits.all isBit && decide ((bits.length : Int) = f.1)) = true
    · have hle : (bits.length : Int) = f.1 := by simp at hq; exact hq.2
      rw [impl_solves_eq hl hc hb (by rw [hle]; exact goodF_lits hg) hN, bind_some']
      simp only [hg, hq, and_self, true_and, decide_true, Bool.not_true, br_f]
    · simp only [hg, hq, and_false, false_and, decide_false, decide_true, Bool.not_true, br_f, Bool.eq_false_iff.2 hq, Bool.not_false, br_t]
      simp
  · simp only [hg, false_and, decide_false, Bool.not_false, br_t]
theorem l1Own_eq {N : Nat} {xs : List Int} (h : xs.length ≤ 1048576) : spec_l1Own N xs = some ((xs, ()), ()) := by
  unfold spec_l1Own
  rw [room_ok (by simp; omega), chk_t]
  rfl
theorem Clone_eq {N : Nat} {xs : List Int} (h : xs.length ≤ 1048576) : slices_Clone_LI_int N xs = some ((xs, ()), ()) := by
  unfold slices_Clone_LI_int
  rw [room_ok (by simp; omega), chk_t, br_ite, ieq_d, tLen_n]
  by_cases h0 : xs = []
  · subst h0
    simp only [tApp_d, List.append_nil, amb_same]
    simp
  · rw [if_neg (by simpa using h0)]
    rfl
def flipI (bits : List Int) (v : Nat) : List Int := bits.set v (1 - rdI bits v)
theorem flipI_len (bits : List Int) (v : Nat) : (flipI bits v).length = bits.length := List.length_set ..
theorem isBit_rd {bits : List Int} (h : bits.all isBit = true) (v : Nat) : 0 ≤ rdI bits v ∧ rdI bits v ≤ 1 := by
  by_cases hv : v < bits.length
  · rw [rdI_n hv]
    have := List.all_eq_true.1 h _ (List.getElem_mem hv)
    simpa [isBit] using this
  · simp [rdI, List.getD, List.getElem?_eq_none (Nat.le_of_not_lt hv)]
theorem flipI_bits {bits : List Int} (h : bits.all isBit = true) (v : Nat) : (flipI bits v).all isBit = true := by
  refine List.all_eq_true.2 fun x hx => ?_
  rcases List.mem_or_eq_of_mem_set hx with hx | hx
  · exact List.all_eq_true.1 h x hx
  · have := isBit_rd h v
    rw [hx]
    simp only [isBit, decide_eq_true_eq]
    omega
theorem l6Flip_eq {N : Nat} {bits : List Int} {v : Nat} (hb : bits.length ≤ 1048576) (h : bits.all isBit = true) (hv : v < bits.length) : spec_l6Flip N bits v = some ((flipI bits v, ()), ()) := by
  unfold spec_l6Flip
  simp only [l1Own_eq hb, bind_some', inb_n hv, chk_t]
  have := isBit_rd h v
  rw [wrap_ok (by omega) (by omega), tSet_n]
  rfl
theorem flipped_eq {N : Nat} {bits : List Int} {v : Nat} (hb : bits.length ≤ 1048576) (h : bits.all isBit = true) (hv : v < bits.length) : impl_flipped N bits v = some ((flipI bits v, ()), ()) := by
  unfold impl_flipped
  simp only [Clone_eq hb, bind_some', inb_n hv, chk_t]
  have := isBit_rd h v
  rw [wrap_ok (by omega) (by omega), tSet_n]
  rfl
def isSol (f : Int × List (List Int)) (bits : List Int) : Prop := (goodF f ∧ ((bits.all isBit && decide ((bits.length : Int) = f.1)) = true)) ∧ solves bits f.2
theorem isSol_facts {f : Int × List (List Int)} {bits : List Int} (h : isSol f bits) : bits.all isBit = true ∧ (bits.length : Int) = f.1 ∧ bits.length ≤ 6 ∧ litsOk (bits.length : Int) f.2 := by
  obtain ⟨⟨h1, h2⟩, _⟩ := h
  have h3 := h1.1
  rw [Bool.and_eq_true, decide_eq_true_eq] at h2
  refine ⟨h2.1, h2.2, by omega, ?_⟩
  rw [h2.2]
  exact goodF_lits h1
theorem l6Two_eq {N : Nat} {f : Int × List (List Int)} {bits : List Int} (hl : f.2.length ≤ 1048576) (hc : ∀ c ∈ f.2, c.length ≤ 1048576) (hb : bits.length ≤ 1048576) (hN : 1048577 ≤ N) : spec_l6Two N f bits bits = some ((decide (isSol f bits), ()), ()) := by
  unfold spec_l6Two
  simp only [spec_l6Good_eq hl hc hN, bind_some', l6Bits_eq (show bits.length ≤ 1099511627776 by omega) (show bits.length < N by omega)]
  by_cases hg : goodF f
  · rw [decide_eq_true hg, br_t]
    by_cases hq : (bits.all isBit && decide ((bits.length : Int) = f.1)) = true
    · have hle : (bits.length : Int) = f.1 := by simp at hq; exact hq.2
      rw [hq, br_t, br_t, l6Solves_eq hl hc hb (by rw [hle]; exact goodF_lits hg) hN]
      simp only [bind_some']
      by_cases hs : solves bits f.2
      · rw [decide_eq_true hs, br_t, decide_eq_true (show isSol f bits from ⟨⟨hg, hq⟩, hs⟩)]
      · rw [decide_eq_false hs, br_f, decide_eq_false (show ¬ isSol f bits from fun h => hs h.2)]
    · rw [Bool.eq_false_iff.2 hq, br_f, decide_eq_false (show ¬ isSol f bits from fun h => hq h.1.2)]
  · rw [decide_eq_false hg, br_f, decide_eq_false (show ¬ isSol f bits from fun h => hg h.1.1)]
theorem impl_isSolution_eq {N : Nat} {f : Int × List (List Int)} {bits : List Int} (hl : f.2.length ≤ 1048576) (hc : ∀ c ∈ f.2, c.length ≤ 1048576) (hb : bits.length ≤ 1048576) (hN : 1048577 ≤ N) : impl_isSolution N f bits = some ((decide (isSol f bits), ()), ()) := by
  unfold impl_isSolution
  simp only [impl_IsSolution_eq hl hc hb hN, bind_some']
  congr 3
  exact decide_eq_decide.2 Iff.rfl
/-! ### The variables that can be flipped -/
noncomputable def flipStep (bits : List Int) (cs : List (List Int)) (n : Nat) (o : List Int) : List Int := if solves (flipI bits n) cs then o ++ [(n : Int)] else o
theorem flipStep_len {bits : List Int} {cs : List (List Int)} {n : Nat} {o : List Int} (h : o.length ≤ n) : (flipStep bits cs n o).length ≤ n + 1 := by
  unfold flipStep
  by_cases hc : solves (flipI bits n) cs
  · rw [if_pos hc]; simp; omega
  · rw [if_neg hc]; omega
noncomputable def flipR (f : Int × List (List Int)) (bits : List Int) : List Int × Bool := if isSol f bits then (iter (flipStep bits f.2) bits.length 0 [], true) else ([], false)
theorem flipR_len (f : Int × List (List Int)) (bits : List Int) : (flipR f bits).1.length ≤ 6 := by
  unfold flipR
  by_cases h : isSol f bits
  · rw [if_pos h]
    have := iter_inv (f := flipStep bits f.2) (Inv := fun n o => o.length ≤ n) (d := bits.length) (n := 0) (s := []) (Nat.zero_le _) fun i s _ _ hs => flipStep_len hs
    have := (isSol_facts h).2.2.1
    simp only
    omega
  · rw [if_neg h]
    exact Nat.zero_le _
theorem spec_FlippableVars_eq {N : Nat} {f : Int × List (List Int)} {bits : List Int} (hl : f.2.length ≤ 1048576) (hc : ∀ c ∈ f.2, c.length ≤ 1048576) (hb : bits.length ≤ 1048576) (hN : 1048577 ≤ N) : spec_FlippableVars N f bits = some (((flipR f bits).1, (flipR f bits).2, ()), ()) := by
  unfold spec_FlippableVars flipR
  simp only [l6Two_eq hl hc hb hN, bind_some']
  by_cases hg : isSol f bits
  · obtain ⟨h1, h2, h3, h4⟩ := isSol_facts hg
    rw [decide_eq_true hg, Bool.not_true, br_f, if_pos hg]
    obtain ⟨m, cs⟩ := f
    simp only at hl hc h2 h4 ⊢
    subst h2
    refine (loop_iter (L := fun K n o => spec_FlippableVars_l0 N (fun o => some ((o, true, ()), ())) K bits n (bits.length : Int) cs o) (k := fun o => some ((o, true, ()), ())) (Inv := fun n o => o.length ≤ n) (step := flipStep bits cs) (fun K n s hn _ => ?_) (fun K n s hn hs => ?_) (fun n s hn h => flipStep_len h) (s := []) (m := bits.length) (K := N) (by omega) (Nat.zero_le _))
    · simp only [spec_FlippableVars_l0, ilt_nf hn, br_f]
    · simp only [spec_FlippableVars_l0, ilt_n hn, br_t]
      rw [l6Flip_eq hb h1 hn]
      simp only [bind_some']
      rw [l6Solves_eq (f := ((bits.length : Int), cs)) hl hc (by rw [flipI_len]; exact hb) (by rw [flipI_len]; exact h4) hN, bind_some', wrap_succ (by omega), room_ok (by simp; omega), chk_t, br_ite]
      unfold flipStep
      by_cases hs : solves (flipI bits n) cs
      · rw [if_pos (decide_eq_true hs), if_pos hs]
        rfl
      · rw [if_neg (by simpa using hs), if_neg hs]
  · rw [decide_eq_false hg, Bool.not_false, br_t, if_neg hg]
theorem impl_FlippableVars_eq {N : Nat} {f : Int × List (List Int)} {bits : List Int} (hl : f.2.length ≤ 1048576) (hc : ∀ c ∈ f.2, c.length ≤ 1048576) (hb : bits.length ≤ 1048576) (hN : 1048577 ≤ N) : impl_FlippableVars N f bits = some (((flipR f bits).1, (flipR f bits).2, ()), ()) := by
  unfold impl_FlippableVars flipR
  simp only [impl_isSolution_eq hl hc hb hN, bind_some']
  by_cases hg : isSol f bits
  · obtain ⟨h1, h2, h3, h4⟩ := isSol_facts hg
    rw [decide_eq_true hg, Bool.not_true, br_f, if_pos hg]
    obtain ⟨m, cs⟩ := f
    simp only at hl hc h2 h4 ⊢
    subst h2
    refine (loop_iter (L := fun K n o => impl_FlippableVars_l0 N (fun o => some ((o, true, ()), ())) K bits (bits.length : Int) n (bits.length : Int) cs o) (k := fun o => some ((o, true, ()), ())) (Inv := fun n o => o.length ≤ n) (step := flipStep bits cs) (fun K n s hn _ => ?_) (fun K n s hn hs => ?_) (fun n s hn h => flipStep_len h) (s := []) (m := bits.length) (K := N) (by omega) (Nat.zero_le _))
    · simp only [impl_FlippableVars_l0, ilt_nf hn, br_f]
    · simp only [impl_FlippableVars_l0, ilt_n hn, br_t]
      rw [flipped_eq hb h1 hn]
      simp only [bind_some']
      rw [impl_solves_eq (f := ((bits.length : Int), cs)) hl hc (by rw [flipI_len]; exact hb) (by rw [flipI_len]; exact h4) hN, bind_some', wrap_succ (by omega), room_ok (by simp; omega), chk_t, br_ite]
      unfold flipStep
      by_cases hs : solves (flipI bits n) cs
      · rw [if_pos (decide_eq_true hs), if_pos hs]
        rfl
      · rw [if_neg (by simpa using hs), if_neg hs]
  · rw [decide_eq_false hg, Bool.not_false, br_t, if_neg hg]
theorem exists_first (Q : Nat → Prop) (m : Nat) : ∃ v, v ≤ m ∧ (∀ i, i < v → ¬ Q i) ∧ (v < m → Q v) := by
  induction m with
  | zero => exact ⟨0, Nat.le_refl _, fun i h => absurd h (Nat.not_lt_zero _), fun h => absurd h (Nat.not_lt_zero _)⟩
  | succ m ih =>
    obtain ⟨v, h1, h2, h3⟩ := ih
    by_cases hv : v < m
    · exact ⟨v, by omega, h2, fun _ => h3 hv⟩
    · have e : v = m := by omega
      subst e
      by_cases hq : Q v
      · exact ⟨v, by omega, h2, fun _ => hq⟩
      · refine ⟨v + 1, Nat.le_refl _, fun i hi => ?_, fun h => absurd h (Nat.lt_irrefl _)⟩
        by_cases hi' : i < v
        · exact h2 i hi'
        · have : i = v := by omega
          subst this
          exact hq
def canFlip (number : Int) (bits : List Int) (cs : List (List Int)) (v : Nat) : Prop := rdI bits v = number ∧ solves (flipI bits v) cs
theorem Down_in_eq {R : Type} {N : Nat} (k0 : Int → Int → Int → List (List Int) → List Int → Option R) {number : Int} {bits : List Int} {cs : List (List Int)} (hl : cs.length ≤ 1048576) (hc : ∀ c ∈ cs, c.length ≤ 1048576) (hb : bits.length ≤ 6) (h1 : bits.all isBit = true) (h4 : litsOk (bits.length : Int) cs) (hN : 1048577 ≤ N)
    {v : Nat} (hv : v ≤ bits.length) (hn : ∀ i, i < v → ¬ canFlip number bits cs i) (hy : v < bits.length → canFlip number bits cs v) : spec_l6Down_l0_0 N k0 N number 0 (bits.length : Int) cs bits = k0 number v (bits.length : Int) cs bits := by
  have go : ∀ d n K, n + d = v → d < K → spec_l6Down_l0_0 N k0 K number n (bits.length : Int) cs bits = k0 number v (bits.length : Int) cs bits := by
    intro d
    induction d with
    | zero =>
      intro n K hd hK
      obtain ⟨k, rfl⟩ := succ_of hK
      have e : n = v := by omega
      subst e
      by_cases hlt : n < bits.length
      · obtain ⟨q1, q2⟩ := hy hlt
        simp only [spec_l6Down_l0_0, ilt_n hlt, br_t, inb_n hlt, chk_t, l6Flip_eq (show bits.length ≤ 1048576 by omega) h1 hlt, bind_some']
        rw [ine_f q1, br_f, l6Solves_eq (f := ((bits.length : Int), cs)) hl hc (by rw [flipI_len]; omega) (by rw [flipI_len]; exact h4) hN, bind_some', decide_eq_true q2, Bool.not_true, br_f]
      · simp only [spec_l6Down_l0_0, ilt_nf hlt, br_f]
    | succ d ih =>
      intro n K hd hK
      obtain ⟨k, rfl⟩ := succ_of hK
      have hlt : n < bits.length := by omega
      have hq := hn n (by omega)
      simp only [spec_l6Down_l0_0, ilt_n hlt, br_t, inb_n hlt, chk_t, l6Flip_eq (show bits.length ≤ 1048576 by omega) h1 hlt, bind_some']
      rw [wrap_succ (by omega), ih (n + 1) k (by omega) (by omega)]
      by_cases q1 : rdI bits n = number
      · have q2 : ¬ solves (flipI bits n) cs := fun h => hq ⟨q1, h⟩
        rw [ine_f q1, br_f, l6Solves_eq (f := ((bits.length : Int), cs)) hl hc (by rw [flipI_len]; omega) (by rw [flipI_len]; exact h4) hN, bind_some', decide_eq_false q2, Bool.not_false, br_t]
      · rw [ine_t q1, br_t]
  exact go v 0 N (by omega) (by omega)
theorem farthest_in_eq {R : Type} {N : Nat} (k0 : List Int → Option R) {number : Int} {bits : List Int} {cs : List (List Int)} (hl : cs.length ≤ 1048576) (hc : ∀ c ∈ cs, c.length ≤ 1048576) (hb : bits.length ≤ 6) (h1 : bits.all isBit = true) (h4 : litsOk (bits.length : Int) cs) (hN : 1048577 ≤ N)
    {v : Nat} (hv : v ≤ bits.length) (hn : ∀ i, i < v → ¬ canFlip number bits cs i) (hy : v < bits.length → canFlip number bits cs v) (K : Nat) : impl_farthest_l0 N k0 (K + v + 1) number 0 (bits.length : Int) cs bits = if v < bits.length then impl_farthest_l0 N k0 K number 0 (bits.length : Int) cs (flipI bits v) else k0 bits := by
  have go : ∀ d n, n + d = v → impl_farthest_l0 N k0 (K + d + 1) number n (bits.length : Int) cs bits = if v < bits.length then impl_farthest_l0 N k0 K number 0 (bits.length : Int) cs (flipI bits v) else k0 bits := by
    intro d
    induction d with
    | zero =>
      intro n hd
      have e : n = v := by omega
      subst e
      by_cases hlt : n < bits.length
      · obtain ⟨q1, q2⟩ := hy hlt
        simp only [impl_farthest_l0, ilt_n hlt, br_t, inb_n hlt, chk_t, flipped_eq (show bits.length ≤ 1048576 by omega) h1 hlt, bind_some']
        rw [ieq_t q1, br_t, impl_solves_eq (f := ((bits.length : Int), cs)) hl hc (by rw [flipI_len]; omega) (by rw [flipI_len]; exact h4) hN, bind_some', decide_eq_true q2, br_t, if_pos hlt]
      · simp only [impl_farthest_l0, ilt_nf hlt, br_f, if_neg hlt]
    | succ d ih =>
      intro n hd
      have hlt : n < bits.length := by omega
      have hq := hn n (by omega)
      have ih' := ih (n + 1) (by omega)
      rw [Nat.add_assoc K d 1] at ih'
      generalize K + (d + 1) = k at ih' ⊢
      simp only [impl_farthest_l0, ilt_n hlt, br_t, inb_n hlt, chk_t, flipped_eq (show bits.length ≤ 1048576 by omega) h1 hlt, bind_some']
      rw [wrap_succ (by omega), ih']
      by_cases q1 : rdI bits n = number
      · have q2 : ¬ solves (flipI bits n) cs := fun h => hq ⟨q1, h⟩
        rw [ieq_t q1, br_t, impl_solves_eq (f := ((bits.length : Int), cs)) hl hc (by rw [flipI_len]; omega) (by rw [flipI_len]; exact h4) hN, bind_some', decide_eq_false q2, br_f]
      · rw [ieq_f q1, br_f]
  have := go v 0 (by omega)
  exact this
theorem flip_count {bits : List Int} {v : Nat} {number : Int} (hv : v < bits.length) (h : rdI bits v = number) : (flipI bits v).count number + 1 = bits.count number := by
  rw [rdI_n hv] at h
  have hpos : 0 < bits.count number := List.count_pos_iff.2 (h ▸ List.getElem_mem hv)
  unfold flipI
  rw [rdI_n hv, List.count_set hv, h]
  have h2 : ((1 - number) == number) = false := by
    rw [beq_eq_false_iff_ne]
    omega
  rw [h2]
  simp
  omega
theorem compare_eq (N : Nat) (x y : Int) : cmp_Compare_int N x y = some ((if x < y then -1 else if y < x then 1 else 0, ()), ()) := by
  unfold cmp_Compare_int cmp_isNaN_int
  simp only [bind_some', ine_f (rfl : x = x), ine_f (rfl : y = y), br_f]
  by_cases h1 : x < y
  · rw [ilt_t h1, br_t, if_pos h1]
  · rw [ilt_f h1, br_f, if_neg h1]
    by_cases h2 : y < x
    · rw [ilt_t h2, br_t, if_pos h2]
    · rw [ilt_f h2, br_f, if_neg h2]
def asc (xs : List Int) : Prop := xs.Pairwise (· ≤ ·)
theorem rdI_mid (q s : List Int) (x : Int) : rdI (q ++ x :: s) ((q.length : Nat) : Int) = x := by simp [rdI]
theorem asc_perm : ∀ {a b : List Int}, asc a → asc b → a.Perm b → a = b := by
  intro a
  induction a with
  | nil => intro b _ _ hp; exact (List.nil_perm.1 hp).symm
  | cons x a ih =>
    intro b ha hb hp
    cases b with
    | nil => exact absurd (List.perm_nil.1 hp) (by simp)
    | cons y b =>
      obtain ⟨a1, a2⟩ := List.pairwise_cons.1 ha
      obtain ⟨b1, b2⟩ := List.pairwise_cons.1 hb
      have e : x = y := by
        have h1 : x ∈ y :: b := hp.mem_iff.1 (List.mem_cons_self ..)
        have h2 : y ∈ x :: a := hp.mem_iff.2 (List.mem_cons_self ..)
        rcases List.mem_cons.1 h1 with h1 | h1
        · exact h1
        · rcases List.mem_cons.1 h2 with h2 | h2
          · exact h2.symm
          · have := a1 y h2
            have := b1 x h1
            omega
      subst e
      rw [ih a2 b2 (List.Perm.cons_inv hp)]
theorem mergeI_asc (xs : List Int) : asc (mergeI xs) := by
  have := List.pairwise_mergeSort (le := fun x y : Int => decide (x ≤ y)) (fun a b c h1 h2 => by simp at *; omega) (fun a b => by simp; omega) xs
  exact this.imp fun h => by simpa using h
theorem mergeI_perm (xs : List Int) : (mergeI xs).Perm xs := List.mergeSort_perm ..
theorem Sort_any {N : Nat} {xs : List Int} (hx : xs.length < 4611686018427387904) : slices_Sort_LI_int N xs = some ((), (mergeI xs, ())) := by
  unfold slices_Sort_LI_int sortIF
  rw [if_pos hx]
theorem Sort_asc {N : Nat} {xs : List Int} (h : asc xs) (hx : xs.length < 1024) (hN : 1048577 ≤ N) : slices_Sort_LI_int N xs = some ((), (xs, ())) := by
  rw [Sort_any (by omega)]
  congr 3
  exact asc_perm (mergeI_asc xs) h (mergeI_perm xs)
def allB (m : Nat) : List (List Int) := (List.range (2 ^ m)).map fun n => (List.range m).map fun v => ((n / 2 ^ (m - 1 - v) % 2 : Nat) : Int)
theorem allB_spec0 : spec_l6All 1048577 ((0 : Nat) : Int) = some ((allB 0, ()), ()) := by kernel_rfl
theorem allB_spec1 : spec_l6All 1048577 ((1 : Nat) : Int) = some ((allB 1, ()), ()) := by kernel_rfl
theorem allB_spec2 : spec_l6All 1048577 ((2 : Nat) : Int) = some ((allB 2, ()), ()) := by kernel_rfl
theorem allB_spec3 : spec_l6All 1048577 ((3 : Nat) : Int) = some ((allB 3, ()), ()) := by kernel_rfl
theorem allB_spec4 : spec_l6All 1048577 ((4 : Nat) : Int) = some ((allB 4, ()), ()) := by kernel_rfl
theorem allB_spec5 : spec_l6All 1048577 ((5 : Nat) : Int) = some ((allB 5, ()), ()) := by kernel_rfl
theorem allB_spec6 : spec_l6All 1048577 ((6 : Nat) : Int) = some ((allB 6, ()), ()) := by kernel_rfl
theorem allB_spec : ∀ m : Nat, m ≤ 6 → spec_l6All 1048577 (m : Int) = some ((allB m, ()), ())
  | 0, _ => allB_spec0
  | 1, _ => allB_spec1
  | 2, _ => allB_spec2
  | 3, _ => allB_spec3
  | 4, _ => allB_spec4
  | 5, _ => allB_spec5
  | 6, _ => allB_spec6
theorem allB_len (m : Nat) : (allB m).length = 2 ^ m := by simp [allB]
theorem allB_row {m : Nat} {b : List Int} (h : b ∈ allB m) : b.length = m := by
  unfold allB at h
  obtain ⟨n, _, rfl⟩ := List.mem_map.1 h
  simp
theorem l1Same_eq {N : Nat} {a b : List Int} (hx : a.length ≤ 1048576) (hN : 1048577 ≤ N) : spec_l1Same N a b = some ((decide (a = b), ()), ()) := by
  unfold spec_l1Same
  rw [tLen_n, tLen_n]
  by_cases hl : a.length = b.length
  · rw [ine_f (by omega), br_f]
    have := loop_all_if (P := a = b) (m := a.length) (L := fun K i => spec_l1Same_l0 N (fun x => some ((x, ()), ())) (fun (_ : Unit) => some ((true, ()), ())) K a b i) (fun i => rdI a i = rdI b i) ⟨fun h i _ => by rw [h], fun h => List.ext_getElem hl fun i h1 h2 => by have := h i h1; rwa [rdI_n h1, rdI_n h2] at this⟩ (kt := some ((true, ()), ())) (kf := some ((false, ()), ())) (fun K n hn => ?_) (fun K n hn hp => ?_) (fun K n hn hp => ?_) (show a.length < N by omega)
    · rw [show ((0 : Nat) : Int) = 0 from rfl] at this
      rw [this]
      by_cases h : a = b <;> simp [h]
    · simp only [spec_l1Same_l0, ilt_lenf hn, br_f]
    · simp only [spec_l1Same_l0, ilt_len hn, inb_n hn, inb_n (show n < b.length by omega), br_t, chk_t]
      rw [ine_f hp, br_f, wrap_succ (by omega)]
    · simp only [spec_l1Same_l0, ilt_len hn, inb_n hn, inb_n (show n < b.length by omega), br_t, chk_t]
      rw [ine_t hp, br_t]
  · rw [ine_t (by omega), br_t]
    have : a ≠ b := fun h => hl (by rw [h])
    simp [this]
def putI (n : Int) : List Int → List Int
  | [] => [n]
  | y :: p => if y < n then y :: putI n p else if y = n then y :: p else n :: y :: p
theorem putI_len (n : Int) : ∀ p : List Int, (putI n p).length ≤ p.length + 1 := by
  intro p
  induction p with
  | nil => exact Nat.le_refl _
  | cons y p ih =>
    unfold putI
    by_cases h : y < n
    · rw [if_pos h, List.length_cons, List.length_cons]; omega
    · by_cases h' : y = n
      · rw [if_neg h, if_pos h']; simp
      · rw [if_neg h, if_neg h']; simp
theorem l1Put_eq {N : Nat} {o : List Int} {n : Int} (ho : o.length ≤ 1048576) (hN : 1048577 ≤ N) : spec_l1Put N o n = some ((putI n o, ()), ()) := by
  have go : ∀ (q p : List Int) (K : Nat), q.length < K → (p ++ q).length ≤ 1048576 → spec_l1Put_l0 N (fun n1 kv o => (br (ilt kv (tLen o))
    ((chk (inb o kv)
      (br (ieq (rdI o kv) n1)
      (some ((o, ()), ()))
      ((chk (ile 0 0 && ile 0 kv && ile kv (tLen o))
        (chk (room (α := Int) (β := Int) [] (tCut o 0 kv))
        (chk (room (tApp [] (tCut o 0 kv)) [n1])
        (chk (ile 0 kv && ile kv (tLen o) && ile (tLen o) (tLen o))
        (chk (room (tApp (tApp [] (tCut o 0 kv)) [n1]) (tCut o kv (tLen o)))
        (some (((tApp (tApp (tApp [] (tCut o 0 kv)) [n1]) (tCut o kv (tLen o))), ()), ())))))))))))
    ((chk (ile 0 0 && ile 0 kv && ile kv (tLen o))
      (chk (room (α := Int) (β := Int) [] (tCut o 0 kv))
      (chk (room (tApp [] (tCut o 0 kv)) [n1])
      (chk (ile 0 kv && ile kv (tLen o) && ile (tLen o) (tLen o))
      (chk (room (tApp (tApp [] (tCut o 0 kv)) [n1]) (tCut o kv (tLen o)))
      (some (((tApp (tApp (tApp [] (tCut o 0 kv)) [n1]) (tCut o kv (tLen o))), ()), ())))))))))) K n ((p.length : Nat) : Int) (p ++ q) = some ((p ++ putI n q, ()), ()) := by
    intro q
    have cuts : ∀ p q : List Int, tCut (p ++ q) 0 ((p.length : Nat) : Int) = p ∧ tCut (p ++ q) ((p.length : Nat) : Int) (tLen (p ++ q)) = q := fun p q => ⟨by simp [tCut], by rw [tLen_n, tCut_n, List.take_length, List.drop_left]⟩
    have c1 : ∀ p q : List Int, (ile 0 0 && ile 0 ((p.length : Nat) : Int) && ile ((p.length : Nat) : Int) (tLen (p ++ q))) = true := fun p q => by
      rw [ile_t (Int.le_refl 0), ile_t (by omega), ile_t (by simp [tLen]; omega)]; rfl
    have c2 : ∀ p q : List Int, (ile 0 ((p.length : Nat) : Int) && ile ((p.length : Nat) : Int) (tLen (p ++ q)) && ile (tLen (p ++ q)) (tLen (p ++ q))) = true := fun p q => by
      rw [ile_t (Int.le_refl (tLen _)), ile_t (by omega), ile_t (by simp [tLen]; omega)]; rfl
    induction q with
    | nil =>
      intro p K hK hl
      obtain ⟨k, rfl⟩ := succ_of hK
      have hlt : ¬ p.length < (p ++ ([] : List Int)).length := by simp
      simp only [spec_l1Put_l0, ilt_lenf hlt, br_f, (cuts p []).1, (cuts p []).2, c1, c2, chk_t]
      rw [room_ok (by simp at hl ⊢; omega), room_ok (by simp [tApp] at hl ⊢; omega), room_ok (by simp [tApp] at hl ⊢; omega), chk_t, chk_t, chk_t]
      simp [tApp, putI]
    | cons y q ih =>
      intro p K hK hl
      obtain ⟨k, rfl⟩ := succ_of hK
      have hlt : p.length < (p ++ y :: q).length := by simp
      simp only [spec_l1Put_l0, ilt_len hlt, br_t, inb_n hlt, chk_t, rdI_mid]
      by_cases hy : y < n
      · have := ih (p ++ [y]) k (by simp at hK; omega) (by simpa using hl)
        rw [ilt_t hy, br_t, wrap_succ (by simp at hl; omega)]
        simp only [List.append_assoc, List.singleton_append, List.length_append, List.length_singleton] at this
        rw [this]
        simp [putI, hy]
      · rw [ilt_f hy, br_f]
        by_cases hyn : y = n
        · rw [ieq_t hyn, br_t]
          simp [putI, hy, hyn]
        · rw [ieq_f hyn, br_f, c1, chk_t, c2, chk_t, (cuts p (y :: q)).1, (cuts p (y :: q)).2]
          rw [room_ok (by simp at hl ⊢; omega), room_ok (by simp [tApp] at hl ⊢; omega), room_ok (by simp [tApp] at hl ⊢; omega), chk_t, chk_t, chk_t]
          simp [tApp, putI, hy, hyn]
  unfold spec_l1Put
  exact go o [] N (by omega) (by simpa using ho)
theorem iter_app {p : Nat → Prop} [DecidablePred p] : ∀ (d n : Nat) (o : List Int), iter (fun n o => if p n then o ++ [(n : Int)] else o) d n o = o ++ ((List.range' n d).filter fun i => decide (p i)).map (fun i : Nat => (i : Int)) := by
  intro d
  induction d with
  | zero => intro n o; simp [iter]
  | succ d ih =>
    intro n o
    unfold iter
    rw [ih, List.range'_succ]
    by_cases h : p n <;> simp [h]
theorem rdI_set {cs : List Int} {x : Nat} (hx : x < cs.length) (v y : Int) (hy : 0 ≤ y) : rdI (tSet cs (x : Int) v) y = if y = x then v else rdI cs y := by
  obtain ⟨n, rfl⟩ : ∃ n : Nat, y = n := ⟨y.toNat, by omega⟩
  rw [tSet_n]
  unfold rdI
  rw [Int.toNat_natCast, List.getD, List.getD, List.getElem?_set]
  by_cases h : x = n
  · subst h
    simp [hx]
  · have : ¬ ((n : Int) = (x : Int)) := by omega
    simp [h, this]
theorem wrap64 {n : Nat} (h : n < 18446744073709551616) : IntKind.u64.wrap (n : Int) = (n : Int) := by
  unfold IntKind.wrap
  simp only [IntKind.bits, IntKind.signed, Bool.false_and]
  have : (n : Int) % (2 ^ 64 : Int) = n := Int.emod_eq_of_lt (by omega) (by omega)
  rw [this]
  rfl
theorem ofInt64 {n : Nat} (h : n < 18446744073709551616) : (BitVec.ofInt 64 (n : Int)).toNat = n := by
  rw [BitVec.toNat_ofInt]
  omega
theorem andN {a b : Nat} (ha : a < 4294967296) (hb : b < 4294967296) : bitop .and .u64 (a : Int) (b : Int) = ((a &&& b : Nat) : Int) := by
  show IntKind.u64.wrap (((BitVec.ofInt 64 (a : Int) &&& BitVec.ofInt 64 (b : Int)).toNat : Nat) : Int) = _
  rw [BitVec.toNat_and, ofInt64 (by omega), ofInt64 (by omega)]
  have : a &&& b < 2 ^ 32 := Nat.and_lt_two_pow _ hb
  exact wrap64 (by omega)
theorem nodup_le : ∀ {a b : List Int}, a.Nodup → (∀ x ∈ a, x ∈ b) → a.length ≤ b.length := by
  intro a
  induction a with
  | nil => intro b _ _; exact Nat.zero_le _
  | cons x a ih =>
    intro b hn hs
    obtain ⟨h1, h2⟩ := List.nodup_cons.1 hn
    have hx := hs x (List.mem_cons_self ..)
    have := ih (b := b.erase x) h2 fun y hy => (List.mem_erase_of_ne (fun (e : y = x) => h1 (e ▸ hy))).2 (hs y (List.mem_cons_of_mem _ hy))
    rw [List.length_erase_of_mem hx] at this
    have := List.length_pos_of_mem hx
    rw [List.length_cons]
    omega
def strict (xs : List Int) : Prop := xs.Pairwise (· < ·)
theorem strict_nodup {xs : List Int} (h : strict xs) : xs.Nodup := h.imp fun hab e => by omega
def inM (m : Nat) (o : List Int) : Prop := o.Nodup ∧ ∀ z ∈ o, 0 ≤ z ∧ z < (m : Int)
theorem inM_len {m : Nat} {o : List Int} (h : inM m o) : o.length ≤ m := by
  have := nodup_le (b := (List.range m).map fun i : Nat => (i : Int)) h.1 fun z hz => by
    have := h.2 z hz
    exact List.mem_map.2 ⟨z.toNat, List.mem_range.2 (by omega), by omega⟩
  simpa using this
def bitAt (m n v : Nat) : Int := ((n / 2 ^ (m - 1 - v) % 2 : Nat) : Int)
theorem bitTab : ((List.range 64).all fun n => (List.range 6).all fun k => decide (bitop .and .i64 (shrI .i64 (n : Int) (k : Int)) 1 = ((n / 2 ^ k % 2 : Nat) : Int))) = true := by kernel_rfl
theorem bit_at {n k : Nat} (hn : n < 64) (hk : k < 6) : bitop .and .i64 (shrI .i64 (n : Int) (k : Int)) 1 = ((n / 2 ^ k % 2 : Nat) : Int) := by
  have h := List.all_eq_true.1 bitTab n (List.mem_range.2 hn)
  have h := List.all_eq_true.1 h k (List.mem_range.2 hk)
  exact of_decide_eq_true h
theorem assign_row {R : Type} {N m n : Nat} {k0 : Int → (List Int → Option Bool) → Int → Int → List (List Int) → List Int → Option R} {is : List Int → Option Bool} {x2 x3 : Int} {o1 : List (List Int)} (hm : m ≤ 6) (hn : n < 64) : ∀ (d v K : Nat) (o2 : List Int), v + d = m → d < K → o2.length = v →
    impl_assignments_own_l0_0 N k0 K (m : Int) is (n : Int) x2 x3 (m : Int) (v : Int) o1 o2 = k0 (m : Int) is x2 x3 o1 (o2 ++ (List.range' v d).map (bitAt m n)) := by
  intro d
  induction d with
  | zero =>
    intro v K o2 hv hK ho
    obtain ⟨K, rfl⟩ := succ_of hK
    simp only [impl_assignments_own_l0_0, ilt_nf (show ¬ v < m by omega), br_f]
    simp
  | succ d ih =>
    intro v K o2 hv hK ho
    obtain ⟨K, rfl⟩ := succ_of hK
    have e1 : IntKind.i64.wrap (IntKind.i64.wrap ((m : Int) - 1) - (v : Int)) = ((m - 1 - v : Nat) : Int) := by
      rw [wrap_ok (show -9223372036854775808 ≤ (m : Int) - 1 by omega) (by omega), wrap_ok (by omega) (by omega)]
      omega
    simp only [impl_assignments_own_l0_0, ilt_n (show v < m by omega), br_t, e1, bit_at hn (show m - 1 - v < 6 by omega)]
    rw [ile_t (by omega), chk_t, room_ok (by simp; omega), chk_t, wrap_succ (by omega), ih (v + 1) K _ (by omega) (by omega) (by simp [tApp_d, ho])]
    rw [List.range'_succ, List.map_cons, tApp_d, List.append_assoc]
    rfl
def rowB (m n : Nat) : List Int := (List.range m).map (bitAt m n)
theorem allB_rows (m : Nat) : allB m = (List.range (2 ^ m)).map (rowB m) := rfl
theorem pow_le64 {m : Nat} (h : m ≤ 6) : 2 ^ m ≤ 64 := Nat.pow_le_pow_right (by omega) h
theorem shl_m {m : Nat} (h : m ≤ 6) : shlI .i64 1 (m : Int) = ((2 ^ m : Nat) : Int) := by
  rcases (by omega : m = 0 ∨ m = 1 ∨ m = 2 ∨ m = 3 ∨ m = 4 ∨ m = 5 ∨ m = 6) with rfl | rfl | rfl | rfl | rfl | rfl | rfl <;> rfl
theorem assignments_eq {N m : Nat} {is : List Int → Option Bool} {p : List Int → Bool} (hN : 1048577 ≤ N) (hm : m ≤ 6) (hp : ∀ b ∈ allB m, is b = some (p b)) : impl_assignments_own N (m : Int) is = some (((allB m).filter p, ()), ()) := by
  have h64 := pow_le64 hm
  have go : ∀ (r c K : Nat) (o : List (List Int)), c + r = 2 ^ m → r < K → o.length ≤ c →
      impl_assignments_own_l0 N (fun o => some ((o, ()), ())) K (m : Int) is ((2 ^ m : Nat) : Int) (c : Int) o = some ((o ++ ((List.range' c r).map (rowB m)).filter p, ()), ()) := by
    intro r
    induction r with
    | zero =>
      intro c K o hc hK ho
      obtain ⟨K, rfl⟩ := succ_of hK
      simp only [impl_assignments_own_l0, ilt_nf (show ¬ c < 2 ^ m by omega), br_f]
      simp
    | succ r ih =>
      intro c K o hc hK ho
      obtain ⟨K, rfl⟩ := succ_of hK
      simp only [impl_assignments_own_l0, ilt_n (show c < 2 ^ m by omega), br_t]
      have := assign_row (N := N) (m := m) (n := c) (k0 := fun vars2 is2 x2 x3 o1 o2 => (is2 o2).bind fun v => br v (chk (room o1 [o2]) (impl_assignments_own_l0 N (fun o => some ((o, ()), ())) K vars2 is2 x2 (IntKind.i64.wrap (x3 + 1)) (tApp o1 [o2]))) (impl_assignments_own_l0 N (fun o => some ((o, ()), ())) K vars2 is2 x2 (IntKind.i64.wrap (x3 + 1)) o1))
        (is := is) (x2 := ((2 ^ m : Nat) : Int)) (x3 := (c : Int)) (o1 := o) hm (by omega) m 0 N [] (by omega) (by omega) rfl
      rw [show ((0 : Nat) : Int) = 0 from rfl] at this
      rw [this, List.nil_append, ← List.range_eq_range']
      have hmem : rowB m c ∈ allB m := by rw [allB_rows]; exact List.mem_map.2 ⟨c, List.mem_range.2 (by omega), rfl⟩
      have hq := hp _ hmem
      unfold rowB at hq
      rw [hq, bind_some', wrap_succ (by omega), List.range'_succ, List.map_cons]
      cases hb : p (rowB m c) with
      | true =>
        unfold rowB at hb
        rw [hb, br_t, room_ok (by simp; omega), chk_t, tApp_d, ih (c + 1) K _ (by omega) (by omega) (by simp; omega)]
        rw [List.filter_cons_of_pos (show p (rowB m c) = true from hb), List.append_assoc]
        rfl
      | false =>
        unfold rowB at hb
        rw [hb, br_f, ih (c + 1) K _ (by omega) (by omega) (by omega)]
        rw [List.filter_cons_of_neg (by show ¬ p (rowB m c) = true; unfold rowB; rw [hb]; simp)]
  unfold impl_assignments_own
  rw [ile_t (by omega), chk_t, shl_m hm]
  have := go (2 ^ m) 0 N [] (by omega) (by omega) (by simp)
  rw [show ((0 : Nat) : Int) = 0 from rfl] at this
  rw [this, List.nil_append, ← List.range_eq_range', ← allB_rows]
theorem allB_bits {m : Nat} {b : List Int} (h : b ∈ allB m) : ∀ x ∈ b, x = 0 ∨ x = 1 := by
  obtain ⟨n, _, rfl⟩ := List.mem_map.1 h
  intro x hx
  obtain ⟨v, _, rfl⟩ := List.mem_map.1 hx
  omega
def InN (n : Nat) (x : Int) : Prop := 0 ≤ x ∧ x < (n : Int)
theorem nat_of {n : Nat} {x : Int} (h : InN n x) : ∃ i : Nat, i < n ∧ x = (i : Int) := by
  obtain ⟨h1, h2⟩ := h
  exact ⟨x.toNat, by omega, by omega⟩
theorem in_nat {n i : Nat} (h : i < n) : InN n (i : Int) := ⟨by omega, by omega⟩
inductive Wk (lists : List (List Int)) (x : Int) : Int → Prop
  | base : Wk lists x x
  | step {y z : Int} : Wk lists x y → z ∈ rdL lists y → Wk lists x z
def SpI (lists : List (List Int)) (m : Nat) (x : Int) (o q : List Int) : Prop :=
  o.length = m ∧ inM m q ∧ (∀ y, InN m y → (0 ≤ rdI o y ↔ y ∈ q)) ∧ (∀ y, InN m y → rdI o y < (q.length : Int)) ∧ ∀ y ∈ q, Wk lists x y
noncomputable def spF (u : Int) (s : List Int × List Int) (z : Int) : List Int × List Int := if rdI s.1 z < 0 then (tSet s.1 z (rdI s.1 u + 1), s.2 ++ [z]) else s
theorem spF_ok {lists : List (List Int)} {m : Nat} {x u z : Int} {s : List Int × List Int} (h : SpI lists m x s.1 s.2) (hu : u ∈ s.2) (hz : InN m z) (hr : z ∈ rdL lists u) : SpI lists m x (spF u s z).1 (spF u s z).2 ∧ (∃ t, (spF u s z).2 = s.2 ++ t) ∧ z ∈ (spF u s z).2 := by
  obtain ⟨h1, h2, h3, h4, h5⟩ := h
  unfold spF
  by_cases hc : rdI s.1 z < 0
  · rw [if_pos hc]
    obtain ⟨i, hi, rfl⟩ := nat_of hz
    have hzq : ¬ (i : Int) ∈ s.2 := fun h => by have := (h3 _ hz).2 h; omega
    have hum : InN m u := h2.2 u hu
    have hu0 := (h3 u hum).2 hu
    have hu1 := h4 u hum
    refine ⟨⟨by simp only [tSet_n, List.length_set]; exact h1, ⟨?_, ?_⟩, ?_, ?_, ?_⟩, ⟨_, rfl⟩, by simp⟩
    · refine List.nodup_append.2 ⟨h2.1, by simp, ?_⟩
      intro a ha b hb
      simp at hb
      rw [hb]
      exact fun e => hzq (e ▸ ha)
    · intro y hy
      rcases List.mem_append.1 hy with h | h
      · exact h2.2 y h
      · simp at h; rw [h]; exact hz
    · intro y hy
      simp only []
      rw [rdI_set (by omega) _ y hy.1, List.mem_append, List.mem_singleton]
      by_cases hyi : y = i
      · rw [if_pos hyi]
        exact ⟨fun _ => .inr hyi, fun _ => by omega⟩
      · rw [if_neg hyi, h3 y hy]
        exact ⟨.inl, fun h => h.elim _root_.id fun h => absurd h hyi⟩
    · intro y hy
      simp only []
      rw [rdI_set (by omega) _ y hy.1, List.length_append, List.length_singleton]
      by_cases hyi : y = i
      · rw [if_pos hyi]; omega
      · rw [if_neg hyi]
        have := h4 y hy
        omega
    · intro y hy
      rcases List.mem_append.1 hy with h | h
      · exact h5 y h
      · simp at h; rw [h]; exact .step (h5 u hu) hr
  · rw [if_neg hc]
    exact ⟨⟨h1, h2, h3, h4, h5⟩, ⟨[], by simp⟩, (h3 z hz).1 (by omega)⟩
end Go.Proofs.YtaodifjegdpifaaGreat
