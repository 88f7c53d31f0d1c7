/- Statements on data alone. -/
import Derived.Test.YtfilchmabmfmaaaGreatPvPure
import Derived.Test.YtfilchmabmfmaaaGreatClosuresFd
set_option linter.all false
set_option linter.all false
namespace Go.Proofs.YtfilchmabmfmaaaGreat
open Go Go.PV Classical
theorem all_rdI {xs : List Int} {p : Int → Prop} : (∀ x ∈ xs, p x) ↔ ∀ i : Nat, i < xs.length → p (rdI xs i) := by
  constructor
  · intro h i hi
    rw [rdI_n hi]
    exact h _ (List.getElem_mem hi)
  · intro h x hx
    obtain ⟨i, hi, rfl⟩ := List.mem_iff_getElem.1 hx
    have := h i hi
    rwa [rdI_n hi] at this
theorem all_rdL {xs : List (List Int)} {p : List Int → Prop} : (∀ x ∈ xs, p x) ↔ ∀ i : Nat, i < xs.length → p (rdL xs i) := by
  constructor
  · intro h i hi
    rw [rdL_n hi]
    exact h _ (List.getElem_mem hi)
  · intro h x hx
    obtain ⟨i, hi, rfl⟩ := List.mem_iff_getElem.1 hx
    have := h i hi
    rwa [rdL_n hi] at this
theorem not_any {α : Type} {xs : List α} {f : α → Bool} : (!(xs.any f)) = decide (∀ x ∈ xs, f x = false) := by
  induction xs with
  | nil => simp
  | cons x xs ih =>
    rw [List.any_cons, Bool.not_or, ih]
    by_cases h : f x = true <;> simp [h]
def findAt {α : Type} (f : α → Bool) : List α → Nat → Int
  | [], _ => -1
  | x :: xs, n => if f x = true then (n : Int) else findAt f xs (n + 1)
theorem findAt_cons {α : Type} (f : α → Bool) (x : α) (xs : List α) (n : Nat) : findAt f (x :: xs) n = if f x = true then (n : Int) else findAt f xs (n + 1) := rfl
theorem findAt_ge {α : Type} (f : α → Bool) : ∀ (xs : List α) (n : Nat), decide (0 ≤ findAt f xs n) = xs.any f := by
  intro xs
  induction xs with
  | nil => intro n; rfl
  | cons x xs ih =>
    intro n
    unfold findAt
    by_cases h : f x = true
    · rw [if_pos h]
      simp [h]
    · rw [if_neg h, ih]
      simp [h]
theorem IndexFunc_LI_int_l0_eq {R : Type} (N : Nat) (k0 : Int → Option R) (k1 : Unit → Option R) (xs : List (Int)) (f : Int → Option Bool) (g : Int → Bool) (hf : ∀ x ∈ xs, f x = some (g x)) (hx : xs.length ≤ 1099511627776) : ∀ (d n : Nat) (K : Nat), n + d = xs.length → d < K →
    Zq43_l0 N k0 k1 K xs f (xs.length : Int) n = if (xs.drop n).any g = true then k0 (findAt g (xs.drop n) n) else k1 () := by
  intro d
  induction d with
  | zero =>
    intro n K hd hK
    obtain ⟨k, rfl⟩ := succ_of hK
    have hn : ¬ n < xs.length := by omega
    simp only [Zq43_l0, ilt_nf hn, br_f]
    rw [List.drop_of_length_le (by omega)]
    simp
  | succ d ih =>
    intro n K hd hK
    obtain ⟨k, rfl⟩ := succ_of hK
    have hn : n < xs.length := by omega
    simp only [Zq43_l0, ilt_n hn, inb_n hn, br_t, chk_t]
    obtain ⟨y, r, e1, e2, e3⟩ := drop_split hn
    rw [wrap_succ (by omega), rdI_n hn, ih (n + 1) k (by omega) (by omega), hf _ (List.getElem_mem hn), bind_some', br_ite, e1, e2, e3, findAt_cons]
    by_cases h : g y = true
    · simp [h]
    · simp [h]
theorem ContainsFunc_LI_int_eq {N : Nat} {xs : List (Int)} {f : Int → Option Bool} {g : Int → Bool} (hf : ∀ x ∈ xs, f x = some (g x)) (hx : xs.length ≤ 1099511627776) (hN : xs.length < N) :
    Zq39 N xs f = some ((xs.any g, ()), ()) := by
  unfold Zq39 Zq43
  have := IndexFunc_LI_int_l0_eq N (fun x => some ((x, ()), ())) (fun _ => some (((-1 : Int), ()), ())) xs f g hf hx xs.length 0 N (by omega) (by omega)
  simp only [Int.natCast_zero, List.drop_zero] at this
  rw [tLen_n, this]
  by_cases h : xs.any g = true
  · rw [if_pos h, bind_some', ile_d, findAt_ge]
  · rw [if_neg h, bind_some']
    simp only [Bool.not_eq_true] at h
    rw [h]
    rfl
theorem IndexFunc_LLI_LI_l0_eq {R : Type} (N : Nat) (k0 : Int → Option R) (k1 : Unit → Option R) (xs : List (List Int)) (f : List Int → Option Bool) (g : List Int → Bool) (hf : ∀ x ∈ xs, f x = some (g x)) (hx : xs.length ≤ 1099511627776) : ∀ (d n : Nat) (K : Nat), n + d = xs.length → d < K →
    Zq44_l0 N k0 k1 K xs f (xs.length : Int) n = if (xs.drop n).any g = true then k0 (findAt g (xs.drop n) n) else k1 () := by
  intro d
  induction d with
  | zero =>
    intro n K hd hK
    obtain ⟨k, rfl⟩ := succ_of hK
    have hn : ¬ n < xs.length := by omega
    simp only [Zq44_l0, ilt_nf hn, br_f]
    rw [List.drop_of_length_le (by omega)]
    simp
  | succ d ih =>
    intro n K hd hK
    obtain ⟨k, rfl⟩ := succ_of hK
    have hn : n < xs.length := by omega
    simp only [Zq44_l0, ilt_n hn, inb_n hn, br_t, chk_t]
    obtain ⟨y, r, e1, e2, e3⟩ := drop_split hn
    rw [wrap_succ (by omega), rdL_n hn, ih (n + 1) k (by omega) (by omega), hf _ (List.getElem_mem hn), bind_some', br_ite, e1, e2, e3, findAt_cons]
    by_cases h : g y = true
    · simp [h]
    · simp [h]
theorem ContainsFunc_LLI_LI_eq {N : Nat} {xs : List (List Int)} {f : List Int → Option Bool} {g : List Int → Bool} (hf : ∀ x ∈ xs, f x = some (g x)) (hx : xs.length ≤ 1099511627776) (hN : xs.length < N) :
    Zq40 N xs f = some ((xs.any g, ()), ()) := by
  unfold Zq40 Zq44
  have := IndexFunc_LLI_LI_l0_eq N (fun x => some ((x, ()), ())) (fun _ => some (((-1 : Int), ()), ())) xs f g hf hx xs.length 0 N (by omega) (by omega)
  simp only [Int.natCast_zero, List.drop_zero] at this
  rw [tLen_n, this]
  by_cases h : xs.any g = true
  · rw [if_pos h, bind_some', ile_d, findAt_ge]
  · rw [if_neg h, bind_some']
    simp only [Bool.not_eq_true] at h
    rw [h]
    rfl
def isBit (n : Int) : Bool := decide (0 ≤ n ∧ n ≤ 1)
theorem l1In_eq (N : Nat) (x a b : Int) : Zq63 N x a b = some ((decide (a ≤ x ∧ x ≤ b), ()), ()) := by
  unfold Zq63
  rw [br_ite, ile_d, ile_d]
  by_cases h : a ≤ x <;> by_cases h' : x ≤ b <;> simp [h, h']
theorem between_eq (N : Nat) (n low high : Int) : Zq18 N n low high = some ((decide (low ≤ n ∧ n ≤ high), ()), ()) := by
  unfold Zq18
  rw [br_ite, ile_d, ile_d]
  by_cases h : low ≤ n <;> by_cases h' : n ≤ high <;> simp [h, h']
theorem l6Bits_l0_eq {R : Type} (N : Nat) (k0 : Bool → Option R) (k1 : Int → List Int → Option R) (v : Int) (xs : List Int) (hx : xs.length ≤ 1099511627776) : ∀ (d n : Nat) (K : Nat), n + d = xs.length → d < K →
    Zq73_l0 N k0 k1 K v xs n = if (xs.drop n).all isBit = true then k1 v xs else k0 false := by
  intro d
  induction d with
  | zero =>
    intro n K hd hK
    obtain ⟨k, rfl⟩ := succ_of hK
    have hn : ¬ n < xs.length := by omega
    simp only [Zq73_l0, ilt_lenf hn, br_f]
    rw [List.drop_of_length_le (by omega)]
    simp
  | succ d ih =>
    intro n K hd hK
    obtain ⟨k, rfl⟩ := succ_of hK
    have hn : n < xs.length := by omega
    simp only [Zq73_l0, ilt_len hn, inb_n hn, br_t, chk_t, l1In_eq, bind_some']
    rw [wrap_succ (by omega), rdI_n hn, ih (n + 1) k (by omega) (by omega), drop_cons hn, List.all_cons, br_ite]
    by_cases h : 0 ≤ xs[n] ∧ xs[n] ≤ 1
    · simp [isBit, h]
    · simp [isBit, h]
theorem l6Bits_eq {N : Nat} {v : Int} {xs : List Int} (hx : xs.length ≤ 1099511627776) (hN : xs.length < N) : Zq73 N v xs = some ((xs.all isBit && decide ((xs.length : Int) = v), ()), ()) := by
  unfold Zq73
  have := l6Bits_l0_eq N (fun x => some ((x, ()), ())) (fun vars1 bits1 => some (((ieq (tLen bits1) vars1), ()), ())) v xs hx xs.length 0 N (by omega) (by omega)
  simp only [Int.natCast_zero, List.drop_zero] at this
  rw [this, tLen_n, ieq_d]
  by_cases h : xs.all isBit = true
  · rw [if_pos h, h, Bool.true_and]
  · rw [if_neg h]
    simp [h]
theorem any_not {α : Type} (f : α → Bool) : ∀ xs : List α, (!(xs.any fun x => !f x)) = xs.all f := by
  intro xs
  induction xs with
  | nil => rfl
  | cons x xs ih => simp only [List.any_cons, List.all_cons, Bool.not_or, Bool.not_not, ih]
theorem isAssignment_eq {N : Nat} {v : Int} {xs : List Int} (hx : xs.length ≤ 1099511627776) (hN : xs.length < N) : Zq23 N v xs = some ((xs.all isBit && decide ((xs.length : Int) = v), ()), ()) := by
  unfold Zq23
  rw [ContainsFunc_LI_int_eq (g := fun n => !isBit n) (fun x _ => by simp only [Zq24, between_eq, bind_some']; rfl) hx hN, bind_some', any_not, tLen_n, ieq_d, br_ite]
  by_cases h : (xs.length : Int) = v <;> simp [h]
def litOk (v : Int) (c : List Int) (k : Nat) : Prop := rdI c k ≠ 0 ∧ -v ≤ rdI c k ∧ rdI c k ≤ v ∧ (0 < k → rdI c ((k - 1 : Nat) : Int) < rdI c k)
def clauseOk (v : Int) (c : List Int) : Prop := ∀ k, k < c.length → litOk v c k
def goodF (f : Int × List (List Int)) : Prop := (0 ≤ f.1 ∧ f.1 ≤ 6) ∧ f.2.length ≤ 64 ∧ ∀ i, i < f.2.length → clauseOk f.1 (rdL f.2 i)
theorem Zq77_eq (N : Nat) {v : Int} (hv : 0 ≤ v ∧ v ≤ 6) (x : Int) : Zq77 N v x = some ((decide (x ≠ 0 ∧ -v ≤ x ∧ x ≤ v), ()), ()) := by
  unfold Zq77
  rw [wrap_ok (by omega) (by omega), l1In_eq, bind_some', br_ite, ine_d]
  have e : (0 : Int) - v = -v := by omega
  rw [e]
  by_cases h : x = 0 <;> simp [h]
theorem l6Good_in_eq {R : Type} {N : Nat} (k0 : Bool → Option R) (k1 : Int → Int → List (List Int) → Option R) {v : Int} (hv : 0 ≤ v ∧ v ≤ 6) {cs : List (List Int)} {i : Nat} (hi : i < cs.length) (hc : (rdL cs i).length ≤ 1048576) (hN : 1048577 ≤ N) :
    Zq75_l0_0 N k0 k1 N i 0 v cs = if clauseOk v (rdL cs i) then k1 i v cs else k0 false := by
  refine loop_all_if (K := N) (L := fun K k => Zq75_l0_0 N k0 k1 K i k v cs) (m := (rdL cs i).length) (P := clauseOk v (rdL cs i)) (litOk v (rdL cs i)) Iff.rfl (fun K n hn => ?_) (fun K n hn hp => ?_) (fun K n hn hp => ?_) (by omega)
  · simp only [Zq75_l0_0, inb_n hi, chk_t, ilt_lenf hn, br_f]
  · obtain ⟨h1, h2, h3, h4⟩ := hp
    simp only [Zq75_l0_0, inb_n hi, chk_t, ilt_len hn, br_t, inb_n hn, Zq77_eq N hv, bind_some']
    rw [br_ite, if_neg (by simp [h1, h2, h3])]
    by_cases h0 : 0 < n
    · rw [ilt_0 h0, br_t, wrap_pred (by omega) h0, inb_n (by omega), chk_t, ile_f (by have := h4 h0; omega), br_f, wrap_succ (by omega)]
    · rw [ilt_0n h0, br_f, wrap_succ (by omega)]
  · simp only [Zq75_l0_0, inb_n hi, chk_t, ilt_len hn, br_t, inb_n hn, Zq77_eq N hv, bind_some']
    by_cases h : rdI (rdL cs i) n ≠ 0 ∧ -v ≤ rdI (rdL cs i) n ∧ rdI (rdL cs i) n ≤ v
    · rw [br_ite, if_neg (by simp [h])]
      have h0 : 0 < n := by
        rcases Nat.eq_zero_or_pos n with h0 | h0
        · exact absurd ⟨h.1, h.2.1, h.2.2, fun h' => by omega⟩ hp
        · exact h0
      have h4 : ¬ rdI (rdL cs i) ((n - 1 : Nat) : Int) < rdI (rdL cs i) n := fun h' => hp ⟨h.1, h.2.1, h.2.2, fun _ => h'⟩
      rw [ilt_0 h0, br_t, wrap_pred (by omega) h0, inb_n (by omega), chk_t, ile_t (by omega), br_t]
    · rw [br_ite, if_pos (by simp only [Bool.not_eq_true', decide_eq_false_iff_not]; exact h)]
theorem Zq75_eq {N : Nat} {f : Int × List (List Int)} (hl : f.2.length ≤ 1048576) (hc : ∀ c ∈ f.2, c.length ≤ 1048576) (hN : 1048577 ≤ N) : Zq75 N f = some ((decide (goodF f), ()), ()) := by
  obtain ⟨v, cs⟩ := f
  unfold Zq75
  rw [l1In_eq, bind_some', br_ite]
  by_cases hv : 0 ≤ v ∧ v ≤ 6
  · rw [if_neg (by simp [hv]), tLen_n]
    by_cases h64 : cs.length ≤ 64
    · rw [ilt_f (show ¬ (64 : Int) < cs.length by omega), br_f]
      have := loop_all_if (L := fun K i => Zq75_l0 N (fun x => some ((x, ()), ())) (fun (_ : Unit) => some ((true, ()), ())) K i v cs) (m := cs.length) (P := ∀ i, i < cs.length → clauseOk v (rdL cs i)) (fun i => clauseOk v (rdL cs i)) Iff.rfl (kt := some ((true, ()), ())) (kf := some ((false, ()), ())) (fun K n hn => ?_) (fun K n hn hp => ?_) (fun K n hn hp => ?_) (show cs.length < N by omega)
      · rw [show ((0 : Nat) : Int) = 0 from rfl] at this
        rw [this]
        by_cases h : ∀ i, i < cs.length → clauseOk v (rdL cs i)
        · rw [if_pos h, decide_eq_true (show goodF (v, cs) from ⟨hv, h64, h⟩)]
        · rw [if_neg h, decide_eq_false (show ¬ goodF (v, cs) from fun h' => h h'.2.2)]
      · simp only [Zq75_l0, ilt_lenf hn, br_f]
      · simp only [Zq75_l0, ilt_len hn, br_t]
        rw [l6Good_in_eq _ _ hv hn (rdL_len hc _) hN, if_pos hp, wrap_succ (by omega)]
      · simp only [Zq75_l0, ilt_len hn, br_t]
        rw [l6Good_in_eq _ _ hv hn (rdL_len hc _) hN, if_neg hp]
    · rw [ilt_t (show (64 : Int) < cs.length by omega), br_t, decide_eq_false (show ¬ goodF (v, cs) from fun h => h64 h.2.1)]
  · rw [if_pos (by simp only [Bool.not_eq_true', decide_eq_false_iff_not]; exact hv), decide_eq_false (show ¬ goodF (v, cs) from fun h => hv h.1)]
theorem IsFormula_in_eq {R : Type} {N : Nat} (k0 : Bool → Option R) (k1 : List (List Int) → Int → Int → Int → List (List Int) → Option R) {v : Int} (hv : 0 ≤ v ∧ v ≤ 6) {c : List Int} {x3 : List (List Int)} {x4 x5 : Int} {cs : List (List Int)} (hc : c.length ≤ 1048576) (hN : 1048577 ≤ N) :
    Zq13_l0_0 N k0 k1 N c x3 x4 x5 c (c.length : Int) 0 v cs = if clauseOk v c then k1 x3 x4 x5 v cs else k0 false := by
  refine loop_all_if (K := N) (L := fun K k => Zq13_l0_0 N k0 k1 K c x3 x4 x5 c (c.length : Int) k v cs) (m := c.length) (P := clauseOk v c) (litOk v c) Iff.rfl (fun K n hn => ?_) (fun K n hn hp => ?_) (fun K n hn hp => ?_) (by omega)
  · simp only [Zq13_l0_0, ilt_nf hn, br_f]
  · obtain ⟨h1, h2, h3, h4⟩ := hp
    simp only [Zq13_l0_0, ilt_n hn, br_t, inb_n hn, chk_t, between_eq, bind_some', wrap_ok (show -9223372036854775808 ≤ 0 - v by omega) (show 0 - v < 9223372036854775808 by omega)]
    rw [ieq_f h1, br_f, br_ite, if_neg (by simp; omega)]
    by_cases h0 : 0 < n
    · rw [ilt_0 h0, br_t, wrap_pred (by omega) h0, inb_n (by omega), chk_t, ile_f (by have := h4 h0; omega), br_f, wrap_succ (by omega)]
    · rw [ilt_0n h0, br_f, wrap_succ (by omega)]
  · simp only [Zq13_l0_0, ilt_n hn, br_t, inb_n hn, chk_t, between_eq, bind_some', wrap_ok (show -9223372036854775808 ≤ 0 - v by omega) (show 0 - v < 9223372036854775808 by omega)]
    by_cases hz : rdI c n = 0
    · rw [ieq_t hz, br_t]
    · rw [ieq_f hz, br_f, br_ite]
      by_cases h : -v ≤ rdI c n ∧ rdI c n ≤ v
      · rw [if_neg (by simp; omega)]
        have h0 : 0 < n := by
          rcases Nat.eq_zero_or_pos n with h0 | h0
          · exact absurd ⟨hz, h.1, h.2, fun h' => by omega⟩ hp
          · exact h0
        have h4 : ¬ rdI c ((n - 1 : Nat) : Int) < rdI c n := fun h' => hp ⟨hz, h.1, h.2, fun _ => h'⟩
        rw [ilt_0 h0, br_t, wrap_pred (by omega) h0, inb_n (by omega), chk_t, ile_t (by omega), br_t]
      · rw [if_pos (by simp only [Bool.not_eq_true', decide_eq_false_iff_not]; omega)]
theorem Zq13_eq {N : Nat} {f : Int × List (List Int)} (hl : f.2.length ≤ 1048576) (hc : ∀ c ∈ f.2, c.length ≤ 1048576) (hN : 1048577 ≤ N) : Zq13 N f = some ((decide (goodF f), ()), ()) := by
  obtain ⟨v, cs⟩ := f
  unfold Zq13
  rw [between_eq, bind_some', br_ite]
  by_cases hv : 0 ≤ v ∧ v ≤ 6
  · rw [if_neg (by simp [hv]), tLen_n]
    by_cases h64 : cs.length ≤ 64
    · rw [ilt_f (show ¬ (64 : Int) < cs.length by omega), br_f]
      have := loop_all_if (L := fun K i => Zq13_l0 N (fun x => some ((x, ()), ())) (fun (_ : Unit) => some ((true, ()), ())) K cs (cs.length : Int) i v cs) (m := cs.length) (P := ∀ i, i < cs.length → clauseOk v (rdL cs i)) (fun i => clauseOk v (rdL cs i)) Iff.rfl (kt := some ((true, ()), ())) (kf := some ((false, ()), ())) (fun K n hn => ?_) (fun K n hn hp => ?_) (fun K n hn hp => ?_) (show cs.length < N by omega)
      · rw [show ((0 : Nat) : Int) = 0 from rfl] at this
        rw [this]
        by_cases h : ∀ i, i < cs.length → clauseOk v (rdL cs i)
        · rw [if_pos h, decide_eq_true (show goodF (v, cs) from ⟨hv, h64, h⟩)]
        · rw [if_neg h, decide_eq_false (show ¬ goodF (v, cs) from fun h' => h h'.2.2)]
      · simp only [Zq13_l0, ilt_nf hn, br_f]
      · simp only [Zq13_l0, ilt_n hn, br_t, inb_n hn, chk_t, tLen_n]
        rw [IsFormula_in_eq _ _ hv (rdL_len hc _) hN, if_pos hp, wrap_succ (by omega)]
      · simp only [Zq13_l0, ilt_n hn, br_t, inb_n hn, chk_t, tLen_n]
        rw [IsFormula_in_eq _ _ hv (rdL_len hc _) hN, if_neg hp]
    · rw [ilt_t (show (64 : Int) < cs.length by omega), br_t, decide_eq_false (show ¬ goodF (v, cs) from fun h => h64 h.2.1)]
  · rw [if_pos (by simp only [Bool.not_eq_true', decide_eq_false_iff_not]; exact hv), decide_eq_false (show ¬ goodF (v, cs) from fun h => hv h.1)]
def risingAt (lo hi : Int) (xs : List Int) (i : Nat) : Prop := (lo ≤ rdI xs i ∧ rdI xs i ≤ hi) ∧ (0 < i → rdI xs ((i - 1 : Nat) : Int) < rdI xs i)
def rising (lo hi : Int) (xs : List Int) : Prop := ∀ i, i < xs.length → risingAt lo hi xs i
theorem l1Rising_eq {N : Nat} {lo hi : Int} {xs : List Int} (hx : xs.length ≤ 1048576) (hN : 1048577 ≤ N) : Zq68 N xs lo hi = some ((decide (rising lo hi xs), ()), ()) := by
  unfold Zq68
  have := loop_all_if (P := rising lo hi xs) (L := fun K i => Zq68_l0 N (fun x => some ((x, ()), ())) (fun (_ : Unit) => some ((true, ()), ())) K xs lo hi i) (risingAt lo hi xs) Iff.rfl (kt := some ((true, ()), ())) (kf := some ((false, ()), ())) (fun K n hn => ?_) (fun K n hn hp => ?_) (fun K n hn hp => ?_) (show xs.length < N by omega)
  · rw [show ((0 : Nat) : Int) = 0 from rfl] at this
    rw [this]
    by_cases h : rising lo hi xs <;> simp [h]
  · simp only [Zq68_l0, ilt_lenf hn, br_f]
  · simp only [Zq68_l0, ilt_len hn, br_t, inb_n hn, chk_t, l1In_eq, bind_some']
    obtain ⟨h1, h2⟩ := hp
    rw [decide_eq_true h1, Bool.not_true, br_f]
    by_cases h0 : 0 < n
    · rw [ilt_0 h0, br_t, wrap_pred (by omega) h0, inb_n (by omega), chk_t, ile_f (by have := h2 h0; omega), br_f, wrap_succ (by omega)]
    · rw [ilt_0n h0, br_f, wrap_succ (by omega)]
  · simp only [Zq68_l0, ilt_len hn, br_t, inb_n hn, chk_t, l1In_eq, bind_some']
    by_cases h1 : lo ≤ rdI xs n ∧ rdI xs n ≤ hi
    · rw [decide_eq_true h1, Bool.not_true, br_f]
      have h0 : 0 < n := by
        rcases Nat.eq_zero_or_pos n with h0 | h0
        · exact absurd ⟨h1, fun h' => by omega⟩ hp
        · exact h0
      have h4 : ¬ rdI xs ((n - 1 : Nat) : Int) < rdI xs n := fun h' => hp ⟨h1, fun _ => h'⟩
      rw [ilt_0 h0, br_t, wrap_pred (by omega) h0, inb_n (by omega), chk_t, ile_t (by omega), br_t]
    · rw [decide_eq_false h1, Bool.not_false, br_t]
theorem isRising_eq {N : Nat} {m : Int} {xs : List Int} (hx : xs.length ≤ 1048576) (hm : 0 ≤ m ∧ m ≤ 4611686018427387904) (hN : 1048577 ≤ N) : Zq26 N xs m = some ((decide (rising 0 (m - 1) xs), ()), ()) := by
  unfold Zq26
  have := loop_all_if (P := rising 0 (m - 1) xs) (L := fun K i => Zq26_l0 N (fun x => some ((x, ()), ())) (fun (_ : Unit) => some ((true, ()), ())) K xs m xs (xs.length : Int) i) (risingAt 0 (m - 1) xs) Iff.rfl (kt := some ((true, ()), ())) (kf := some ((false, ()), ())) (fun K n hn => ?_) (fun K n hn hp => ?_) (fun K n hn hp => ?_) (show xs.length < N by omega)
  · rw [show ((0 : Nat) : Int) = 0 from rfl] at this
    rw [tLen_n, this]
    by_cases h : rising 0 (m - 1) xs <;> simp [h]
  · simp only [Zq26_l0, ilt_nf hn, br_f]
  · simp only [Zq26_l0, ilt_n hn, br_t, inb_n hn, chk_t, between_eq, bind_some', wrap_ok (show -9223372036854775808 ≤ m - 1 by omega) (show m - 1 < 9223372036854775808 by omega)]
    obtain ⟨h1, h2⟩ := hp
    rw [decide_eq_true h1, Bool.not_true, br_f]
    by_cases h0 : 0 < n
    · rw [ilt_0 h0, br_t, wrap_pred (by omega) h0, inb_n (by omega), chk_t, ile_f (by have := h2 h0; omega), br_f, wrap_succ (by omega)]
    · rw [ilt_0n h0, br_f, wrap_succ (by omega)]
  · simp only [Zq26_l0, ilt_n hn, br_t, inb_n hn, chk_t, between_eq, bind_some', wrap_ok (show -9223372036854775808 ≤ m - 1 by omega) (show m - 1 < 9223372036854775808 by omega)]
    by_cases h1 : 0 ≤ rdI xs n ∧ rdI xs n ≤ m - 1
    · rw [decide_eq_true h1, Bool.not_true, br_f]
      have h0 : 0 < n := by
        rcases Nat.eq_zero_or_pos n with h0 | h0
        · exact absurd ⟨h1, fun h' => by omega⟩ hp
        · exact h0
      have h4 : ¬ rdI xs ((n - 1 : Nat) : Int) < rdI xs n := fun h' => hp ⟨h1, fun _ => h'⟩
      rw [ilt_0 h0, br_t, wrap_pred (by omega) h0, inb_n (by omega), chk_t, ile_t (by omega), br_t]
    · rw [decide_eq_false h1, Bool.not_false, br_t]
def cntI (c : List Int) : Int := c.foldl (fun u x => if 0 < x then u + 1 else u) 0
theorem ClassOf_in_eq {R : Type} {N : Nat} (k0 : Bool → Bool → Bool → List Int → Int → List (List Int) → Int → Int → Option R) {a b c : Bool} {cl : List Int} {x3 : List (List Int)} {x4 x5 : Int} (hc : cl.length ≤ 1048576) (hN : 1048577 ≤ N) :
    Zq2_l0_0 N k0 N a b c cl 0 x3 x4 x5 cl (cl.length : Int) 0 = k0 a b c cl (cntI cl) x3 x4 x5 ∧ 0 ≤ cntI cl ∧ cntI cl ≤ (cl.length : Int) := by
  refine loop_list (xs := cl) (L := fun K n up => Zq2_l0_0 N k0 K a b c cl up x3 x4 x5 cl (cl.length : Int) n) (k := fun up => k0 a b c cl up x3 x4 x5) (fun (u : Int) x => if 0 < x then u + 1 else u) (fun n up => 0 ≤ up ∧ up ≤ (n : Int)) (fun K n s hn _ => ?_) (fun K n s hn h => ?_) (fun n s hn h => ?_) (by omega) ⟨by omega, by omega⟩
  · simp only [Zq2_l0_0, ilt_nf hn, br_f]
  · simp only [Zq2_l0_0, ilt_n hn, br_t, inb_n hn, chk_t]
    rw [wrap_succ (by omega), wrap_ok (by omega) (by omega), rdI_n hn, br_ite, ilt_d]
    by_cases h : 0 < cl[n] <;> simp [h]
  · by_cases h : 0 < cl[n] <;> simp only [h, if_true, if_false] <;> omega
def classF (t : Bool × Bool × Bool) (c : List Int) : Bool × Bool × Bool := (t.1 && decide ((c.length : Int) ≤ 2), t.2.1 && decide (cntI c ≤ 1), t.2.2 && decide ((c.length : Int) - cntI c ≤ 1))
theorem l1Most_eq (N : Nat) (a b : Int) : Zq65 N a b = some ((if b < a then a else b, ()), ()) := by
  unfold Zq65
  rw [br_ite, ilt_d]
  by_cases h : b < a <;> simp [h]
theorem Zq2_l0_eq {N : Nat} {cs : List (List Int)} (hl : cs.length ≤ 1048576) (hc : ∀ c ∈ cs, c.length ≤ 1048576) (hN : 1048577 ≤ N) :
    Zq2_l0 N (fun two horn dual => some ((two, horn, dual, true, ()), ())) N true true true cs (cs.length : Int) 0 = some (((cs.foldl classF (true, true, true)).1, (cs.foldl classF (true, true, true)).2.1, (cs.foldl classF (true, true, true)).2.2, true, ()), ()) := by
  refine (loop_list (xs := cs) (L := fun K i (s : Bool × Bool × Bool) => Zq2_l0 N (fun two horn dual => some ((two, horn, dual, true, ()), ())) K s.1 s.2.1 s.2.2 cs (cs.length : Int) i) (k := fun s => some ((s.1, s.2.1, s.2.2, true, ()), ())) classF (fun _ _ => True) (fun K n s hn _ => ?_) (fun K n s hn _ => ?_) (fun n s hn h => trivial) (s := (true, true, true)) (K := N) (by omega) trivial).1
  · simp only [Zq2_l0, ilt_nf hn, br_f]
  · simp only [Zq2_l0, ilt_n hn, br_t, inb_n hn, chk_t, tLen_n (rdL cs n)]
    have hb := rdL_len hc n
    obtain ⟨e, h1, h2⟩ := ClassOf_in_eq (fun two1 horn1 dual1 clause above x3 x4 x5 => (br two1
        ((br horn1
          ((br dual1
            (Zq2_l0 N (fun two horn dual => some ((two, horn, dual, true, ()), ())) K (ile (tLen clause) 2) (ile above 1) (ile (IntKind.i64.wrap ((tLen clause) - above)) 1) x3 x4 (IntKind.i64.wrap (x5 + 1)))
            (Zq2_l0 N (fun two horn dual => some ((two, horn, dual, true, ()), ())) K (ile (tLen clause) 2) (ile above 1) false x3 x4 (IntKind.i64.wrap (x5 + 1)))))
          ((br dual1
            (Zq2_l0 N (fun two horn dual => some ((two, horn, dual, true, ()), ())) K (ile (tLen clause) 2) false (ile (IntKind.i64.wrap ((tLen clause) - above)) 1) x3 x4 (IntKind.i64.wrap (x5 + 1)))
            (Zq2_l0 N (fun two horn dual => some ((two, horn, dual, true, ()), ())) K (ile (tLen clause) 2) false false x3 x4 (IntKind.i64.wrap (x5 + 1)))))))
        ((br horn1
          ((br dual1
            (Zq2_l0 N (fun two horn dual => some ((two, horn, dual, true, ()), ())) K false (ile above 1) (ile (IntKind.i64.wrap ((tLen clause) - above)) 1) x3 x4 (IntKind.i64.wrap (x5 + 1)))
            (Zq2_l0 N (fun two horn dual => some ((two, horn, dual, true, ()), ())) K false (ile above 1) false x3 x4 (IntKind.i64.wrap (x5 + 1)))))
          ((br dual1
            (Zq2_l0 N (fun two horn dual => some ((two, horn, dual, true, ()), ())) K false false (ile (IntKind.i64.wrap ((tLen clause) - above)) 1) x3 x4 (IntKind.i64.wrap (x5 + 1)))
            (Zq2_l0 N (fun two horn dual => some ((two, horn, dual, true, ()), ())) K false false false x3 x4 (IntKind.i64.wrap (x5 + 1))))))))) (a := s.1) (b := s.2.1) (c := s.2.2) (cl := rdL cs n) (x3 := cs) (x4 := (cs.length : Int)) (x5 := (n : Int)) hb hN
    refine e.trans ?_
    simp only [tLen_n, wrap_ok (show -9223372036854775808 ≤ ((rdL cs n).length : Int) - cntI (rdL cs n) by omega) (show ((rdL cs n).length : Int) - cntI (rdL cs n) < 9223372036854775808 by omega), ile_d]
    rw [wrap_succ (by omega), rdL_n hn]
    obtain ⟨a, b, c⟩ := s
    cases a <;> cases b <;> cases c <;> simp only [br_t, br_f, classF, Bool.true_and, Bool.false_and]
def meets (bits : List Int) (x : Int) : Bool := if 0 < x then decide (rdI bits (x - 1) = 1) else decide (rdI bits (-1 - x) = 0)
def solves (bits : List Int) (cs : List (List Int)) : Prop := ∀ c ∈ cs, c.any (meets bits) = true
def litsOk (v : Int) (cs : List (List Int)) : Prop := ∀ c ∈ cs, ∀ x ∈ c, x ≠ 0 ∧ -v ≤ x ∧ x ≤ v
theorem goodF_lits {f : Int × List (List Int)} (h : goodF f) : litsOk f.1 f.2 := by
  obtain ⟨_, _, h3⟩ := h
  have h4 : ∀ c ∈ f.2, clauseOk f.1 c := all_rdL.2 h3
  intro c hc
  exact all_rdI.2 fun i hi => by
    obtain ⟨a, b, c, _⟩ := h4 c hc i hi
    exact ⟨a, b, c⟩
theorem l6Meets_eq (N : Nat) {bits : List Int} {x : Int} (hl : bits.length ≤ 1048576) (h : x ≠ 0 ∧ -(bits.length : Int) ≤ x ∧ x ≤ (bits.length : Int)) : Zq78 N bits x = some ((meets bits x, ()), ()) := by
  unfold Zq78 meets
  by_cases h0 : 0 < x
  · rw [ilt_t h0, br_t, wrap_ok (by omega) (by omega), inb_i (by omega) (by omega), chk_t, ieq_d, if_pos h0]
  · rw [ilt_f h0, br_f, wrap_ok (show -9223372036854775808 ≤ 0 - x by omega) (by omega), wrap_ok (by omega) (by omega), inb_i (by omega) (by omega), chk_t, ieq_d, if_neg h0, show 0 - x - 1 = -1 - x by omega]
theorem Zq27_eq (N : Nat) {bits : List Int} {x : Int} (hl : bits.length ≤ 1048576) (h : x ≠ 0 ∧ -(bits.length : Int) ≤ x ∧ x ≤ (bits.length : Int)) : Zq27 N bits x = some ((meets bits x, ()), ()) := by
  unfold Zq27 meets
  by_cases h0 : 0 < x
  · rw [ilt_t h0, br_t, wrap_ok (by omega) (by omega), inb_i (by omega) (by omega), chk_t, ieq_d, if_pos h0]
  · rw [ilt_f h0, br_f, wrap_ok (by omega) (by omega), inb_i (by omega) (by omega), chk_t, ieq_d, if_neg h0]
theorem foldl_or {α : Type} (g : α → Bool) : ∀ (xs : List α) (b : Bool), xs.foldl (fun m x => m || g x) b = (b || xs.any g) := by
  intro xs
  induction xs with
  | nil => intro b; simp
  | cons x xs ih => intro b; rw [List.foldl_cons, ih, List.any_cons, Bool.or_assoc]
theorem l6Solves_in_eq {R : Type} {N : Nat} (k0 : List Int → Int → Bool → Int → List (List Int) → Option R) {bits : List Int} {i : Nat} {v : Int} {cs : List (List Int)} (hi : i < cs.length) (hc : (rdL cs i).length ≤ 1048576) (hb : bits.length ≤ 1048576) (hx : ∀ x ∈ rdL cs i, x ≠ 0 ∧ -(bits.length : Int) ≤ x ∧ x ≤ (bits.length : Int)) (hN : 1048577 ≤ N) :
    Zq81_l0_0 N k0 N bits i false 0 v cs = k0 bits i ((rdL cs i).any (meets bits)) v cs := by
  refine (loop_list (xs := rdL cs i) (L := fun K n met => Zq81_l0_0 N k0 K bits i met n v cs) (k := fun met => k0 bits i met v cs) (fun m x => m || meets bits x) (fun _ _ => True) (fun K n s hn _ => ?_) (fun K n s hn _ => ?_) (fun n s hn h => trivial) (s := false) (K := N) (by omega) trivial).1.trans ?_
  · simp only [Zq81_l0_0, inb_n hi, chk_t, ilt_lenf hn, br_f]
  · simp only [Zq81_l0_0, inb_n hi, chk_t, ilt_len hn, br_t, inb_n hn]
    have hm := hx _ (List.getElem_mem hn)
    rw [rdI_n hn, l6Meets_eq N hb hm, bind_some', wrap_succ (by omega)]
    cases s
    · rw [br_f, Bool.false_or]
    · rw [br_t, Bool.true_or]
  · rw [foldl_or, Bool.false_or]
theorem l6Solves_eq {N : Nat} {bits : List Int} {f : Int × List (List Int)} (hl : f.2.length ≤ 1048576) (hc : ∀ c ∈ f.2, c.length ≤ 1048576) (hb : bits.length ≤ 1048576) (hx : litsOk (bits.length : Int) f.2) (hN : 1048577 ≤ N) : Zq81 N f bits = some ((decide (solves bits f.2), ()), ()) := by
  obtain ⟨v, cs⟩ := f
  simp only at hl hc hx
  unfold Zq81
  have := loop_all_if (P := solves bits cs) (m := cs.length) (L := fun K i => Zq81_l0 N (fun x => some ((x, ()), ())) (fun (_ : Unit) => some ((true, ()), ())) K bits i v cs) (fun i => (rdL cs i).any (meets bits) = true) all_rdL (kt := some ((true, ()), ())) (kf := some ((false, ()), ())) (fun K n hn => ?_) (fun K n hn hp => ?_) (fun K n hn hp => ?_) (show cs.length < N by omega)
  · rw [show ((0 : Nat) : Int) = 0 from rfl] at this
    rw [this]
    by_cases h : solves bits cs <;> simp [h]
  · simp only [Zq81_l0, ilt_lenf hn, br_f]
  · simp only [Zq81_l0, ilt_len hn, br_t]
    rw [l6Solves_in_eq _ hn (rdL_len hc n) hb (by rw [rdL_n hn]; exact hx _ (List.getElem_mem hn)) hN, hp, Bool.not_true, br_f, wrap_succ (by omega)]
  · simp only [Zq81_l0, ilt_len hn, br_t]
    rw [l6Solves_in_eq _ hn (rdL_len hc n) hb (by rw [rdL_n hn]; exact hx _ (List.getElem_mem hn)) hN, Bool.eq_false_iff.2 hp, Bool.not_false, br_t]
theorem impl_solves_eq {N : Nat} {bits : List Int} {f : Int × List (List Int)} (hl : f.2.length ≤ 1048576) (hc : ∀ c ∈ f.2, c.length ≤ 1048576) (hb : bits.length ≤ 1048576) (hx : litsOk (bits.length : Int) f.2) (hN : 1048577 ≤ N) : Zq9 N f bits = some ((decide (solves bits f.2), ()), ()) := by
  obtain ⟨v, cs⟩ := f
  simp only at hl hc hx
  unfold Zq9
  rw [ContainsFunc_LLI_LI_eq (g := fun c => !(c.any (meets bits))) (fun c h => by
    have hcl := hc c h
    simp only [Zq10]
    rw [ContainsFunc_LI_int_eq (g := meets bits) (fun x hxc => by simp only [Zq11, Zq27_eq N hb (hx c h x hxc), bind_some']) (by omega) (by omega)]
    rfl) (show cs.length ≤ 1099511627776 by omega) (show cs.length < N by omega), bind_some', not_any]
  congr 3
  refine decide_eq_decide.2 ⟨fun h c hc => by simpa using h c hc, fun h c hc => by have := h c hc; simpa using this⟩
theorem foldl_snoc {α : Type} : ∀ (xs o : List α), xs.foldl (fun o x => o ++ [x]) o = o ++ xs := by
  intro xs
  induction xs with
  | nil => intro o; simp
  | cons x xs ih => intro o; rw [List.foldl_cons, ih]; simp
theorem l1Own_eq {N : Nat} {xs : List Int} (h : xs.length ≤ 1048576) : Zq66 N xs = some ((xs, ()), ()) := by
  unfold Zq66
  rw [room_ok (by simp; omega), chk_t]
  rfl
theorem Clone_eq {N : Nat} {xs : List Int} (h : xs.length ≤ 1048576) : Zq37 N xs = some ((xs, ()), ()) := by
  unfold Zq37
  rw [room_ok (by simp; omega), chk_t, br_ite, ieq_d, tLen_n]
  by_cases h0 : xs = []
  · subst h0
    simp only [tApp_d, List.append_nil, amb_same]
    simp
  · rw [if_neg (by simpa using h0)]
    rfl
theorem copyLists_eq {N : Nat} {xs : List (List Int)} (h : xs.length ≤ 1048576) (hs : ∀ x ∈ xs, x.length ≤ 1048576) (hN : 1048577 ≤ N) : Zq19 N xs = some ((xs, ()), ()) := by
  unfold Zq19
  refine (loop_list (xs := xs) (L := fun K n o => Zq19_l0 N (fun o => some ((o, ()), ())) K xs (xs.length : Int) n o) (k := fun o => some ((o, ()), ())) (fun o x => o ++ [x]) (fun n o => o.length = n) (fun K n s hn _ => ?_) (fun K n s hn hs' => ?_) (fun n s hn h => ?_) (s := []) (K := N) (by omega) rfl).1.trans ?_
  · simp only [Zq19_l0, ilt_nf hn, br_f]
  · simp only [Zq19_l0, ilt_n hn, br_t, inb_n hn, chk_t]
    rw [rdL_n hn, Clone_eq (hs _ (List.getElem_mem hn)), bind_some', room_ok (by simp; omega), chk_t, wrap_succ (by omega)]
    rfl
  · simp; omega
  · rw [foldl_snoc, List.nil_append]
def fixOk (f : Int × List (List Int)) (v bit : Int) : Prop := goodF f ∧ (0 ≤ v ∧ v ≤ f.1 - 1) ∧ (0 ≤ bit ∧ bit ≤ 1) ∧ f.2.length ≠ 64
noncomputable def fixR (f : Int × List (List Int)) (v bit : Int) : (Int × List (List Int)) × Bool := if fixOk f v bit then ((f.1, f.2 ++ [[if bit = 1 then v + 1 else -1 - v]]), true) else ((0, []), false)
theorem Zq52_eq {N : Nat} {f : Int × List (List Int)} {v bit : Int} (hl : f.2.length ≤ 1048576) (hc : ∀ c ∈ f.2, c.length ≤ 1048576) (hN : 1048577 ≤ N) : Zq52 N f v bit = some (((fixR f v bit).1, (fixR f v bit).2, ()), ()) := by
  obtain ⟨m, cs⟩ := f
  simp only at hl hc
  unfold Zq52 fixR
  simp only [Zq75_eq (f := (m, cs)) hl hc hN, bind_some']
  by_cases hg : goodF (m, cs)
  · have hm := hg.1
    simp only at hm
    rw [decide_eq_true hg, Bool.not_true, br_f, wrap_ok (by omega) (by omega)]
    simp only [l1In_eq, bind_some', tLen_n]
    by_cases hv : 0 ≤ v ∧ v ≤ m - 1
    · rw [decide_eq_true hv, Bool.not_true, br_f]
      by_cases hb : 0 ≤ bit ∧ bit ≤ 1
      · rw [decide_eq_true hb, Bool.not_true, br_f]
        by_cases h64 : cs.length = 64
        · rw [ieq_t (by omega), br_t, if_neg (fun h : fixOk (m, cs) v bit => h.2.2.2 h64)]
        · rw [ieq_f (by omega), br_f, if_pos (show fixOk (m, cs) v bit from ⟨hg, hv, hb, h64⟩)]
          refine (loop_list (xs := cs) (L := fun K n o => Zq52_l0 N (fun x x1 o o1 o2 => (br (ieq x1 1)
                  ((chk (room o2 [[(IntKind.i64.wrap (x + 1))]])
                    (some (((o1, (tApp o2 [[(IntKind.i64.wrap (x + 1))]])), true, ()), ()))))
                  ((chk (room o2 [[(IntKind.i64.wrap ((-1) - x))]])
                    (some (((o1, (tApp o2 [[(IntKind.i64.wrap ((-1) - x))]])), true, ()), ())))))) K v bit n m cs 0 m o) (k := fun o => some (((m, o ++ [[if bit = 1 then v + 1 else -1 - v]]), true, ()), ())) (fun o x => o ++ [x]) (fun n o => o.length = n ∧ n ≤ cs.length) (fun K n s hn hs => ?_) (fun K n s hn hs' => ?_) (fun n s hn h => ?_) (s := []) (K := N) (by omega) ⟨rfl, Nat.zero_le _⟩).1.trans ?_
          · simp only [Zq52_l0, ilt_lenf hn, br_f]
            rw [wrap_ok (show -9223372036854775808 ≤ v + 1 by omega) (by omega), wrap_ok (show -9223372036854775808 ≤ -1 - v by omega) (by omega), br_ite, ieq_d]
            by_cases hb1 : bit = 1
            · rw [if_pos (decide_eq_true hb1), if_pos hb1, room_ok (by simp; omega), chk_t]
              rfl
            · rw [if_neg (by simpa using hb1), if_neg hb1, room_ok (by simp; omega), chk_t]
              rfl
          · simp only [Zq52_l0, ilt_len hn, br_t, inb_n hn, chk_t]
            rw [rdL_n hn, l1Own_eq (hc _ (List.getElem_mem hn)), bind_some', room_ok (by simp; omega), chk_t, wrap_succ (by omega)]
            rfl
          · simp; omega
          · simp only [foldl_snoc, List.nil_append]
      · rw [decide_eq_false hb, Bool.not_false, br_t, if_neg (fun h : fixOk (m, cs) v bit => hb h.2.2.1)]
    · rw [decide_eq_false hv, Bool.not_false, br_t, if_neg (fun h : fixOk (m, cs) v bit => hv h.2.1)]
  · rw [decide_eq_false hg, Bool.not_false, br_t, if_neg (fun h : fixOk (m, cs) v bit => hg h.1)]
theorem Zq3_eq {N : Nat} {f : Int × List (List Int)} {v bit : Int} (hl : f.2.length ≤ 1048576) (hc : ∀ c ∈ f.2, c.length ≤ 1048576) (hN : 1048577 ≤ N) : Zq3 N f v bit = some (((fixR f v bit).1, (fixR f v bit).2, ()), ()) := by
  obtain ⟨m, cs⟩ := f
  simp only at hl hc
  unfold Zq3 fixR
  simp only [Zq13_eq (f := (m, cs)) hl hc hN, bind_some']
  by_cases hg : goodF (m, cs)
  · have hm := hg.1
    simp only at hm
    rw [decide_eq_true hg, Bool.not_true, br_f, wrap_ok (by omega) (by omega)]
    simp only [between_eq, bind_some', tLen_n]
    by_cases hv : 0 ≤ v ∧ v ≤ m - 1
    · rw [decide_eq_true hv, Bool.not_true, br_f]
      by_cases hb : 0 ≤ bit ∧ bit ≤ 1
      · rw [decide_eq_true hb, Bool.not_true, br_f]
        by_cases h64 : cs.length = 64
        · rw [ieq_t (by omega), br_t, if_neg (fun h : fixOk (m, cs) v bit => h.2.2.2 h64)]
        · rw [ieq_f (by omega), br_f, if_pos (show fixOk (m, cs) v bit from ⟨hg, hv, hb, h64⟩)]
          simp only [copyLists_eq hl hc hN, bind_some']
          rw [wrap_ok (show -9223372036854775808 ≤ v + 1 by omega) (by omega), wrap_ok (show -9223372036854775808 ≤ 0 - (v + 1) by omega) (by omega), br_ite, ieq_d, room_ok (by simp; omega), room_ok (by simp; omega), chk_t, chk_t]
          by_cases hb1 : bit = 1
          · rw [if_neg (by simp; omega), if_pos hb1]
            rfl
          · rw [if_pos (decide_eq_true (by omega)), if_neg hb1, show 0 - (v + 1) = -1 - v by omega]
            rfl
      · rw [decide_eq_false hb, Bool.not_false, br_t, if_neg (fun h : fixOk (m, cs) v bit => hb h.2.2.1)]
    · rw [decide_eq_false hv, Bool.not_false, br_t, if_neg (fun h : fixOk (m, cs) v bit => hv h.2.1)]
  · rw [decide_eq_false hg, Bool.not_false, br_t, if_neg (fun h : fixOk (m, cs) v bit => hg h.1)]
theorem fixR_small {f : Int × List (List Int)} {v bit : Int} (hc : ∀ c ∈ f.2, c.length ≤ 1048576) : (fixR f v bit).1.2.length ≤ 65 ∧ ∀ c ∈ (fixR f v bit).1.2, c.length ≤ 1048576 := by
  unfold fixR
  by_cases h : fixOk f v bit
  · rw [if_pos h]
    have := h.1.2.1
    refine ⟨by simp; omega, fun c h' => ?_⟩
    rcases List.mem_append.1 h' with h' | h'
    · exact hc c h'
    · simp at h'
      rw [h']
      exact Nat.succ_le_succ (Nat.zero_le _)
  · rw [if_neg h]
    exact ⟨by simp, by simp⟩
theorem l1Has_eq {N : Nat} {xs : List Int} {v : Int} (hx : xs.length ≤ 1048576) (hN : 1048577 ≤ N) : Zq62 N xs v = some ((decide (v ∈ xs), ()), ()) := by
  unfold Zq62
  have := loop_all_if (P := ∀ x ∈ xs, x ≠ v) (L := fun K i => Zq62_l0 N (fun x => some ((x, ()), ())) (fun (_ : Unit) => some ((false, ()), ())) K xs v i) (fun i => rdI xs i ≠ v) all_rdI (kt := some ((false, ()), ())) (kf := some ((true, ()), ())) (fun K n hn => ?_) (fun K n hn hp => ?_) (fun K n hn hp => ?_) (show xs.length < N by omega)
  · rw [show ((0 : Nat) : Int) = 0 from rfl] at this
    rw [this]
    by_cases h : v ∈ xs
    · rw [if_neg (fun h' => h' v h rfl), decide_eq_true h]
    · rw [if_pos (fun x hx (h' : x = v) => h (h' ▸ hx)), decide_eq_false h]
  · simp only [Zq62_l0, ilt_lenf hn, br_f]
  · simp only [Zq62_l0, ilt_len hn, br_t, inb_n hn, chk_t]
    rw [ieq_f hp, br_f, wrap_succ (by omega)]
  · simp only [Zq62_l0, ilt_len hn, br_t, inb_n hn, chk_t]
    rw [ieq_t (Decidable.not_not.1 hp), br_t]
theorem Contains_eq {N : Nat} {xs : List Int} {v : Int} (hx : xs.length ≤ 1048576) (hN : 1048577 ≤ N) : Zq41 N xs v = some ((decide (v ∈ xs), ()), ()) := by
  have go : ∀ (d n : Nat) (K : Nat), n + d = xs.length → d < K → ∃ i : Int, Zq45_l0 N (fun x => some ((x, ()), ())) (fun (_ : Unit) => some ((-1, ()), ())) K xs v (xs.length : Int) n = some ((i, ()), ()) ∧ decide (0 ≤ i) = decide (v ∈ xs.drop n) := by
    intro d
    induction d with
    | zero =>
      intro n K hd hK
      obtain ⟨k, rfl⟩ := succ_of hK
      have hn : ¬ n < xs.length := by omega
      simp only [Zq45_l0, ilt_nf hn, br_f]
      rw [List.drop_of_length_le (by omega)]
      exact ⟨-1, rfl, rfl⟩
    | succ d ih =>
      intro n K hd hK
      obtain ⟨k, rfl⟩ := succ_of hK
      have hn : n < xs.length := by omega
      simp only [Zq45_l0, ilt_n hn, br_t, inb_n hn, chk_t]
      obtain ⟨y, r, e1, e2, e3⟩ := drop_split hn
      rw [rdI_n hn, e1, e2]
      by_cases h : v = y
      · rw [ieq_t h, br_t]
        exact ⟨_, rfl, by simp [h]⟩
      · rw [ieq_f h, br_f, wrap_succ (by omega)]
        obtain ⟨i, h1, h2⟩ := ih (n + 1) k (by omega) (by omega)
        refine ⟨i, h1, ?_⟩
        rw [h2, e3]
        simp [h]
  unfold Zq41 Zq45
  obtain ⟨i, h1, h2⟩ := go xs.length 0 N (by omega) (by omega)
  simp only [Int.natCast_zero, List.drop_zero] at h1 h2
  rw [tLen_n, h1, bind_some', ile_d, h2]
theorem compare_eq (N : Nat) (x y : Int) : Zq0 N x y = some ((if x < y then -1 else if y < x then 1 else 0, ()), ()) := by
  unfold Zq0 Zq1
  simp only [bind_some', ine_f (rfl : x = x), ine_f (rfl : y = y), br_f]
  by_cases h1 : x < y
  · rw [ilt_t h1, br_t, if_pos h1]
  · rw [ilt_f h1, br_f, if_neg h1]
    by_cases h2 : y < x
    · rw [ilt_t h2, br_t, if_pos h2]
    · rw [ilt_f h2, br_f, if_neg h2]
def insI (x : Int) : List Int → List Int
  | [] => [x]
  | y :: p => if y ≤ x then y :: insI x p else x :: y :: p
def sortI (xs : List Int) : List Int := xs.foldl (fun p x => insI x p) []
def asc (xs : List Int) : Prop := xs.Pairwise (· ≤ ·)
theorem insI_len (x : Int) : ∀ p : List Int, (insI x p).length = p.length + 1 := by
  intro p
  induction p with
  | nil => rfl
  | cons y p ih =>
    unfold insI
    by_cases h : y ≤ x
    · rw [if_pos h, List.length_cons, ih, List.length_cons]
    · rw [if_neg h, List.length_cons, List.length_cons]
theorem insI_mem (x z : Int) : ∀ p : List Int, z ∈ insI x p ↔ z = x ∨ z ∈ p := by
  intro p
  induction p with
  | nil => simp [insI]
  | cons y p ih =>
    unfold insI
    by_cases h : y ≤ x
    · rw [if_pos h, List.mem_cons, ih, List.mem_cons]
      constructor
      · rintro (h | h | h)
        · exact .inr (.inl h)
        · exact .inl h
        · exact .inr (.inr h)
      · rintro (h | h | h)
        · exact .inr (.inl h)
        · exact .inl h
        · exact .inr (.inr h)
    · rw [if_neg h, List.mem_cons]
theorem insI_asc {x : Int} : ∀ {p : List Int}, asc p → asc (insI x p) := by
  intro p
  induction p with
  | nil => intro _; exact List.pairwise_singleton ..
  | cons y p ih =>
    intro h
    obtain ⟨h1, h2⟩ := List.pairwise_cons.1 h
    unfold insI
    by_cases hy : y ≤ x
    · rw [if_pos hy]
      refine List.pairwise_cons.2 ⟨fun z hz => ?_, ih h2⟩
      rcases (insI_mem x z p).1 hz with rfl | hz
      · exact hy
      · exact h1 z hz
    · rw [if_neg hy]
      refine List.pairwise_cons.2 ⟨fun z hz => ?_, h⟩
      rcases List.mem_cons.1 hz with rfl | hz
      · omega
      · have := h1 z hz
        omega
theorem sortI_len_asc (xs : List Int) : (sortI xs).length = xs.length ∧ asc (sortI xs) := by
  have go : ∀ (xs p : List Int), asc p → (xs.foldl (fun p x => insI x p) p).length = p.length + xs.length ∧ asc (xs.foldl (fun p x => insI x p) p) := by
    intro xs
    induction xs with
    | nil => intro p hp; exact ⟨rfl, hp⟩
    | cons x xs ih =>
      intro p hp
      obtain ⟨h1, h2⟩ := ih (insI x p) (insI_asc hp)
      refine ⟨?_, h2⟩
      rw [List.foldl_cons, h1, insI_len, List.length_cons]
      omega
  have := go xs [] List.Pairwise.nil
  unfold sortI
  simpa using this
theorem rdI_mid (q s : List Int) (x : Int) : rdI (q ++ x :: s) ((q.length : Nat) : Int) = x := by simp [rdI]
theorem tSet_mid (q s : List Int) (x v : Int) : tSet (q ++ x :: s) ((q.length : Nat) : Int) v = q ++ v :: s := by simp [tSet]
theorem asc_perm : ∀ {a b : List Int}, asc a → asc b → a.Perm b → a = b := by
  intro a
  induction a with
  | nil => intro b _ _ hp; exact (List.nil_perm.1 hp).symm
  | cons x a ih =>
    intro b ha hb hp
    cases b with
    | nil => exact absurd (List.perm_nil.1 hp) (by simp)
    | cons y b =>
      obtain ⟨a1, a2⟩ := List.pairwise_cons.1 ha
      obtain ⟨b1, b2⟩ := List.pairwise_cons.1 hb
      have e : x = y := by
        have h1 : x ∈ y :: b := hp.mem_iff.1 (List.mem_cons_self ..)
        have h2 : y ∈ x :: a := hp.mem_iff.2 (List.mem_cons_self ..)
        rcases List.mem_cons.1 h1 with h1 | h1
        · exact h1
        · rcases List.mem_cons.1 h2 with h2 | h2
          · exact h2.symm
          · have := a1 y h2
            have := b1 x h1
            omega
      subst e
      rw [ih a2 b2 (List.Perm.cons_inv hp)]
theorem insI_perm (x : Int) : ∀ p : List Int, (insI x p).Perm (x :: p) := by
  intro p
  induction p with
  | nil => exact List.Perm.refl _
  | cons y p ih =>
    unfold insI
    by_cases h : y ≤ x
    · rw [if_pos h]
      exact (List.Perm.cons y ih).trans (List.Perm.swap ..)
    · rw [if_neg h]
theorem sortI_perm (xs : List Int) : (sortI xs).Perm xs := by
  have go : ∀ (xs q : List Int), (xs.foldl (fun p x => insI x p) q).Perm (xs ++ q) := by
    intro xs
    induction xs with
    | nil => intro q; exact List.Perm.refl _
    | cons x xs ih =>
      intro q
      refine (ih (insI x q)).trans ?_
      exact ((insI_perm x q).append_left xs).trans List.perm_middle
  have := go xs []
  rw [List.append_nil] at this
  exact this
theorem mergeI_asc (xs : List Int) : asc (mergeI xs) := by
  have := List.pairwise_mergeSort (le := fun x y : Int => decide (x ≤ y)) (fun a b c h1 h2 => by simp at *; omega) (fun a b => by simp; omega) xs
  exact this.imp fun h => by simpa using h
theorem mergeI_perm (xs : List Int) : (mergeI xs).Perm xs := List.mergeSort_perm ..
theorem mergeI_sortI (xs : List Int) : mergeI xs = sortI xs := asc_perm (mergeI_asc xs) (sortI_len_asc xs).2 ((mergeI_perm xs).trans (sortI_perm xs).symm)
theorem Sort_any {N : Nat} {xs : List Int} (hx : xs.length < 4611686018427387904) : Zq47 N xs = some ((), (mergeI xs, ())) := by
  unfold Zq47 sortIF
  rw [if_pos hx]
theorem Sort_eq {N : Nat} {xs : List Int} (hx : xs.length ≤ 12) (hN : 1048577 ≤ N) : Zq47 N xs = some ((), (sortI xs, ())) := by
  rw [Sort_any (by omega), mergeI_sortI]
def allB (m : Nat) : List (List Int) := (List.range (2 ^ m)).map fun n => (List.range m).map fun v => ((n / 2 ^ (m - 1 - v) % 2 : Nat) : Int)
theorem allB_spec0 : Zq71 1048577 ((0 : Nat) : Int) = some ((allB 0, ()), ()) := by kernel_rfl
theorem allB_spec1 : Zq71 1048577 ((1 : Nat) : Int) = some ((allB 1, ()), ()) := by kernel_rfl
theorem allB_spec2 : Zq71 1048577 ((2 : Nat) : Int) = some ((allB 2, ()), ()) := by kernel_rfl
theorem allB_spec3 : Zq71 1048577 ((3 : Nat) : Int) = some ((allB 3, ()), ()) := by kernel_rfl
theorem allB_spec4 : Zq71 1048577 ((4 : Nat) : Int) = some ((allB 4, ()), ()) := by kernel_rfl
theorem allB_spec5 : Zq71 1048577 ((5 : Nat) : Int) = some ((allB 5, ()), ()) := by kernel_rfl
theorem allB_spec6 : Zq71 1048577 ((6 : Nat) : Int) = some ((allB 6, ()), ()) := by kernel_rfl
theorem allB_spec : ∀ m : Nat, m ≤ 6 → Zq71 1048577 (m : Int) = some ((allB m, ()), ())
  | 0, _ => allB_spec0
  | 1, _ => allB_spec1
  | 2, _ => allB_spec2
  | 3, _ => allB_spec3
  | 4, _ => allB_spec4
  | 5, _ => allB_spec5
  | 6, _ => allB_spec6
theorem allB_impl0 : Zq16 1048577 ((0 : Nat) : Int) (fun y0 => (Zq21 1048577 y0).bind fun z => some z.1.1) = some ((allB 0, ()), ()) := by kernel_rfl
theorem allB_impl1 : Zq16 1048577 ((1 : Nat) : Int) (fun y0 => (Zq21 1048577 y0).bind fun z => some z.1.1) = some ((allB 1, ()), ()) := by kernel_rfl
theorem allB_impl2 : Zq16 1048577 ((2 : Nat) : Int) (fun y0 => (Zq21 1048577 y0).bind fun z => some z.1.1) = some ((allB 2, ()), ()) := by kernel_rfl
theorem allB_impl3 : Zq16 1048577 ((3 : Nat) : Int) (fun y0 => (Zq21 1048577 y0).bind fun z => some z.1.1) = some ((allB 3, ()), ()) := by kernel_rfl
theorem allB_impl4 : Zq16 1048577 ((4 : Nat) : Int) (fun y0 => (Zq21 1048577 y0).bind fun z => some z.1.1) = some ((allB 4, ()), ()) := by kernel_rfl
theorem allB_impl5 : Zq16 1048577 ((5 : Nat) : Int) (fun y0 => (Zq21 1048577 y0).bind fun z => some z.1.1) = some ((allB 5, ()), ()) := by kernel_rfl
theorem allB_impl6 : Zq16 1048577 ((6 : Nat) : Int) (fun y0 => (Zq21 1048577 y0).bind fun z => some z.1.1) = some ((allB 6, ()), ()) := by kernel_rfl
theorem allB_impl : ∀ m : Nat, m ≤ 6 → Zq16 1048577 (m : Int) (fun y0 => (Zq21 1048577 y0).bind fun z => some z.1.1) = some ((allB m, ()), ())
  | 0, _ => allB_impl0
  | 1, _ => allB_impl1
  | 2, _ => allB_impl2
  | 3, _ => allB_impl3
  | 4, _ => allB_impl4
  | 5, _ => allB_impl5
  | 6, _ => allB_impl6
theorem allB_len (m : Nat) : (allB m).length = 2 ^ m := by simp [allB]
theorem allB_row {m : Nat} {b : List Int} (h : b ∈ allB m) : b.length = m := by
  unfold allB at h
  obtain ⟨n, _, rfl⟩ := List.mem_map.1 h
  simp
def negF (bits : List Int) : Nat → List Int
  | 0 => []
  | n + 1 => (if rdI bits n = 1 then [-1 - (n : Int)] else []) ++ negF bits n
def posF (bits : List Int) : Nat → Nat → List Int
  | _, 0 => []
  | n, d + 1 => (if rdI bits n = 0 then [(n : Int) + 1] else []) ++ posF bits (n + 1) d
def bothF (bits : List Int) : Nat → Nat → List Int
  | _, 0 => []
  | n, d + 1 => (if rdI bits n = 1 then [-1 - (n : Int)] else [(n : Int) + 1]) ++ bothF bits (n + 1) d
def clauseF (bits : List Int) : List Int := negF bits bits.length ++ posF bits 0 bits.length
theorem negF_len (bits : List Int) : ∀ n, (negF bits n).length ≤ n := by
  intro n
  induction n with
  | zero => exact Nat.le_refl _
  | succ n ih =>
    unfold negF
    by_cases h : rdI bits n = 1 <;> simp [h] <;> omega
theorem posF_len (bits : List Int) : ∀ d n, (posF bits n d).length ≤ d := by
  intro d
  induction d with
  | zero => intro n; exact Nat.le_refl _
  | succ d ih =>
    intro n
    have := ih (n + 1)
    unfold posF
    by_cases h : rdI bits n = 0 <;> simp [h] <;> omega
theorem bothF_len (bits : List Int) : ∀ d n, (bothF bits n d).length = d := by
  intro d
  induction d with
  | zero => intro n; rfl
  | succ d ih =>
    intro n
    unfold bothF
    by_cases h : rdI bits n = 1 <;> simp [h, ih] <;> omega
theorem Equal_eq {N : Nat} {a b : List Int} (hx : a.length ≤ 1048576) (hN : 1048577 ≤ N) : Zq42 N a b = some ((decide (a = b), ()), ()) := by
  unfold Zq42
  rw [tLen_n, tLen_n]
  by_cases hl : a.length = b.length
  · rw [ine_f (by omega), br_f]
    have := loop_all_if (P := a = b) (m := a.length) (L := fun K i => Zq42_l0 N (fun x => some ((x, ()), ())) (fun (_ : Unit) => some ((true, ()), ())) K a b (a.length : Int) i) (fun i => rdI a i = rdI b i) ⟨fun h i _ => by rw [h], fun h => List.ext_getElem hl fun i h1 h2 => by have := h i h1; rwa [rdI_n h1, rdI_n h2] at this⟩ (kt := some ((true, ()), ())) (kf := some ((false, ()), ())) (fun K n hn => ?_) (fun K n hn hp => ?_) (fun K n hn hp => ?_) (show a.length < N by omega)
    · rw [show ((0 : Nat) : Int) = 0 from rfl] at this
      rw [this]
      by_cases h : a = b <;> simp [h]
    · simp only [Zq42_l0, ilt_nf hn, br_f]
    · simp only [Zq42_l0, ilt_n hn, inb_n hn, inb_n (show n < b.length by omega), br_t, chk_t]
      rw [ine_f hp, br_f, wrap_succ (by omega)]
    · simp only [Zq42_l0, ilt_n hn, inb_n hn, inb_n (show n < b.length by omega), br_t, chk_t]
      rw [ine_t hp, br_t]
  · rw [ine_t (by omega), br_t]
    have : a ≠ b := fun h => hl (by rw [h])
    simp [this]
theorem l1Same_eq {N : Nat} {a b : List Int} (hx : a.length ≤ 1048576) (hN : 1048577 ≤ N) : Zq69 N a b = some ((decide (a = b), ()), ()) := by
  unfold Zq69
  rw [tLen_n, tLen_n]
  by_cases hl : a.length = b.length
  · rw [ine_f (by omega), br_f]
    have := loop_all_if (P := a = b) (m := a.length) (L := fun K i => Zq69_l0 N (fun x => some ((x, ()), ())) (fun (_ : Unit) => some ((true, ()), ())) K a b i) (fun i => rdI a i = rdI b i) ⟨fun h i _ => by rw [h], fun h => List.ext_getElem hl fun i h1 h2 => by have := h i h1; rwa [rdI_n h1, rdI_n h2] at this⟩ (kt := some ((true, ()), ())) (kf := some ((false, ()), ())) (fun K n hn => ?_) (fun K n hn hp => ?_) (fun K n hn hp => ?_) (show a.length < N by omega)
    · rw [show ((0 : Nat) : Int) = 0 from rfl] at this
      rw [this]
      by_cases h : a = b <;> simp [h]
    · simp only [Zq69_l0, ilt_lenf hn, br_f]
    · simp only [Zq69_l0, ilt_len hn, inb_n hn, inb_n (show n < b.length by omega), br_t, chk_t]
      rw [ine_f hp, br_f, wrap_succ (by omega)]
    · simp only [Zq69_l0, ilt_len hn, inb_n hn, inb_n (show n < b.length by omega), br_t, chk_t]
      rw [ine_t hp, br_t]
  · rw [ine_t (by omega), br_t]
    have : a ≠ b := fun h => hl (by rw [h])
    simp [this]
theorem l6Listed_eq {N : Nat} {ss : List (List Int)} {b : List Int} (hx : ss.length ≤ 1048576) (hs : ∀ s ∈ ss, s.length ≤ 1048576) (hN : 1048577 ≤ N) : Zq76 N ss b = some ((decide (b ∈ ss), ()), ()) := by
  unfold Zq76
  have := loop_all_if (P := ∀ x ∈ ss, x ≠ b) (m := ss.length) (L := fun K i => Zq76_l0 N (fun x => some ((x, ()), ())) (fun (_ : Unit) => some ((false, ()), ())) K ss b i) (fun i => rdL ss i ≠ b) all_rdL (kt := some ((false, ()), ())) (kf := some ((true, ()), ())) (fun K n hn => ?_) (fun K n hn hp => ?_) (fun K n hn hp => ?_) (show ss.length < N by omega)
  · rw [show ((0 : Nat) : Int) = 0 from rfl] at this
    rw [this]
    by_cases h : b ∈ ss
    · rw [if_neg (fun h' => h' b h rfl), decide_eq_true h]
    · rw [if_pos (fun x hx (h' : x = b) => h (h' ▸ hx)), decide_eq_false h]
  · simp only [Zq76_l0, ilt_lenf hn, br_f]
  · simp only [Zq76_l0, ilt_len hn, br_t, inb_n hn, chk_t, l1Same_eq (rdL_len hs n) hN, bind_some']
    rw [decide_eq_false hp, br_f, wrap_succ (by omega)]
  · simp only [Zq76_l0, ilt_len hn, br_t, inb_n hn, chk_t, l1Same_eq (rdL_len hs n) hN, bind_some']
    rw [decide_eq_true (Decidable.not_not.1 hp), br_t]
theorem Formula_neg_eq {R : Type} {N : Nat} (k0 : Int → List (List Int) → List (List Int) → Int → Int → Int → List Int → List (List Int) → Option R) {x4 : Int} {x5 x6 : List (List Int)} {i : Nat} {o3 o4 : Int} {o6 : List (List Int)} (hi : i < x6.length) (hb : (rdL x6 i).length ≤ 1048576) : ∀ (n K : Nat) (o5 : List Int), n < K → n ≤ (rdL x6 i).length → o5.length + n ≤ 1048576 →
    Zq74_l0_0 N k0 K x4 x5 x6 i ((n : Int) - 1) o3 o4 o5 o6 = k0 x4 x5 x6 i o3 o4 (o5 ++ negF (rdL x6 i) n) o6 := by
  intro n
  induction n with
  | zero =>
    intro K o5 hK hn ho
    obtain ⟨k, rfl⟩ := succ_of hK
    simp only [Zq74_l0_0]
    rw [ile_f (by omega), br_f]
    simp [negF]
  | succ n ih =>
    intro K o5 hK hn ho
    obtain ⟨k, rfl⟩ := succ_of hK
    have e : ((n + 1 : Nat) : Int) - 1 = (n : Int) := by omega
    rw [e]
    simp only [Zq74_l0_0]
    rw [ile_t (by omega), br_t, inb_n hi, chk_t, inb_n (by omega), chk_t, wrap_ok (show -9223372036854775808 ≤ (n : Int) - 1 by omega) (by omega), wrap_ok (show -9223372036854775808 ≤ -1 - (n : Int) by omega) (by omega), room_ok (by simp; omega), chk_t, ih k o5 (by omega) (by omega) (by omega), ih k _ (by omega) (by omega) (by simp [tApp]; omega), br_ite, ieq_d]
    by_cases h : rdI (rdL x6 i) n = 1
    · rw [if_pos (decide_eq_true h)]
      simp [negF, h, tApp]
    · rw [if_neg (by simpa using h)]
      simp [negF, h]
theorem Formula_pos_eq {R : Type} {N : Nat} (k0 : Int → List (List Int) → List (List Int) → Int → Int → Int → List Int → List (List Int) → Option R) {m : Nat} {x9 x10 : List (List Int)} {i : Nat} {o7 o8 : Int} {o10 : List (List Int)} (hi : i < x10.length) (hb : (rdL x10 i).length ≤ 1048576) (hm : (rdL x10 i).length = m) : ∀ (d n K : Nat) (o9 : List Int), n + d = m → d < K → o9.length + d ≤ 1048576 * 2 →
    Zq74_l0_1 N k0 K (m : Int) x9 x10 i n o7 o8 o9 o10 = k0 (m : Int) x9 x10 i o7 o8 (o9 ++ posF (rdL x10 i) n d) o10 := by
  intro d
  induction d with
  | zero =>
    intro n K o9 hd hK ho
    obtain ⟨k, rfl⟩ := succ_of hK
    simp only [Zq74_l0_1]
    rw [ilt_nf (by omega), br_f]
    simp [posF]
  | succ d ih =>
    intro n K o9 hd hK ho
    obtain ⟨k, rfl⟩ := succ_of hK
    simp only [Zq74_l0_1]
    rw [ilt_n (by omega), br_t, inb_n hi, chk_t, inb_n (by omega), chk_t, wrap_succ (by omega), room_ok (by simp; omega), chk_t, ih (n + 1) k o9 (by omega) (by omega) (by omega), ih (n + 1) k _ (by omega) (by omega) (by simp [tApp]; omega), br_ite, ieq_d]
    by_cases h : rdI (rdL x10 i) n = 0
    · rw [if_pos (decide_eq_true h)]
      simp [posF, h, tApp]
    · rw [if_neg (by simpa using h)]
      simp [posF, h]
theorem formula_both_eq {R : Type} {N : Nat} (k0 : List (List Int) → List (List Int) → Int → Int → Int → Int → List Int → List (List Int) → Option R) {x2 x3 : List (List Int)} {x4 x5 o3 o4 : Int} {x6 : List Int} {o6 : List (List Int)} (hb : x6.length ≤ 1048576) : ∀ (d n K : Nat) (o5 : List Int), n + d = x6.length → d < K → o5.length + d ≤ 1048576 →
    Zq20_l0_0 N k0 K x2 x3 x4 x5 x6 (x6.length : Int) n o3 o4 o5 o6 = k0 x2 x3 x4 x5 o3 o4 (o5 ++ bothF x6 n d) o6 := by
  intro d
  induction d with
  | zero =>
    intro n K o9 hd hK ho
    obtain ⟨k, rfl⟩ := succ_of hK
    simp only [Zq20_l0_0]
    rw [ilt_nf (by omega), br_f]
    simp [bothF]
  | succ d ih =>
    intro n K o9 hd hK ho
    obtain ⟨k, rfl⟩ := succ_of hK
    have e : IntKind.i64.wrap ((n : Int) + 1) = ((n + 1 : Nat) : Int) := wrap_succ (by omega)
    simp only [Zq20_l0_0]
    rw [ilt_n (by omega), br_t, inb_n (by omega), chk_t, e, wrap_ok (show -9223372036854775808 ≤ -1 - (n : Int) by omega) (by omega), room_ok (by simp; omega), room_ok (by simp; omega), chk_t, chk_t, ih (n + 1) k _ (by omega) (by omega) (by simp [tApp]; omega), ih (n + 1) k _ (by omega) (by omega) (by simp [tApp]; omega), br_ite, ieq_d]
    by_cases h : rdI x6 n = 1
    · rw [if_pos (decide_eq_true h)]
      simp [bothF, h, tApp]
    · rw [if_neg (by simpa using h)]
      simp [bothF, h, tApp]
theorem clause_sorted {m : Nat} (hm : m ≤ 6) {b : List Int} (h : b ∈ allB m) : sortI (bothF b 0 b.length) = clauseF b := by
  have hc : ((List.range 7).all fun m => (allB m).all fun b => decide (sortI (bothF b 0 b.length) = clauseF b)) = true := by kernel_rfl
  have h1 := List.all_eq_true.1 hc m (List.mem_range.2 (by omega))
  have h2 := List.all_eq_true.1 h1 b h
  exact of_decide_eq_true h2
noncomputable def formStep (ss : List (List Int)) (o : List (List Int)) (b : List Int) : List (List Int) := if b ∈ ss then o else o ++ [clauseF b]
noncomputable def formR (m : Nat) (ss : List (List Int)) : List (List Int) := (allB m).foldl (formStep ss) []
theorem formStep_len {ss o : List (List Int)} {b : List Int} : (formStep ss o b).length ≤ o.length + 1 := by
  unfold formStep
  by_cases h : b ∈ ss
  · rw [if_pos h]; omega
  · rw [if_neg h]; simp
theorem clauseF_len (b : List Int) : (clauseF b).length ≤ 2 * b.length := by
  have h1 := negF_len b b.length
  have h2 := posF_len b b.length 0
  unfold clauseF
  rw [List.length_append]
  omega
theorem pow_small {m : Nat} (h : m ≤ 6) : 2 ^ m ≤ 64 := Nat.pow_le_pow_right (by omega) h
theorem Zq74_eq {m : Nat} {ss : List (List Int)} {N : Nat} (hNe : N = 1048577) (hm : m ≤ 6) (hx : ss.length ≤ 1048576) (hs : ∀ s ∈ ss, s.length ≤ 1048576) : Zq74 N (m : Int) ss = some ((((m : Int), formR m ss), ()), ()) ∧ (formR m ss).length ≤ 64 := by
  have hp := pow_small hm
  have hN : 1048577 ≤ N := by omega
  have hl := allB_len m
  have key := loop_list (xs := allB m) (L := fun K n o => Zq74_l0 N (fun o o1 o2 => some (((o1, o2), ()), ())) K (m : Int) ss (allB m) n 0 (m : Int) o) (k := fun o => some ((((m : Int), o), ()), ())) (formStep ss) (fun n o => o.length ≤ n) (K := N) (s := []) (fun K n s hn _ => ?_) (fun K n s hn hs' => ?_) (fun n s hn h => Nat.le_trans formStep_len (by omega)) (by omega) (Nat.zero_le _)
  · unfold Zq74
    rw [show Zq71 N (m : Int) = some ((allB m, ()), ()) by rw [hNe]; exact allB_spec m hm]
    simp only [bind_some']
    refine ⟨key.1, ?_⟩
    have := key.2
    unfold formR
    omega
  · simp only [Zq74_l0, ilt_lenf hn, br_f]
  · have hr := allB_row (List.getElem_mem hn)
    have hrr : (rdL (allB m) n).length = m := by rw [rdL_n hn]; exact hr
    simp only [Zq74_l0, ilt_len hn, br_t, inb_n hn, chk_t, l6Listed_eq hx hs hN, bind_some']
    have e := Formula_neg_eq (N := N) (fun x4 x5 x6 x7 o3 o4 o5 o6 => Zq74_l0_1 N (fun x8 x9 x10 x11 o7 o8 o9 o10 => (chk (room o10 [o9])
            (Zq74_l0 N (fun o o1 o2 => some (((o1, o2), ()), ())) K x8 x9 x10 (IntKind.i64.wrap (x11 + 1)) o7 o8 (tApp o10 [o9])))) N x4 x5 x6 x7 0 o3 o4 o5 o6) (x4 := (m : Int)) (x5 := ss) (o3 := 0) (o4 := (m : Int)) (o6 := s) hn (by omega) m N [] (by omega) (by omega) (by simp; omega)
    rw [wrap_ok (show -9223372036854775808 ≤ (m : Int) - 1 by omega) (by omega), e]
    have e2 := Formula_pos_eq (N := N) (fun x8 x9 x10 x11 o7 o8 o9 o10 => (chk (room o10 [o9])
            (Zq74_l0 N (fun o o1 o2 => some (((o1, o2), ()), ())) K x8 x9 x10 (IntKind.i64.wrap (x11 + 1)) o7 o8 (tApp o10 [o9])))) (x9 := ss) (o7 := 0) (o8 := (m : Int)) (o10 := s) hn (by omega) hrr m 0 N ([] ++ negF (rdL (allB m) n) m) (by omega) (by omega) (by have := negF_len (rdL (allB m) n) m; simp; omega)
    rw [show ((0 : Nat) : Int) = 0 from rfl] at e2
    rw [e2, wrap_succ (by omega), room_ok (by simp; omega), chk_t, br_ite, rdL_n hn]
    unfold formStep clauseF
    rw [hr]
    by_cases h : (allB m)[n] ∈ ss
    · rw [if_pos (decide_eq_true h), if_pos h]
    · rw [if_neg (by simpa using h), if_neg h, List.nil_append]
      rfl
end Go.Proofs.YtfilchmabmfmaaaGreat
