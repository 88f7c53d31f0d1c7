/- Statements on data alone. -/
import Derived.Test.YtbnebekejbhopaaPvPure
import Derived.Test.YtbnebekejbhopaaHammingOfFa
set_option linter.all false
set_option linter.all false
namespace Go.Proofs.Ytbnebekejbhopaa
open Go Go.PV
theorem toIntS_l0_eq {R : Type} (N : Nat) (k0 : List Int → Option R) (xs : List Int) (hx : xs.length ≤ 1099511627776) : ∀ (d n : Nat) (o : List Int) (K : Nat), n + d = xs.length → d < K → o.length = xs.length →
    laws_toIntS_l0 N k0 K xs n o = k0 (o.take n ++ xs.drop n) := by
  intro d
  induction d with
  | zero =>
    intro n o K hd hK ho
    obtain ⟨k, rfl⟩ := succ_of hK
    have hn : ¬ n < xs.length := by omega
    simp only [laws_toIntS_l0, ilt_lenf hn, br_f]
    rw [List.take_of_length_le (by omega), List.drop_of_length_le (by omega), List.append_nil]
  | succ d ih =>
    intro n o K hd hK ho
    obtain ⟨k, rfl⟩ := succ_of hK
    have hn : n < xs.length := by omega
    have hno : n < o.length := by omega
    simp only [laws_toIntS_l0, ilt_len hn, inb_n hn, inb_n hno, br_t, chk_t]
    rw [wrap_succ (by omega), tSet_n, rd_n hn, ih (n + 1) _ k (by omega) (by omega) (by simpa using ho)]
    congr 1
    rw [drop_cons hn, List.take_add_one, List.getElem?_set_self (by omega), List.take_set_of_le (Nat.le_refl n)]
    simp
theorem toIntS_eq {N : Nat} {xs : List Int} (hx : xs.length ≤ 1048576) (hN : 1048577 ≤ N) : laws_toIntS N xs = some ((xs, ()), ()) := by
  unfold laws_toIntS
  simp only [tLen_n, ile_t (show (0 : Int) ≤ (xs.length : Int) by omega), ile_t (Int.le_refl _), fits_ok (show xs.length ≤ 1099511627776 by omega), Bool.and_self, chk_t]
  have := toIntS_l0_eq N (fun o => some ((o, ()), ())) xs (by omega) xs.length 0 (tRep (xs.length : Int) 0) N (by omega) (by omega) (by simp [tRep])
  simp only [Int.natCast_zero, List.take_zero, List.drop_zero, List.nil_append] at this
  exact this
theorem eqIntS_l0_eq {R : Type} (N : Nat) (k0 : Bool → Option R) (k1 : Unit → Option R) (a b : List Int) (hx : a.length ≤ 1099511627776) (hl : a.length = b.length) : ∀ (d n : Nat) (K : Nat), n + d = a.length → d < K →
    laws_eqIntS_l0 N k0 k1 K a b n = if a.drop n = b.drop n then k1 () else k0 false := by
  intro d
  induction d with
  | zero =>
    intro n K hd hK
    obtain ⟨k, rfl⟩ := succ_of hK
    have hn : ¬ n < a.length := by omega
    simp only [laws_eqIntS_l0, ilt_lenf hn, br_f]
    rw [if_pos]
    rw [List.drop_of_length_le (by omega), List.drop_of_length_le (by omega)]
  | succ d ih =>
    intro n K hd hK
    obtain ⟨k, rfl⟩ := succ_of hK
    have hn : n < a.length := by omega
    have hnb : n < b.length := by omega
    simp only [laws_eqIntS_l0, ilt_len hn, inb_n hn, inb_n hnb, br_t, chk_t]
    rw [wrap_succ (by omega), rd_n hn, rd_n hnb, ih (n + 1) k (by omega) (by omega), drop_cons hn, drop_cons hnb]
    by_cases he : a[n] = b[n]
    · rw [ine_f he, br_f, he]
      simp only [List.cons.injEq, true_and]
    · rw [ine_t he, br_t, if_neg]
      intro h
      injection h with h _
      exact he h
theorem eqIntS_eq {N : Nat} {a b : List Int} (hx : a.length ≤ 1099511627776) (hN : a.length < N) : laws_eqIntS N a b = some ((decide (a = b), ()), ()) := by
  unfold laws_eqIntS
  simp only [tLen_n]
  by_cases hl : a.length = b.length
  · rw [ine_f (by omega), br_f]
    have := eqIntS_l0_eq N (fun x => some ((x, ()), ())) (fun _ => some ((true, ()), ())) a b hx hl a.length 0 N (by omega) (by omega)
    simp only [Int.natCast_zero, List.drop_zero] at this
    rw [this]
    by_cases h : a = b <;> simp [h]
  · rw [ine_t (by omega), br_t]
    have : a ≠ b := fun h => hl (by rw [h])
    simp [this]
def isBit (n : Int) : Bool := decide (0 ≤ n ∧ n ≤ 1)
theorem l1In_eq (N : Nat) (x a b : Int) : spec_l1In N x a b = some ((decide (a ≤ x ∧ x ≤ b), ()), ()) := by
  unfold spec_l1In
  rw [br_ite, ile_d, ile_d]
  by_cases h : a ≤ x <;> by_cases h' : x ≤ b <;> simp [h, h']
theorem between_eq (N : Nat) (n low high : Int) : impl_between N n low high = some ((decide (low ≤ n ∧ n ≤ high), ()), ()) := by
  unfold impl_between
  rw [br_ite, ile_d, ile_d]
  by_cases h : low ≤ n <;> by_cases h' : n ≤ high <;> simp [h, h']
theorem l6Bits_l0_eq {R : Type} (N : Nat) (k0 : Bool → Option R) (k1 : Int → List Int → Option R) (v : Int) (xs : List Int) (hx : xs.length ≤ 1099511627776) : ∀ (d n : Nat) (K : Nat), n + d = xs.length → d < K →
    spec_l6Bits_l0 N k0 k1 K v xs n = if (xs.drop n).all isBit = true then k1 v xs else k0 false := by
  intro d
  induction d with
  | zero =>
    intro n K hd hK
    obtain ⟨k, rfl⟩ := succ_of hK
    have hn : ¬ n < xs.length := by omega
    simp only [spec_l6Bits_l0, ilt_lenf hn, br_f]
    rw [List.drop_of_length_le (by omega)]
    simp
  | succ d ih =>
    intro n K hd hK
    obtain ⟨k, rfl⟩ := succ_of hK
    have hn : n < xs.length := by omega
    simp only [spec_l6Bits_l0, ilt_len hn, inb_n hn, br_t, chk_t, l1In_eq, bind_some']
    rw [wrap_succ (by omega), rd_n hn, ih (n + 1) k (by omega) (by omega), drop_cons hn, List.all_cons, br_ite]
    by_cases h : 0 ≤ xs[n] ∧ xs[n] ≤ 1
    · simp [isBit, h]
    · simp [isBit, h]
theorem l6Bits_eq {N : Nat} {v : Int} {xs : List Int} (hx : xs.length ≤ 1099511627776) (hN : xs.length < N) : spec_l6Bits N v xs = some ((xs.all isBit && decide ((xs.length : Int) = v), ()), ()) := by
  unfold spec_l6Bits
  have := l6Bits_l0_eq N (fun x => some ((x, ()), ())) (fun vars1 bits1 => some (((ieq (tLen bits1) vars1), ()), ())) v xs hx xs.length 0 N (by omega) (by omega)
  simp only [Int.natCast_zero, List.drop_zero] at this
  rw [this, tLen_n, ieq_d]
  by_cases h : xs.all isBit = true
  · rw [if_pos h, h, Bool.true_and]
  · rw [if_neg h]
    simp [h]

/-- The place of the first element of which something is so. -/
def findAt {α : Type} (f : α → Bool) : List α → Nat → Int
  | [], _ => -1
  | x :: xs, n => if f x = true then (n : Int) else findAt f xs (n + 1)
theorem findAt_cons {α : Type} (f : α → Bool) (x : α) (xs : List α) (n : Nat) : findAt f (x :: xs) n = if f x = true then (n : Int) else findAt f xs (n + 1) := rfl
theorem findAt_ge {α : Type} (f : α → Bool) : ∀ (xs : List α) (n : Nat), decide (0 ≤ findAt f xs n) = xs.any f := by
  intro xs
  induction xs with
  | nil => intro n; rfl
  | cons x xs ih =>
    intro n
    unfold findAt
    by_cases h : f x = true
    · rw [if_pos h]
      simp [h]
    · rw [if_neg h, ih]
      simp [h]
theorem IndexFunc_LI_l0_eq {R : Type} (N : Nat) (k0 : Int → Option R) (k1 : Unit → Option R) (xs : List Int) (f : Int → Option Bool) (g : Int → Bool) (hf : ∀ x ∈ xs, f x = some (g x)) (hx : xs.length ≤ 1099511627776) : ∀ (d n : Nat) (K : Nat), n + d = xs.length → d < K →
    slices_IndexFunc_LI_int_l0 N k0 k1 K xs f (xs.length : Int) n = if (xs.drop n).any g = true then k0 (findAt g (xs.drop n) n) else k1 () := by
  intro d
  induction d with
  | zero =>
    intro n K hd hK
    obtain ⟨k, rfl⟩ := succ_of hK
    have hn : ¬ n < xs.length := by omega
    simp only [slices_IndexFunc_LI_int_l0, ilt_nf hn, br_f]
    rw [List.drop_of_length_le (by omega)]
    simp
  | succ d ih =>
    intro n K hd hK
    obtain ⟨k, rfl⟩ := succ_of hK
    have hn : n < xs.length := by omega
    simp only [slices_IndexFunc_LI_int_l0, ilt_n hn, inb_n hn, br_t, chk_t]
    obtain ⟨y, r, e1, e2, e3⟩ := drop_split hn
    rw [wrap_succ (by omega), rd_n hn, ih (n + 1) k (by omega) (by omega), hf _ (List.getElem_mem hn), bind_some', br_ite, e1, e2, e3, findAt_cons]
    by_cases h : g y = true
    · simp [h]
    · simp [h]
theorem ContainsFunc_LI_eq {N : Nat} {xs : List Int} {f : Int → Option Bool} {g : Int → Bool} (hf : ∀ x ∈ xs, f x = some (g x)) (hx : xs.length ≤ 1099511627776) (hN : xs.length < N) :
    slices_ContainsFunc_LI_int N xs f = some ((xs.any g, ()), ()) := by
  unfold slices_ContainsFunc_LI_int slices_IndexFunc_LI_int
  have := IndexFunc_LI_l0_eq N (fun x => some ((x, ()), ())) (fun _ => some (((-1 : Int), ()), ())) xs f g hf hx xs.length 0 N (by omega) (by omega)
  simp only [Int.natCast_zero, List.drop_zero] at this
  rw [tLen_n, this]
  by_cases h : xs.any g = true
  · rw [if_pos h, bind_some', ile_d, findAt_ge]
  · rw [if_neg h, bind_some']
    simp only [Bool.not_eq_true] at h
    rw [h]
    rfl
theorem any_not {α : Type} (f : α → Bool) : ∀ xs : List α, (!(xs.any fun x => !f x)) = xs.all f := by
  intro xs
  induction xs with
  | nil => rfl
  | cons x xs ih => simp only [List.any_cons, List.all_cons, Bool.not_or, Bool.not_not, ih]
theorem isAssignment_eq {N : Nat} {v : Int} {xs : List Int} (hx : xs.length ≤ 1099511627776) (hN : xs.length < N) : impl_isAssignment N v xs = some ((xs.all isBit && decide ((xs.length : Int) = v), ()), ()) := by
  unfold impl_isAssignment
  rw [ContainsFunc_LI_eq (g := fun n => !isBit n) (fun x _ => by simp only [impl_isAssignment_c1, between_eq, bind_some']; rfl) hx hN, bind_some', any_not, tLen_n, ieq_d, br_ite]
  by_cases h : (xs.length : Int) = v <;> simp [h]

/-- At which places two lists differ. -/
def diffAt (a b : List Int) (n : Nat) : List Int := match a, b with
  | x :: a, y :: b => if y ≠ x then (n : Int) :: diffAt a b (n + 1) else diffAt a b (n + 1)
  | _, _ => []
theorem diffAt_cons (x y : Int) (a b : List Int) (n : Nat) : diffAt (x :: a) (y :: b) n = if y ≠ x then (n : Int) :: diffAt a b (n + 1) else diffAt a b (n + 1) := rfl
theorem places_l0_eq {R : Type} (N : Nat) (k0 : List Int → Option R) (a b : List Int) (hl : a.length ≤ b.length) (hx : a.length ≤ 549755813888) : ∀ (d n : Nat) (o : List Int) (K : Nat), n + d = a.length → d < K → o.length ≤ n →
    impl_places_l0 N k0 K b a (a.length : Int) n o = k0 (o ++ diffAt (a.drop n) (b.drop n) n) := by
  intro d
  induction d with
  | zero =>
    intro n o K hd hK ho
    obtain ⟨k, rfl⟩ := succ_of hK
    have hn : ¬ n < a.length := by omega
    simp only [impl_places_l0, ilt_nf hn, br_f]
    rw [List.drop_of_length_le (show a.length ≤ n by omega)]
    simp [diffAt]
  | succ d ih =>
    intro n o K hd hK ho
    obtain ⟨k, rfl⟩ := succ_of hK
    have hn : n < a.length := by omega
    have hnb : n < b.length := by omega
    simp only [impl_places_l0, ilt_n hn, inb_n hn, inb_n hnb, br_t, chk_t]
    obtain ⟨y, r, e1, e2, e3⟩ := drop_split hn
    obtain ⟨y', r', e1', e2', e3'⟩ := drop_split hnb
    rw [wrap_succ (by omega), rd_n (t := I) hn, rd_n (t := I) hnb, ih (n + 1) o k (by omega) (by omega) (by omega), ih (n + 1) (tApp o [(n : Int)]) k (by omega) (by omega) (by simp [tApp]; omega), room_ok (by simp; omega), chk_t, br_ite, ine_d, e1, e2, e3, e1', e2', e3', diffAt_cons]
    by_cases h : y' = y <;> simp [h, tApp]
theorem places_eq {N : Nat} {a b : List Int} (hl : a.length ≤ b.length) (hx : a.length ≤ 549755813888) (hN : a.length < N) : impl_places N a b = some ((diffAt a b 0, ()), ()) := by
  unfold impl_places
  have := places_l0_eq N (fun o => some ((o, ()), ())) a b hl hx a.length 0 [] N (by omega) (by omega) (by simp)
  simp only [Int.natCast_zero, List.drop_zero, List.nil_append] at this
  rw [tLen_n, this]
theorem l6Apart_l0_eq {R : Type} (N : Nat) (k0 : Int → Option R) (a b : List Int) (hl : a.length ≤ b.length) (hx : a.length ≤ 549755813888) : ∀ (d n c : Nat) (K : Nat), n + d = a.length → d < K → c ≤ n →
    spec_l6Apart_l0 N k0 K a b c n = k0 ((c + (diffAt (a.drop n) (b.drop n) n).length : Nat) : Int) := by
  intro d
  induction d with
  | zero =>
    intro n c K hd hK ho
    obtain ⟨k, rfl⟩ := succ_of hK
    have hn : ¬ n < a.length := by omega
    simp only [spec_l6Apart_l0, ilt_lenf hn, br_f]
    rw [List.drop_of_length_le (show a.length ≤ n by omega)]
    simp [diffAt]
  | succ d ih =>
    intro n c K hd hK ho
    obtain ⟨k, rfl⟩ := succ_of hK
    have hn : n < a.length := by omega
    have hnb : n < b.length := by omega
    simp only [spec_l6Apart_l0, ilt_len hn, inb_n hn, inb_n hnb, br_t, chk_t]
    obtain ⟨y, r, e1, e2, e3⟩ := drop_split hn
    obtain ⟨y', r', e1', e2', e3'⟩ := drop_split hnb
    rw [wrap_succ (by omega), wrap_succ (by omega), rd_n (t := I) hn, rd_n (t := I) hnb, ih (n + 1) c k (by omega) (by omega) (by omega), ih (n + 1) (c + 1) k (by omega) (by omega) (by omega), br_ite, ine_d, e1, e2, e3, e1', e2', e3', diffAt_cons]
    by_cases h : y = y'
    · simp [h]
    · have h' : y' ≠ y := fun e => h e.symm
      simp [h, h']
      congr 1
      omega
theorem l6Apart_eq {N : Nat} {a b : List Int} (hl : a.length ≤ b.length) (hx : a.length ≤ 549755813888) (hN : a.length < N) : spec_l6Apart N a b = some ((((diffAt a b 0).length : Int), ()), ()) := by
  unfold spec_l6Apart
  have := l6Apart_l0_eq N (fun count => some ((count, ()), ())) a b hl hx a.length 0 0 N (by omega) (by omega) (by omega)
  simp only [Int.natCast_zero, List.drop_zero, Nat.zero_add] at this
  rw [this]
def hammingR (a b : List Int) : Int × Bool :=
  if 6 < a.length then (0, false) else if ¬ (a.all isBit = true) then (0, false) else if ¬ (b.all isBit = true ∧ b.length = a.length) then (0, false) else ((diffAt a b 0).length, true)
theorem spec_HammingOf_eq' {N : Nat} {a b : List Int} (ha : a.length ≤ 1048576) (hb : b.length ≤ 1048576) (hN : 1048577 ≤ N) : spec_HammingOf N a b = some (((hammingR a b).1, (hammingR a b).2, ()), ()) := by
  unfold spec_HammingOf hammingR
  rw [l6Bits_eq (by omega) (by omega), l6Bits_eq (by omega) (by omega), tLen_n]
  by_cases h1 : 6 < a.length
  · rw [ilt_t (by omega), br_t]
    simp [h1]
  · rw [ilt_f (by omega), br_f]
    by_cases h2 : a.all isBit = true
    · by_cases h3 : b.all isBit = true ∧ b.length = a.length
      · simp only [bind_some', br_ite, l6Apart_eq (show a.length ≤ b.length by omega) (by omega) (show a.length < N by omega)]
        simp [h1, h2, h3]
      · have h4 : ¬ (b.all isBit = true ∧ ((b.length : Int) = a.length)) := fun h => h3 ⟨h.1, by omega⟩
        simp only [bind_some', br_ite]
        by_cases h5 : b.all isBit = true
        · have h6 : ¬ b.length = a.length := fun h => h3 ⟨h5, h⟩
          have h7 : ¬ (b.length : Int) = a.length := by omega
          simp [h1, h2, h5, h6, h7]
        · simp [h1, h2, h5]
    · simp only [bind_some', br_ite]
      simp [h1, h2]
theorem impl_HammingOf_eq' {N : Nat} {a b : List Int} (ha : a.length ≤ 1048576) (hb : b.length ≤ 1048576) (hN : 1048577 ≤ N) : impl_HammingOf N a b = some (((hammingR a b).1, (hammingR a b).2, ()), ()) := by
  unfold impl_HammingOf hammingR
  rw [isAssignment_eq (by omega) (by omega), isAssignment_eq (by omega) (by omega), tLen_n]
  by_cases h1 : 6 < a.length
  · rw [ilt_t (by omega), br_t]
    simp [h1]
  · rw [ilt_f (by omega), br_f]
    by_cases h2 : a.all isBit = true
    · by_cases h3 : b.all isBit = true ∧ b.length = a.length
      · simp only [bind_some', br_ite, places_eq (show a.length ≤ b.length by omega) (by omega) (show a.length < N by omega)]
        simp [h1, h2, h3, tLen_n]
      · have h4 : ¬ (b.all isBit = true ∧ ((b.length : Int) = a.length)) := fun h => h3 ⟨h.1, by omega⟩
        simp only [bind_some', br_ite]
        by_cases h5 : b.all isBit = true
        · have h6 : ¬ b.length = a.length := fun h => h3 ⟨h5, h⟩
          have h7 : ¬ (b.length : Int) = a.length := by omega
          simp [h1, h2, h5, h6, h7]
        · simp [h1, h2, h5]
    · simp only [bind_some', br_ite]
      simp [h1, h2]
theorem HammingOf_pure (a b : List Int) : laws_FnExactHammingOf 1048577 a b = some ((true, ()), ()) := by
  unfold laws_FnExactHammingOf
  rw [tLen_n, tLen_n]
  by_cases h1 : a.length ≤ 1048576
  · by_cases h2 : b.length ≤ 1048576
    · rw [ilt_f (by omega), ilt_f (by omega), br_f, br_f]
      have hN : 1048577 ≤ 1048577 := Nat.le_refl _
      simp only [toIntS_eq h1 hN, toIntS_eq h2 hN, bind_some', spec_HammingOf_eq' h1 h2 hN, impl_HammingOf_eq' h1 h2 hN, ine_f (rfl : (hammingR a b).1 = (hammingR a b).1), br_f, eqIntS_eq (show a.length ≤ 1099511627776 by omega) (show a.length < 1048577 by omega), eqIntS_eq (show b.length ≤ 1099511627776 by omega) (show b.length < 1048577 by omega)]
      simp [br_ite]
    · rw [ilt_f (by omega), ilt_t (by omega), br_f, br_t]
  · rw [ilt_t (by omega), br_t]
theorem HammingOf_pureT : ∀ x : argsT (psOf [LI, LI]), WfA [LI, LI] x → ∃ k m, (laws_FnExactHammingOf_S k).f x = some ((true, ()), m) :=
  fun x _ => ⟨1048577, (), HammingOf_pure x.1 x.2.1⟩
end Go.Proofs.Ytbnebekejbhopaa
