/- Statements on data alone. -/
import Derived.Test.YtkffaahlpdlkoaaPvPure
import Derived.Test.YtkffaahlpdlkoaaRenameColoursFb
set_option linter.all false
set_option linter.all false
namespace Go.Proofs.Ytkffaahlpdlkoaa
open Go Go.PV Classical
theorem toIntS_l0_eq {R : Type} (N : Nat) (k0 : List Int → Option R) (xs : List Int) (hx : xs.length ≤ 1099511627776) : ∀ (d n : Nat) (o : List Int) (K : Nat), n + d = xs.length → d < K → o.length = xs.length →
    laws_toIntS_l0 N k0 K xs n o = k0 (o.take n ++ xs.drop n) := by
  intro d
  induction d with
  | zero =>
    intro n o K hd hK ho
    obtain ⟨k, rfl⟩ := succ_of hK
    have hn : ¬ n < xs.length := by omega
    simp only [laws_toIntS_l0, ilt_lenf hn, br_f]
    rw [List.take_of_length_le (by omega), List.drop_of_length_le (by omega), List.append_nil]
  | succ d ih =>
    intro n o K hd hK ho
    obtain ⟨k, rfl⟩ := succ_of hK
    have hn : n < xs.length := by omega
    have hno : n < o.length := by omega
    simp only [laws_toIntS_l0, ilt_len hn, inb_n hn, inb_n hno, br_t, chk_t]
    rw [wrap_succ (by omega), tSet_n, rdI_n hn, ih (n + 1) _ k (by omega) (by omega) (by simpa using ho)]
    congr 1
    rw [drop_cons hn, List.take_add_one, List.getElem?_set_self (by omega), List.take_set_of_le (Nat.le_refl n)]
    simp
theorem toIntS_eq {N : Nat} {xs : List Int} (hx : xs.length ≤ 1048576) (hN : 1048577 ≤ N) : laws_toIntS N xs = some ((xs, ()), ()) := by
  unfold laws_toIntS
  simp only [tLen_n, ile_t (show (0 : Int) ≤ (xs.length : Int) by omega), ile_t (Int.le_refl _), fits_ok (show xs.length ≤ 1099511627776 by omega), Bool.and_self, chk_t]
  have := toIntS_l0_eq N (fun o => some ((o, ()), ())) xs (by omega) xs.length 0 (tRep (xs.length : Int) 0) N (by omega) (by omega) (by simp [tRep])
  simp only [Int.natCast_zero, List.take_zero, List.drop_zero, List.nil_append] at this
  exact this
theorem eqIntS_l0_eq {R : Type} (N : Nat) (k0 : Bool → Option R) (k1 : Unit → Option R) (a b : List Int) (hx : a.length ≤ 1099511627776) (hl : a.length = b.length) : ∀ (d n : Nat) (K : Nat), n + d = a.length → d < K →
    laws_eqIntS_l0 N k0 k1 K a b n = if a.drop n = b.drop n then k1 () else k0 false := by
  intro d
  induction d with
  | zero =>
    intro n K hd hK
    obtain ⟨k, rfl⟩ := succ_of hK
    have hn : ¬ n < a.length := by omega
    simp only [laws_eqIntS_l0, ilt_lenf hn, br_f]
    rw [if_pos]
    rw [List.drop_of_length_le (by omega), List.drop_of_length_le (by omega)]
  | succ d ih =>
    intro n K hd hK
    obtain ⟨k, rfl⟩ := succ_of hK
    have hn : n < a.length := by omega
    have hnb : n < b.length := by omega
    simp only [laws_eqIntS_l0, ilt_len hn, inb_n hn, inb_n hnb, br_t, chk_t]
    rw [wrap_succ (by omega), rdI_n hn, rdI_n hnb, ih (n + 1) k (by omega) (by omega), drop_cons hn, drop_cons hnb]
    by_cases he : a[n] = b[n]
    · rw [ine_f he, br_f, he]
      simp only [List.cons.injEq, true_and]
    · rw [ine_t he, br_t, if_neg]
      intro h
      injection h with h _
      exact he h
theorem eqIntS_eq {N : Nat} {a b : List Int} (hx : a.length ≤ 1099511627776) (hN : a.length < N) : laws_eqIntS N a b = some ((decide (a = b), ()), ()) := by
  unfold laws_eqIntS
  simp only [tLen_n]
  by_cases hl : a.length = b.length
  · rw [ine_f (by omega), br_f]
    have := eqIntS_l0_eq N (fun x => some ((x, ()), ())) (fun _ => some ((true, ()), ())) a b hx hl a.length 0 N (by omega) (by omega)
    simp only [Int.natCast_zero, List.drop_zero] at this
    rw [this]
    by_cases h : a = b <;> simp [h]
  · rw [ine_t (by omega), br_t]
    have : a ≠ b := fun h => hl (by rw [h])
    simp [this]

/-! ### How much a law lets in -/
theorem all_rdI {xs : List Int} {p : Int → Prop} : (∀ x ∈ xs, p x) ↔ ∀ i : Nat, i < xs.length → p (rdI xs i) := by
  constructor
  · intro h i hi
    rw [rdI_n hi]
    exact h _ (List.getElem_mem hi)
  · intro h x hx
    obtain ⟨i, hi, rfl⟩ := List.mem_iff_getElem.1 hx
    have := h i hi
    rwa [rdI_n hi] at this
theorem all_rdP {xs : List (Int × Int)} {p : Int × Int → Prop} : (∀ x ∈ xs, p x) ↔ ∀ i : Nat, i < xs.length → p (rdP xs i) := by
  constructor
  · intro h i hi
    rw [rdP_n hi]
    exact h _ (List.getElem_mem hi)
  · intro h x hx
    obtain ⟨i, hi, rfl⟩ := List.mem_iff_getElem.1 hx
    have := h i hi
    rwa [rdP_n hi] at this
theorem not_any {α : Type} {xs : List α} {f : α → Bool} : (!(xs.any f)) = decide (∀ x ∈ xs, f x = false) := by
  induction xs with
  | nil => simp
  | cons x xs ih =>
    rw [List.any_cons, Bool.not_or, ih]
    by_cases h : f x = true <;> simp [h]
def findAt {α : Type} (f : α → Bool) : List α → Nat → Int
  | [], _ => -1
  | x :: xs, n => if f x = true then (n : Int) else findAt f xs (n + 1)
theorem findAt_cons {α : Type} (f : α → Bool) (x : α) (xs : List α) (n : Nat) : findAt f (x :: xs) n = if f x = true then (n : Int) else findAt f xs (n + 1) := rfl
theorem findAt_ge {α : Type} (f : α → Bool) : ∀ (xs : List α) (n : Nat), decide (0 ≤ findAt f xs n) = xs.any f := by
  intro xs
  induction xs with
  | nil => intro n; rfl
  | cons x xs ih =>
    intro n
    unfold findAt
    by_cases h : f x = true
    · rw [if_pos h]
      simp [h]
    · rw [if_neg h, ih]
      simp [h]
theorem IndexFunc_LI_int_l0_eq {R : Type} (N : Nat) (k0 : Int → Option R) (k1 : Unit → Option R) (xs : List (Int)) (f : Int → Option Bool) (g : Int → Bool) (hf : ∀ x ∈ xs, f x = some (g x)) (hx : xs.length ≤ 1099511627776) : ∀ (d n : Nat) (K : Nat), n + d = xs.length → d < K →
    slices_IndexFunc_LI_int_l0 N k0 k1 K xs f (xs.length : Int) n = if (xs.drop n).any g = true then k0 (findAt g (xs.drop n) n) else k1 () := by
  intro d
  induction d with
  | zero =>
    intro n K hd hK
    obtain ⟨k, rfl⟩ := succ_of hK
    have hn : ¬ n < xs.length := by omega
    simp only [slices_IndexFunc_LI_int_l0, ilt_nf hn, br_f]
    rw [List.drop_of_length_le (by omega)]
    simp
  | succ d ih =>
    intro n K hd hK
    obtain ⟨k, rfl⟩ := succ_of hK
    have hn : n < xs.length := by omega
    simp only [slices_IndexFunc_LI_int_l0, ilt_n hn, inb_n hn, br_t, chk_t]
    obtain ⟨y, r, e1, e2, e3⟩ := drop_split hn
    rw [wrap_succ (by omega), rdI_n hn, ih (n + 1) k (by omega) (by omega), hf _ (List.getElem_mem hn), bind_some', br_ite, e1, e2, e3, findAt_cons]
    by_cases h : g y = true
    · simp [h]
    · simp [h]
theorem ContainsFunc_LI_int_eq {N : Nat} {xs : List (Int)} {f : Int → Option Bool} {g : Int → Bool} (hf : ∀ x ∈ xs, f x = some (g x)) (hx : xs.length ≤ 1099511627776) (hN : xs.length < N) :
    slices_ContainsFunc_LI_int N xs f = some ((xs.any g, ()), ()) := by
  unfold slices_ContainsFunc_LI_int slices_IndexFunc_LI_int
  have := IndexFunc_LI_int_l0_eq N (fun x => some ((x, ()), ())) (fun _ => some (((-1 : Int), ()), ())) xs f g hf hx xs.length 0 N (by omega) (by omega)
  simp only [Int.natCast_zero, List.drop_zero] at this
  rw [tLen_n, this]
  by_cases h : xs.any g = true
  · rw [if_pos h, bind_some', ile_d, findAt_ge]
  · rw [if_neg h, bind_some']
    simp only [Bool.not_eq_true] at h
    rw [h]
    rfl
theorem IndexFunc_LLI_LI_l0_eq {R : Type} (N : Nat) (k0 : Int → Option R) (k1 : Unit → Option R) (xs : List (List Int)) (f : List Int → Option Bool) (g : List Int → Bool) (hf : ∀ x ∈ xs, f x = some (g x)) (hx : xs.length ≤ 1099511627776) : ∀ (d n : Nat) (K : Nat), n + d = xs.length → d < K →
    slices_IndexFunc_LLI_LI_l0 N k0 k1 K xs f (xs.length : Int) n = if (xs.drop n).any g = true then k0 (findAt g (xs.drop n) n) else k1 () := by
  intro d
  induction d with
  | zero =>
    intro n K hd hK
    obtain ⟨k, rfl⟩ := succ_of hK
    have hn : ¬ n < xs.length := by omega
    simp only [slices_IndexFunc_LLI_LI_l0, ilt_nf hn, br_f]
    rw [List.drop_of_length_le (by omega)]
    simp
  | succ d ih =>
    intro n K hd hK
    obtain ⟨k, rfl⟩ := succ_of hK
    have hn : n < xs.length := by omega
    simp only [slices_IndexFunc_LLI_LI_l0, ilt_n hn, inb_n hn, br_t, chk_t]
    obtain ⟨y, r, e1, e2, e3⟩ := drop_split hn
    rw [wrap_succ (by omega), rdL_n hn, ih (n + 1) k (by omega) (by omega), hf _ (List.getElem_mem hn), bind_some', br_ite, e1, e2, e3, findAt_cons]
    by_cases h : g y = true
    · simp [h]
    · simp [h]
theorem ContainsFunc_LLI_LI_eq {N : Nat} {xs : List (List Int)} {f : List Int → Option Bool} {g : List Int → Bool} (hf : ∀ x ∈ xs, f x = some (g x)) (hx : xs.length ≤ 1099511627776) (hN : xs.length < N) :
    slices_ContainsFunc_LLI_LI N xs f = some ((xs.any g, ()), ()) := by
  unfold slices_ContainsFunc_LLI_LI slices_IndexFunc_LLI_LI
  have := IndexFunc_LLI_LI_l0_eq N (fun x => some ((x, ()), ())) (fun _ => some (((-1 : Int), ()), ())) xs f g hf hx xs.length 0 N (by omega) (by omega)
  simp only [Int.natCast_zero, List.drop_zero] at this
  rw [tLen_n, this]
  by_cases h : xs.any g = true
  · rw [if_pos h, bind_some', ile_d, findAt_ge]
  · rw [if_neg h, bind_some']
    simp only [Bool.not_eq_true] at h
    rw [h]
    rfl
theorem IndexFunc_LP_P2_l0_eq {R : Type} (N : Nat) (k0 : Int → Option R) (k1 : Unit → Option R) (xs : List (Int × Int)) (f : Int × Int → Option Bool) (g : Int × Int → Bool) (hf : ∀ x ∈ xs, f x = some (g x)) (hx : xs.length ≤ 1099511627776) : ∀ (d n : Nat) (K : Nat), n + d = xs.length → d < K →
    slices_IndexFunc_LP_P2_l0 N k0 k1 K xs f (xs.length : Int) n = if (xs.drop n).any g = true then k0 (findAt g (xs.drop n) n) else k1 () := by
  intro d
  induction d with
  | zero =>
    intro n K hd hK
    obtain ⟨k, rfl⟩ := succ_of hK
    have hn : ¬ n < xs.length := by omega
    simp only [slices_IndexFunc_LP_P2_l0, ilt_nf hn, br_f]
    rw [List.drop_of_length_le (by omega)]
    simp
  | succ d ih =>
    intro n K hd hK
    obtain ⟨k, rfl⟩ := succ_of hK
    have hn : n < xs.length := by omega
    simp only [slices_IndexFunc_LP_P2_l0, ilt_n hn, inb_n hn, br_t, chk_t]
    obtain ⟨y, r, e1, e2, e3⟩ := drop_split hn
    rw [wrap_succ (by omega), rdP_n hn, ih (n + 1) k (by omega) (by omega), hf _ (List.getElem_mem hn), bind_some', br_ite, e1, e2, e3, findAt_cons]
    by_cases h : g y = true
    · simp [h]
    · simp [h]
theorem ContainsFunc_LP_P2_eq {N : Nat} {xs : List (Int × Int)} {f : Int × Int → Option Bool} {g : Int × Int → Bool} (hf : ∀ x ∈ xs, f x = some (g x)) (hx : xs.length ≤ 1099511627776) (hN : xs.length < N) :
    slices_ContainsFunc_LP_P2 N xs f = some ((xs.any g, ()), ()) := by
  unfold slices_ContainsFunc_LP_P2 slices_IndexFunc_LP_P2
  have := IndexFunc_LP_P2_l0_eq N (fun x => some ((x, ()), ())) (fun _ => some (((-1 : Int), ()), ())) xs f g hf hx xs.length 0 N (by omega) (by omega)
  simp only [Int.natCast_zero, List.drop_zero] at this
  rw [tLen_n, this]
  by_cases h : xs.any g = true
  · rw [if_pos h, bind_some', ile_d, findAt_ge]
  · rw [if_neg h, bind_some']
    simp only [Bool.not_eq_true] at h
    rw [h]
    rfl
theorem l1In_eq (N : Nat) (x a b : Int) : spec_l1In N x a b = some ((decide (a ≤ x ∧ x ≤ b), ()), ()) := by
  unfold spec_l1In
  rw [br_ite, ile_d, ile_d]
  by_cases h : a ≤ x <;> by_cases h' : x ≤ b <;> simp [h, h']
theorem between_eq (N : Nat) (n low high : Int) : impl_between N n low high = some ((decide (low ≤ n ∧ n ≤ high), ()), ()) := by
  unfold impl_between
  rw [br_ite, ile_d, ile_d]
  by_cases h : low ≤ n <;> by_cases h' : n ≤ high <;> simp [h, h']
def risingAt (lo hi : Int) (xs : List Int) (i : Nat) : Prop := (lo ≤ rdI xs i ∧ rdI xs i ≤ hi) ∧ (0 < i → rdI xs ((i - 1 : Nat) : Int) < rdI xs i)
def rising (lo hi : Int) (xs : List Int) : Prop := ∀ i, i < xs.length → risingAt lo hi xs i
theorem isRising_eq {N : Nat} {m : Int} {xs : List Int} (hx : xs.length ≤ 1048576) (hm : 0 ≤ m ∧ m ≤ 4611686018427387904) (hN : 1048577 ≤ N) : impl_isRising N xs m = some ((decide (rising 0 (m - 1) xs), ()), ()) := by
  unfold impl_isRising
  have := loop_all_if (P := rising 0 (m - 1) xs) (L := fun K i => impl_isRising_l0 N (fun x => some ((x, ()), ())) (fun (_ : Unit) => some ((true, ()), ())) K xs m xs (xs.length : Int) i) (risingAt 0 (m - 1) xs) Iff.rfl (kt := some ((true, ()), ())) (kf := some ((false, ()), ())) (fun K n hn => ?_) (fun K n hn hp => ?_) (fun K n hn hp => ?_) (show xs.length < N by omega)
  · rw [show ((0 : Nat) : Int) = 0 from rfl] at this
    rw [tLen_n, this]
    by_cases h : rising 0 (m - 1) xs <;> simp [h]
  · simp only [impl_isRising_l0, ilt_nf hn, br_f]
  · simp only [impl_isRising_l0, ilt_n hn, br_t, inb_n hn, chk_t, between_eq, bind_some', wrap_ok (show -9223372036854775808 ≤ m - 1 by omega) (show m - 1 < 9223372036854775808 by omega)]
    obtain ⟨h1, h2⟩ := hp
    rw [decide_eq_true h1, Bool.not_true, br_f]
    by_cases h0 : 0 < n
    · rw [ilt_0 h0, br_t, wrap_pred (by omega) h0, inb_n (by omega), chk_t, ile_f (by have := h2 h0; omega), br_f, wrap_succ (by omega)]
    · rw [ilt_0n h0, br_f, wrap_succ (by omega)]
  · simp only [impl_isRising_l0, ilt_n hn, br_t, inb_n hn, chk_t, between_eq, bind_some', wrap_ok (show -9223372036854775808 ≤ m - 1 by omega) (show m - 1 < 9223372036854775808 by omega)]
    by_cases h1 : 0 ≤ rdI xs n ∧ rdI xs n ≤ m - 1
    · rw [decide_eq_true h1, Bool.not_true, br_f]
      have h0 : 0 < n := by
        rcases Nat.eq_zero_or_pos n with h0 | h0
        · exact absurd ⟨h1, fun h' => by omega⟩ hp
        · exact h0
      have h4 : ¬ rdI xs ((n - 1 : Nat) : Int) < rdI xs n := fun h' => hp ⟨h1, fun _ => h'⟩
      rw [ilt_0 h0, br_t, wrap_pred (by omega) h0, inb_n (by omega), chk_t, ile_t (by omega), br_t]
    · rw [decide_eq_false h1, Bool.not_false, br_t]
def iotaI : Int → Nat → List Int
  | _, 0 => []
  | k, n + 1 => k :: iotaI (k + 1) n
theorem iotaI_len : ∀ (n : Nat) (k : Int), (iotaI k n).length = n := by
  intro n
  induction n with
  | zero => intro k; rfl
  | succ n ih => intro k; unfold iotaI; rw [List.length_cons, ih]
theorem markIntS_eq {N : Nat} {a : List Int} {k : Int} (hk : 0 ≤ k ∧ k ≤ 2305843009213693952) (ha : a.length ≤ 1048576) (hN : 1048577 ≤ N) : laws_markIntS N a k = some ((k + a.length, ()), (iotaI k a.length, ())) := by
  have go : ∀ (d n : Nat) (o : List Int) (K : Nat) (kv : Int), n + d = o.length → o.length ≤ 1048576 → d < K → 0 ≤ kv → kv + d ≤ 4611686018427387904 →
      laws_markIntS_l0 N (fun kv1 o => some ((kv1, ()), (o, ()))) K kv n o = some ((kv + d, ()), (o.take n ++ iotaI kv d, ())) := by
    intro d
    induction d with
    | zero =>
      intro n o K kv hd ho hK h0 h1
      obtain ⟨k, rfl⟩ := succ_of hK
      have hn : ¬ n < o.length := by omega
      simp only [laws_markIntS_l0, ilt_lenf hn, br_f, iotaI, List.append_nil]
      rw [List.take_of_length_le (by omega)]
      simp
    | succ d ih =>
      intro n o K kv hd ho hK h0 h1
      obtain ⟨k, rfl⟩ := succ_of hK
      have hn : n < o.length := by omega
      simp only [laws_markIntS_l0, ilt_len hn, br_t, inb_n hn, chk_t]
      rw [wrap_succ (by omega), wrap_ok (by omega) (by omega), tSet_n, ih (n + 1) _ k _ (by simp; omega) (by simpa using ho) (by omega) (by omega) (by omega)]
      congr 2
      · congr 1
        omega
      · rw [List.take_add_one, List.getElem?_set_self (by omega), List.take_set_of_le (Nat.le_refl n)]
        simp [iotaI]
  unfold laws_markIntS
  have := go a.length 0 a N k (by omega) ha (by omega) hk.1 (by omega)
  simpa using this
theorem heldIntS_eq {N : Nat} {n : Nat} {k : Int} (hk : 0 ≤ k ∧ k ≤ 2305843009213693952) (ha : n ≤ 1048576) (hN : 1048577 ≤ N) : laws_heldIntS N (iotaI k n) k = some ((k + n, ()), ()) := by
  have go : ∀ (d n : Nat) (xs : List Int) (K : Nat) (kv : Int), n + d = xs.length → xs.length ≤ 1048576 → d < K → 0 ≤ kv → kv + d ≤ 4611686018427387904 → xs.drop n = iotaI kv d →
      laws_heldIntS_l0 N (fun x => some ((x, ()), ())) (fun kv1 => some ((kv1, ()), ())) K xs kv n = some ((kv + d, ()), ()) := by
    intro d
    induction d with
    | zero =>
      intro n xs K kv hd ho hK h0 h1 e
      obtain ⟨k, rfl⟩ := succ_of hK
      have hn : ¬ n < xs.length := by omega
      simp only [laws_heldIntS_l0, ilt_lenf hn, br_f]
      simp
    | succ d ih =>
      intro n xs K kv hd ho hK h0 h1 e
      obtain ⟨k, rfl⟩ := succ_of hK
      have hn : n < xs.length := by omega
      rw [drop_cons hn] at e
      injection e with e1 e2
      simp only [laws_heldIntS_l0, ilt_len hn, br_t, inb_n hn, chk_t]
      rw [rdI_n hn, ine_f e1, br_f, wrap_succ (by omega), wrap_ok (by omega) (by omega), ih (n + 1) _ k _ (by omega) ho (by omega) (by omega) (by omega) e2]
      congr 3
      omega
  unfold laws_heldIntS
  have hl := iotaI_len n k
  have := go n 0 (iotaI k n) N k (by omega) (by omega) (by omega) hk.1 (by omega) rfl
  simpa using this
theorem l1Has_eq {N : Nat} {xs : List Int} {v : Int} (hx : xs.length ≤ 1048576) (hN : 1048577 ≤ N) : spec_l1Has N xs v = some ((decide (v ∈ xs), ()), ()) := by
  unfold spec_l1Has
  have := loop_all_if (P := ∀ x ∈ xs, x ≠ v) (L := fun K i => spec_l1Has_l0 N (fun x => some ((x, ()), ())) (fun (_ : Unit) => some ((false, ()), ())) K xs v i) (fun i => rdI xs i ≠ v) all_rdI (kt := some ((false, ()), ())) (kf := some ((true, ()), ())) (fun K n hn => ?_) (fun K n hn hp => ?_) (fun K n hn hp => ?_) (show xs.length < N by omega)
  · rw [show ((0 : Nat) : Int) = 0 from rfl] at this
    rw [this]
    by_cases h : v ∈ xs
    · rw [if_neg (fun h' => h' v h rfl), decide_eq_true h]
    · rw [if_pos (fun x hx (h' : x = v) => h (h' ▸ hx)), decide_eq_false h]
  · simp only [spec_l1Has_l0, ilt_lenf hn, br_f]
  · simp only [spec_l1Has_l0, ilt_len hn, br_t, inb_n hn, chk_t]
    rw [ieq_f hp, br_f, wrap_succ (by omega)]
  · simp only [spec_l1Has_l0, ilt_len hn, br_t, inb_n hn, chk_t]
    rw [ieq_t (Decidable.not_not.1 hp), br_t]
theorem szIntA2S_eq (N : Nat) {xs : List (Int × Int)} {left : Int} (hl : 0 ≤ left ∧ left ≤ 1048576) (hx : xs.length ≤ 9223372036854775807) : laws_szIntA2S N xs left = some ((if (xs.length : Int) ≤ left then left - xs.length else -1, ()), ()) := by
  unfold laws_szIntA2S
  rw [tLen_n, wrap_ok (by omega) (by omega)]
  by_cases h : (xs.length : Int) ≤ left
  · rw [ilt_f (by omega), br_f, if_pos h]
  · rw [ilt_t (by omega), br_t, if_neg h]
theorem szGraph_eq {N : Nat} {g : Int × List (Int × Int)} (hx : g.2.length ≤ 9223372036854775807) :
    ∃ r : Int, laws_szGraph N g 1048576 = some ((r, ()), ()) ∧ (0 ≤ r → g.2.length ≤ 1048576) := by
  unfold laws_szGraph
  rw [szIntA2S_eq N (by omega) hx, bind_some']
  by_cases h : (g.2.length : Int) ≤ 1048576
  · simp only [if_pos h]
    rw [ilt_f (by omega), br_f]
    exact ⟨_, rfl, fun _ => by omega⟩
  · simp only [if_neg h]
    rw [ilt_t (by omega), br_t]
    exact ⟨-1, rfl, fun h => by omega⟩
theorem toIntA2_eq (N : Nat) (a : Int × Int) : laws_toIntA2 N a = some ((a, ()), ()) := rfl
theorem toIntA2S_eq {N : Nat} {xs : List (Int × Int)} (hx : xs.length ≤ 1048576) (hN : 1048577 ≤ N) : laws_toIntA2S N xs = some ((xs, ()), ()) := by
  have go : ∀ (d n : Nat) (o : List (Int × Int)) (K : Nat), n + d = xs.length → d < K → o.length = xs.length →
      laws_toIntA2S_l0 N (fun o => some ((o, ()), ())) K xs n o = some ((o.take n ++ xs.drop n, ()), ()) := by
    intro d
    induction d with
    | zero =>
      intro n o K hd hK ho
      obtain ⟨k, rfl⟩ := succ_of hK
      have hn : ¬ n < xs.length := by omega
      simp only [laws_toIntA2S_l0, ilt_lenf hn, br_f]
      rw [List.take_of_length_le (by omega), List.drop_of_length_le (by omega), List.append_nil]
    | succ d ih =>
      intro n o K hd hK ho
      obtain ⟨k, rfl⟩ := succ_of hK
      have hn : n < xs.length := by omega
      have hno : n < o.length := by omega
      simp only [laws_toIntA2S_l0, ilt_len hn, inb_n hn, inb_n hno, br_t, chk_t, toIntA2_eq, bind_some']
      rw [wrap_succ (by omega), tSet_n, rdP_n hn, ih (n + 1) _ k (by omega) (by omega) (by simpa using ho)]
      congr 3
      obtain ⟨y, r, e1, e2, e3⟩ := drop_split hn
      rw [e1, e2, e3, List.take_add_one, List.getElem?_set_self (by omega), List.take_set_of_le (Nat.le_refl n)]
      simp
  unfold laws_toIntA2S
  simp only [tLen_n, ile_t (show (0 : Int) ≤ (xs.length : Int) by omega), ile_t (Int.le_refl _), fits_ok (show xs.length ≤ 1099511627776 by omega), Bool.and_self, chk_t]
  have := go xs.length 0 (tRep (xs.length : Int) (0, 0)) N (by omega) (by omega) (by simp [tRep])
  simp only [Int.natCast_zero, List.take_zero, List.drop_zero, List.nil_append] at this
  exact this
theorem toGraph_eq {N : Nat} {g : Int × List (Int × Int)} (hx : g.2.length ≤ 1048576) (hN : 1048577 ≤ N) : laws_toGraph N g = some ((g, ()), ()) := by
  unfold laws_toGraph
  rw [toIntA2S_eq hx hN, bind_some']
theorem eqIntA2_eq (N : Nat) (a b : Int × Int) : laws_eqIntA2 N a b = some ((decide (a = b), ()), ()) := by
  obtain ⟨a1, a2⟩ := a
  obtain ⟨b1, b2⟩ := b
  unfold laws_eqIntA2 laws_eqIntA2_l0
  by_cases h1 : a1 = b1
  · rw [ine_f h1, br_f]
    by_cases h2 : a2 = b2
    · rw [ine_f h2, br_f]; simp [h1, h2]
    · rw [ine_t h2, br_t]; simp [h2]
  · rw [ine_t h1, br_t]; simp [h1]
theorem eqIntA2S_eq {N : Nat} {a b : List (Int × Int)} (hx : a.length ≤ 1048576) (hN : 1048577 ≤ N) : laws_eqIntA2S N a b = some ((decide (a = b), ()), ()) := by
  unfold laws_eqIntA2S
  simp only [tLen_n]
  by_cases hl : a.length = b.length
  · rw [ine_f (by omega), br_f]
    have := loop_all_if (P := a = b) (m := a.length) (L := fun K i => laws_eqIntA2S_l0 N (fun x => some ((x, ()), ())) (fun (_ : Unit) => some ((true, ()), ())) K a b i) (fun i => rdP a i = rdP b i) ⟨fun h i _ => by rw [h], fun h => List.ext_getElem hl fun i h1 h2 => by have := h i h1; rwa [rdP_n h1, rdP_n h2] at this⟩ (kt := some ((true, ()), ())) (kf := some ((false, ()), ())) (fun K n hn => ?_) (fun K n hn hp => ?_) (fun K n hn hp => ?_) (show a.length < N by omega)
    · rw [show ((0 : Nat) : Int) = 0 from rfl] at this
      rw [this]
      by_cases h : a = b <;> simp [h]
    · simp only [laws_eqIntA2S_l0, ilt_lenf hn, br_f]
    · simp only [laws_eqIntA2S_l0, ilt_len hn, inb_n hn, inb_n (show n < b.length by omega), br_t, chk_t, eqIntA2_eq, bind_some']
      rw [decide_eq_true hp, Bool.not_true, br_f, wrap_succ (by omega)]
    · simp only [laws_eqIntA2S_l0, ilt_len hn, inb_n hn, inb_n (show n < b.length by omega), br_t, chk_t, eqIntA2_eq, bind_some']
      rw [decide_eq_false hp, Bool.not_false, br_t]
  · rw [ine_t (by omega), br_t]
    have : a ≠ b := fun h => hl (by rw [h])
    simp [this]
theorem eqGraph_eq {N : Nat} {a b : Int × List (Int × Int)} (hx : a.2.length ≤ 1048576) (hN : 1048577 ≤ N) : laws_eqGraph N a b = some ((decide (a = b), ()), ()) := by
  obtain ⟨a1, a2⟩ := a
  obtain ⟨b1, b2⟩ := b
  unfold laws_eqGraph
  by_cases h1 : a1 = b1
  · rw [ine_f h1, br_f, eqIntA2S_eq hx hN, bind_some', br_ite]
    by_cases h2 : a2 = b2 <;> simp [h1, h2]
  · rw [ine_t h1, br_t]
    simp [h1]
def edgeLt (a b : Int × Int) : Prop := a.1 < b.1 ∨ a.1 = b.1 ∧ a.2 < b.2
def pairAt (m : Int) (es : List (Int × Int)) (i : Nat) : Prop := (0 ≤ (rdP es i).1 ∧ (rdP es i).1 < (rdP es i).2 ∧ (rdP es i).2 < m) ∧ (0 < i → edgeLt (rdP es ((i - 1 : Nat) : Int)) (rdP es i))
def goodG (g : Int × List (Int × Int)) : Prop := (0 ≤ g.1 ∧ g.1 ≤ 8) ∧ ∀ i, i < g.2.length → pairAt g.1 g.2 i
theorem goodG_edges {g : Int × List (Int × Int)} (h : goodG g) : ∀ e ∈ g.2, 0 ≤ e.1 ∧ e.1 < e.2 ∧ e.2 < g.1 :=
  all_rdP.2 fun i hi => (h.2 i hi).1
theorem l2Edge_eq (N : Nat) (a b : Int × Int) : spec_l2Edge N a b = some ((decide (edgeLt a b), ()), ()) := by
  unfold spec_l2Edge edgeLt
  by_cases h1 : a.1 < b.1
  · rw [ilt_t h1, br_t]; simp [h1]
  · rw [ilt_f h1, br_f]
    by_cases h2 : a.1 = b.1
    · rw [ieq_t h2, br_t, ilt_d]; simp [h2]
    · rw [ieq_f h2, br_f]; simp [h1, h2]
theorem compare_eq (N : Nat) (x y : Int) : cmp_Compare_int N x y = some ((if x < y then -1 else if y < x then 1 else 0, ()), ()) := by
  unfold cmp_Compare_int cmp_isNaN_int
  simp only [bind_some', ine_f (rfl : x = x), ine_f (rfl : y = y), br_f]
  by_cases h1 : x < y
  · rw [ilt_t h1, br_t, if_pos h1]
  · rw [ilt_f h1, br_f, if_neg h1]
    by_cases h2 : y < x
    · rw [ilt_t h2, br_t, if_pos h2]
    · rw [ilt_f h2, br_f, if_neg h2]
theorem Or2_eq {N : Nat} (hN : 1048577 ≤ N) (a b : Int) : cmp_Or_int N [a, b] = some ((if a = 0 then b else a, ()), ()) := by
  obtain ⟨k, rfl⟩ : ∃ k, N = k + 3 := ⟨N - 3, by omega⟩
  unfold cmp_Or_int
  rw [show tLen [a, b] = 2 from rfl]
  simp only [cmp_Or_int_l0]
  rw [show inb [a, b] 0 = true from rfl, show rdI [a, b] 0 = a from rfl, show IntKind.i64.wrap (0 + 1) = 1 from rfl, show inb [a, b] 1 = true from rfl, show rdI [a, b] 1 = b from rfl, show IntKind.i64.wrap (1 + 1) = 2 from rfl, show ilt 0 2 = true from rfl, show ilt 1 2 = true from rfl, show ilt 2 2 = false from rfl, chk_t, chk_t, br_t, br_t, br_f]
  by_cases h : a = 0
  · rw [ine_f h, br_f, if_pos h]
    by_cases h' : b = 0
    · rw [ine_f h', br_f, h']
    · rw [ine_t h', br_t]
  · rw [ine_t h, br_t, if_neg h]
theorem comparePairs_eq {N : Nat} (hN : 1048577 ≤ N) (a b : Int × Int) : ∃ r : Int, impl_comparePairs N a b = some ((r, ()), ()) ∧ (r < 0 ↔ edgeLt a b) ∧ (r = 0 ↔ a = b) := by
  obtain ⟨a1, a2⟩ := a
  obtain ⟨b1, b2⟩ := b
  unfold impl_comparePairs edgeLt
  simp only [compare_eq, bind_some', Or2_eq hN]
  refine ⟨_, rfl, ?_, ?_⟩
  · by_cases h1 : a1 < b1
    · simp [h1]
    · by_cases h2 : b1 < a1
      · simp [h1, h2]; omega
      · have : a1 = b1 := by omega
        simp only [if_neg h1, if_neg h2, if_pos, this, Int.lt_irrefl, false_or, true_and]
        by_cases h3 : a2 < b2
        · simp [h3]
        · by_cases h4 : b2 < a2
          · simp [h3, h4]
          · simp [h3, h4]
  · rw [Prod.mk.injEq]
    by_cases h1 : a1 < b1
    · simp [h1]; omega
    · by_cases h2 : b1 < a1
      · simp [h1, h2]; omega
      · have : a1 = b1 := by omega
        simp only [if_neg h1, if_neg h2, if_pos, this, true_and]
        by_cases h3 : a2 < b2
        · simp [h3]; omega
        · by_cases h4 : b2 < a2
          · simp [h3, h4]; omega
          · simp [h3, h4]; omega
theorem l2Pairs_eq {N : Nat} {m : Int} {es : List (Int × Int)} (hm : 0 ≤ m ∧ m ≤ 8) (hx : es.length ≤ 1048576) (hN : 1048577 ≤ N) : spec_l2Pairs N es m = some ((decide (∀ i, i < es.length → pairAt m es i), ()), ()) := by
  unfold spec_l2Pairs
  have := loop_all_if (P := ∀ i, i < es.length → pairAt m es i) (m := es.length) (L := fun K i => spec_l2Pairs_l0 N (fun x => some ((x, ()), ())) (fun (_ : Unit) => some ((true, ()), ())) K es m i) (pairAt m es) Iff.rfl (kt := some ((true, ()), ())) (kf := some ((false, ()), ())) (fun K n hn => ?_) (fun K n hn hp => ?_) (fun K n hn hp => ?_) (show es.length < N by omega)
  · rw [show ((0 : Nat) : Int) = 0 from rfl] at this
    rw [this]
    by_cases h : ∀ i, i < es.length → pairAt m es i
    · rw [if_pos h, decide_eq_true h]
    · rw [if_neg h, decide_eq_false h]
  · simp only [spec_l2Pairs_l0, ilt_lenf hn, br_f]
  · simp only [spec_l2Pairs_l0, ilt_len hn, inb_n hn, br_t, chk_t, l1In_eq, l2Edge_eq, bind_some', wrap_ok (show -9223372036854775808 ≤ m - 1 by omega) (show m - 1 < 9223372036854775808 by omega)]
    obtain ⟨⟨p1, p2, p3⟩, p4⟩ := hp
    rw [decide_eq_true (show 0 ≤ (rdP es n).1 ∧ (rdP es n).1 ≤ m - 1 by omega), decide_eq_true (show 0 ≤ (rdP es n).2 ∧ (rdP es n).2 ≤ m - 1 by omega), Bool.not_true, br_f, br_f, ile_f (by omega), br_f]
    by_cases h0 : 0 < n
    · rw [ilt_0 h0, br_t, wrap_pred (by omega) h0, inb_n (by omega), chk_t, decide_eq_true (p4 h0), Bool.not_true, br_f, wrap_succ (by omega)]
    · rw [ilt_0n h0, br_f, wrap_succ (by omega)]
  · simp only [spec_l2Pairs_l0, ilt_len hn, inb_n hn, br_t, chk_t, l1In_eq, l2Edge_eq, bind_some', wrap_ok (show -9223372036854775808 ≤ m - 1 by omega) (show m - 1 < 9223372036854775808 by omega)]
    by_cases q1 : 0 ≤ (rdP es n).1 ∧ (rdP es n).1 ≤ m - 1
    · rw [decide_eq_true q1, Bool.not_true, br_f]
      by_cases q2 : 0 ≤ (rdP es n).2 ∧ (rdP es n).2 ≤ m - 1
      · rw [decide_eq_true q2, Bool.not_true, br_f]
        by_cases q3 : (rdP es n).2 ≤ (rdP es n).1
        · rw [ile_t q3, br_t]
        · rw [ile_f q3, br_f]
          have h0 : 0 < n := by
            rcases Nat.eq_zero_or_pos n with h0 | h0
            · exact absurd ⟨⟨by omega, by omega, by omega⟩, fun h' => by omega⟩ hp
            · exact h0
          have h4 : ¬ edgeLt (rdP es ((n - 1 : Nat) : Int)) (rdP es n) := fun h' => hp ⟨⟨by omega, by omega, by omega⟩, fun _ => h'⟩
          rw [ilt_0 h0, br_t, wrap_pred (by omega) h0, inb_n (by omega), chk_t, decide_eq_false h4, Bool.not_false, br_t]
      · rw [decide_eq_false q2, Bool.not_false, br_t]
    · rw [decide_eq_false q1, Bool.not_false, br_t]
theorem isPairs_eq {N : Nat} {m : Int} {es : List (Int × Int)} (hm : 0 ≤ m ∧ m ≤ 8) (hx : es.length ≤ 1048576) (hN : 1048577 ≤ N) : impl_isPairs N es m = some ((decide (∀ i, i < es.length → pairAt m es i), ()), ()) := by
  unfold impl_isPairs
  have := loop_all_if (P := ∀ i, i < es.length → pairAt m es i) (m := es.length) (L := fun K i => impl_isPairs_l0 N (fun x => some ((x, ()), ())) (fun (_ : Unit) => some ((true, ()), ())) K es m es (es.length : Int) i) (pairAt m es) Iff.rfl (kt := some ((true, ()), ())) (kf := some ((false, ()), ())) (fun K n hn => ?_) (fun K n hn hp => ?_) (fun K n hn hp => ?_) (show es.length < N by omega)
  · rw [show ((0 : Nat) : Int) = 0 from rfl] at this
    rw [tLen_n, this]
    by_cases h : ∀ i, i < es.length → pairAt m es i
    · rw [if_pos h, decide_eq_true h]
    · rw [if_neg h, decide_eq_false h]
  · simp only [impl_isPairs_l0, ilt_nf hn, br_f]
  · simp only [impl_isPairs_l0, ilt_n hn, inb_n hn, br_t, chk_t]
    obtain ⟨⟨p1, p2, p3⟩, p4⟩ := hp
    rw [ilt_f (by omega), br_f, ile_f (by omega), br_f, ile_f (by omega), br_f]
    by_cases h0 : 0 < n
    · rw [ilt_0 h0, br_t, wrap_pred (by omega) h0, inb_n (by omega), chk_t]
      obtain ⟨r, r1, r2, _⟩ := comparePairs_eq hN (rdP es ((n - 1 : Nat) : Int)) ((rdP es n).1, (rdP es n).2)
      have := r2.2 (p4 h0)
      rw [r1]
      simp only [bind_some']
      rw [ile_f (by omega), br_f, wrap_succ (by omega)]
    · rw [ilt_0n h0, br_f, wrap_succ (by omega)]
  · simp only [impl_isPairs_l0, ilt_n hn, inb_n hn, br_t, chk_t]
    by_cases q1 : (rdP es n).1 < 0
    · rw [ilt_t q1, br_t]
    · rw [ilt_f q1, br_f]
      by_cases q2 : (rdP es n).2 ≤ (rdP es n).1
      · rw [ile_t q2, br_t]
      · rw [ile_f q2, br_f]
        by_cases q3 : m ≤ (rdP es n).2
        · rw [ile_t q3, br_t]
        · rw [ile_f q3, br_f]
          have h0 : 0 < n := by
            rcases Nat.eq_zero_or_pos n with h0 | h0
            · exact absurd ⟨⟨by omega, by omega, by omega⟩, fun h' => by omega⟩ hp
            · exact h0
          have h4 : ¬ edgeLt (rdP es ((n - 1 : Nat) : Int)) (rdP es n) := fun h' => hp ⟨⟨by omega, by omega, by omega⟩, fun _ => h'⟩
          rw [ilt_0 h0, br_t, wrap_pred (by omega) h0, inb_n (by omega), chk_t]
          obtain ⟨r, r1, r2, _⟩ := comparePairs_eq hN (rdP es ((n - 1 : Nat) : Int)) ((rdP es n).1, (rdP es n).2)
          have : ¬ r < 0 := fun h => h4 (r2.1 h)
          rw [r1]
          simp only [bind_some']
          rw [ile_t (by omega), br_t]
theorem l2Good_eq {N : Nat} {g : Int × List (Int × Int)} (hx : g.2.length ≤ 1048576) (hN : 1048577 ≤ N) : spec_l2Good N g = some ((decide (goodG g), ()), ()) := by
  unfold spec_l2Good
  rw [l1In_eq, bind_some']
  by_cases h : 0 ≤ g.1 ∧ g.1 ≤ 8
  · rw [decide_eq_true h, br_t, l2Pairs_eq h hx hN, bind_some']
    congr 3
    exact decide_eq_decide.2 ⟨fun h' => ⟨h, h'⟩, fun h' => h'.2⟩
  · rw [decide_eq_false h, br_f, decide_eq_false (show ¬ goodG g from fun h' => h h'.1)]
theorem IsGraph_eq {N : Nat} {g : Int × List (Int × Int)} (hx : g.2.length ≤ 1048576) (hN : 1048577 ≤ N) : impl_IsGraph N g = some ((decide (goodG g), ()), ()) := by
  unfold impl_IsGraph
  rw [between_eq, bind_some']
  by_cases h : 0 ≤ g.1 ∧ g.1 ≤ 8
  · rw [decide_eq_true h, br_t, isPairs_eq h hx hN, bind_some']
    congr 3
    exact decide_eq_decide.2 ⟨fun h' => ⟨h, h'⟩, fun h' => h'.2⟩
  · rw [decide_eq_false h, br_f, decide_eq_false (show ¬ goodG g from fun h' => h h'.1)]
def colCase (g : Int × List (Int × Int)) (k : Int) : Prop := goodG g ∧ 1 ≤ k ∧ k ≤ 5
def proper (g : Int × List (Int × Int)) (k : Int) (cs : List Int) : Prop := (cs.length : Int) = g.1 ∧ (∀ x ∈ cs, 0 ≤ x ∧ x ≤ k - 1) ∧ ∀ e ∈ g.2, rdI cs e.1 ≠ rdI cs e.2
theorem l5Ask_eq {N : Nat} {g : Int × List (Int × Int)} {k : Int} (hx : g.2.length ≤ 1048576) (hN : 1048577 ≤ N) : spec_l5Ask N g k = some ((decide (colCase g k), ()), ()) := by
  unfold spec_l5Ask colCase
  simp only [l2Good_eq hx hN, bind_some', l1In_eq]
  by_cases h : goodG g <;> simp [h, br_ite]
theorem isColourCase_eq {N : Nat} {g : Int × List (Int × Int)} {k : Int} (hx : g.2.length ≤ 1048576) (hN : 1048577 ≤ N) : impl_isColourCase N g k = some ((decide (colCase g k), ()), ()) := by
  unfold impl_isColourCase colCase
  simp only [IsGraph_eq hx hN, bind_some', between_eq]
  by_cases h : goodG g <;> simp [h, br_ite]
theorem l5Proper_eq {N : Nat} {g : Int × List (Int × Int)} {k : Int} {cs : List Int} (hg : colCase g k) (hx : g.2.length ≤ 1048576) (hc : cs.length ≤ 1048576) (hN : 1048577 ≤ N) : spec_l5Proper N g k cs = some ((decide (proper g k cs), ()), ()) := by
  unfold spec_l5Proper
  by_cases h : (cs.length : Int) = g.1
  · rw [tLen_n, ine_f h, br_f]
    have hed := goodG_edges hg.1
    obtain ⟨hg1, hk⟩ := hg
    obtain ⟨m, es⟩ := g
    simp only at h hx hed
    subst h
    have e1 := loop_all_if (P := ∀ e ∈ es, rdI cs e.1 ≠ rdI cs e.2) (m := es.length) (L := fun K i => spec_l5Proper_l1 N (fun x1 => some ((x1, ()), ())) (fun (_ : Unit) => some ((true, ()), ())) K cs i (cs.length : Int) es) (fun i => rdI cs (rdP es i).1 ≠ rdI cs (rdP es i).2) all_rdP (kt := some ((true, ()), ())) (kf := some ((false, ()), ())) (fun K n hn => ?_) (fun K n hn hp => ?_) (fun K n hn hp => ?_) (show es.length < N by omega)
    · have e2 := loop_all_if (P := ∀ x ∈ cs, 0 ≤ x ∧ x ≤ k - 1) (m := cs.length) (L := fun K i => spec_l5Proper_l0 N (fun x => some ((x, ()), ())) (fun colours1 o o1 => spec_l5Proper_l1 N (fun x1 => some ((x1, ()), ())) (fun (_ : Unit) => some ((true, ()), ())) N colours1 0 o o1) K k cs i (cs.length : Int) es) (fun i => 0 ≤ rdI cs i ∧ rdI cs i ≤ k - 1) all_rdI (kt := spec_l5Proper_l1 N (fun x1 => some ((x1, ()), ())) (fun (_ : Unit) => some ((true, ()), ())) N cs 0 (cs.length : Int) es) (kf := some ((false, ()), ())) (fun K n hn => ?_) (fun K n hn hp => ?_) (fun K n hn hp => ?_) (show cs.length < N by omega)
      · rw [show ((0 : Nat) : Int) = 0 from rfl] at e1 e2
        rw [e2, e1]
        by_cases q1 : ∀ x ∈ cs, 0 ≤ x ∧ x ≤ k - 1
        · rw [if_pos q1]
          by_cases q2 : ∀ e ∈ es, rdI cs e.1 ≠ rdI cs e.2
          · rw [if_pos q2, decide_eq_true (show proper ((cs.length : Int), es) k cs from ⟨rfl, q1, q2⟩)]
          · rw [if_neg q2, decide_eq_false (show ¬ proper ((cs.length : Int), es) k cs from fun h => q2 h.2.2)]
        · rw [if_neg q1, decide_eq_false (show ¬ proper ((cs.length : Int), es) k cs from fun h => q1 h.2.1)]
      · simp only [spec_l5Proper_l0, ilt_nf hn, br_f]
      · simp only [spec_l5Proper_l0, ilt_n hn, inb_n hn, br_t, chk_t, l1In_eq, bind_some', wrap_ok (show -9223372036854775808 ≤ k - 1 by omega) (show k - 1 < 9223372036854775808 by omega), decide_eq_true hp, Bool.not_true, br_f]
        rw [wrap_succ (by omega)]
      · simp only [spec_l5Proper_l0, ilt_n hn, inb_n hn, br_t, chk_t, l1In_eq, bind_some', wrap_ok (show -9223372036854775808 ≤ k - 1 by omega) (show k - 1 < 9223372036854775808 by omega), decide_eq_false hp, Bool.not_false, br_t]
    · simp only [spec_l5Proper_l1, ilt_lenf hn, br_f]
    · have he := hed _ (List.getElem_mem hn)
      rw [← rdP_n hn] at he
      simp only [spec_l5Proper_l1, ilt_len hn, inb_n hn, br_t, chk_t]
      rw [inb_i (by omega) (by omega), inb_i (by omega) (by omega), chk_t, chk_t, ieq_f hp, br_f, wrap_succ (by omega)]
    · have he := hed _ (List.getElem_mem hn)
      rw [← rdP_n hn] at he
      simp only [spec_l5Proper_l1, ilt_len hn, inb_n hn, br_t, chk_t]
      rw [inb_i (by omega) (by omega), inb_i (by omega) (by omega), chk_t, chk_t, ieq_t (Decidable.not_not.1 hp), br_t]
  · rw [tLen_n, ine_t h, br_t, decide_eq_false (show ¬ proper g k cs from fun h' => h h'.1)]
theorem impl_isColouring_eq {N : Nat} {g : Int × List (Int × Int)} {k : Int} {cs : List Int} (hg : colCase g k) (hx : g.2.length ≤ 1048576) (hc : cs.length ≤ 1048576) (hN : 1048577 ≤ N) : impl_Graph_isColouring N g k cs = some ((decide (proper g k cs), ()), ()) := by
  unfold impl_Graph_isColouring
  by_cases h : (cs.length : Int) = g.1
  · rw [tLen_n, ine_f h, br_f]
    have hed := goodG_edges hg.1
    obtain ⟨hg1, hk⟩ := hg
    rw [ContainsFunc_LI_int_eq (g := fun x => !decide (0 ≤ x ∧ x ≤ k - 1)) (fun x _ => by simp only [impl_Graph_isColouring_c1, between_eq, bind_some', wrap_ok (show -9223372036854775808 ≤ k - 1 by omega) (show k - 1 < 9223372036854775808 by omega)]) (by omega) (by omega), bind_some',
      ContainsFunc_LP_P2_eq (g := fun e => decide (rdI cs e.1 = rdI cs e.2)) (fun e he => by
        have := hed e he
        simp only [impl_Graph_isColouring_c2, inb_i (show 0 ≤ e.1 by omega) (show e.1 < cs.length by omega), inb_i (show 0 ≤ e.2 by omega) (show e.2 < cs.length by omega), chk_t, bind_some', ieq_d]) (by omega) (by omega), bind_some', not_any]
    by_cases q1 : ∀ x ∈ cs, 0 ≤ x ∧ x ≤ k - 1
    · have q1' : (cs.any fun x => !decide (0 ≤ x ∧ x ≤ k - 1)) = false := by
        rw [List.any_eq_false]
        intro x hx
        simp [q1 x hx]
      rw [q1', br_f]
      congr 3
      exact decide_eq_decide.2 ⟨fun q2 => ⟨h, q1, fun e he => by simpa using q2 e he⟩, fun h' e he => by simpa using h'.2.2 e he⟩
    · have q1' : (cs.any fun x => !decide (0 ≤ x ∧ x ≤ k - 1)) = true := by
        refine Classical.byContradiction fun hn => q1 fun x hx => ?_
        have := List.any_eq_false.1 (Bool.eq_false_iff.2 hn) x hx
        simpa using this
      rw [q1', br_t, decide_eq_false (show ¬ proper g k cs from fun h' => q1 h'.2.1)]
  · rw [tLen_n, ine_t h, br_t, decide_eq_false (show ¬ proper g k cs from fun h' => h h'.1)]
def asc (xs : List Int) : Prop := xs.Pairwise (· ≤ ·)
theorem asc_perm : ∀ {a b : List Int}, asc a → asc b → a.Perm b → a = b := by
  intro a
  induction a with
  | nil => intro b _ _ hp; exact (List.nil_perm.1 hp).symm
  | cons x a ih =>
    intro b ha hb hp
    cases b with
    | nil => exact absurd (List.perm_nil.1 hp) (by simp)
    | cons y b =>
      obtain ⟨a1, a2⟩ := List.pairwise_cons.1 ha
      obtain ⟨b1, b2⟩ := List.pairwise_cons.1 hb
      have e : x = y := by
        have h1 : x ∈ y :: b := hp.mem_iff.1 (List.mem_cons_self ..)
        have h2 : y ∈ x :: a := hp.mem_iff.2 (List.mem_cons_self ..)
        rcases List.mem_cons.1 h1 with h1 | h1
        · exact h1
        · rcases List.mem_cons.1 h2 with h2 | h2
          · exact h2.symm
          · have := a1 y h2
            have := b1 x h1
            omega
      subst e
      rw [ih a2 b2 (List.Perm.cons_inv hp)]
theorem mergeI_asc (xs : List Int) : asc (mergeI xs) := by
  have := List.pairwise_mergeSort (le := fun x y : Int => decide (x ≤ y)) (fun a b c h1 h2 => by simp at *; omega) (fun a b => by simp; omega) xs
  exact this.imp fun h => by simpa using h
theorem mergeI_perm (xs : List Int) : (mergeI xs).Perm xs := List.mergeSort_perm ..
theorem markGraph_eq {N : Nat} {g : Int × List (Int × Int)} {k : Int} (hk : 0 ≤ k ∧ k ≤ 1152921504606846976) (hx : g.2.length ≤ 1048576) (hN : 1048577 ≤ N) : ∃ g', laws_markGraph N g k = some ((k + 2 * g.2.length, ()), (g', ())) := by
  have go : ∀ (d n : Nat) (o : List (Int × Int)) (K : Nat) (kv : Int), n + d = o.length → o.length ≤ 1048576 → d < K → 0 ≤ kv → kv + 2 * d ≤ 2305843009213693952 →
      ∃ o', laws_markIntA2S_l0 N (fun kv1 o => some ((kv1, ()), (o, ()))) K kv n o = some ((kv + 2 * d, ()), (o', ())) := by
    intro d
    induction d with
    | zero =>
      intro n o K kv hd ho hK h0 h1
      obtain ⟨k, rfl⟩ := succ_of hK
      simp only [laws_markIntA2S_l0, ilt_lenf (show ¬ n < o.length by omega), br_f]
      exact ⟨o, by simp⟩
    | succ d ih =>
      intro n o K kv hd ho hK h0 h1
      obtain ⟨k, rfl⟩ := succ_of hK
      have hn : n < o.length := by omega
      have hn2 : ∀ v, inb (tSet o (n : Int) v) (n : Int) = true := fun v => inb_n (by rw [tSet_n]; simpa using hn)
      simp only [laws_markIntA2S_l0, laws_markIntA2S_l0_0, ilt_len hn, br_t, inb_n hn, hn2, chk_t]
      rw [wrap_succ (by omega), wrap_ok (show -9223372036854775808 ≤ kv + 1 by omega) (by omega), wrap_ok (show -9223372036854775808 ≤ kv + 1 + 1 by omega) (by omega)]
      obtain ⟨o', h⟩ := ih (n + 1) (tSet (tSet o (n : Int) (kv, (rdP o n).2)) n ((rdP (tSet o (n : Int) (kv, (rdP o n).2)) n).1, kv + 1)) k (kv + 1 + 1) (by simp only [tSet_n, List.length_set]; omega) (by simp only [tSet_n, List.length_set]; omega) (by omega) (by omega) (by omega)
      refine ⟨o', h.trans ?_⟩
      congr 3
      omega
  unfold laws_markGraph laws_markIntA2S
  obtain ⟨o', h⟩ := go g.2.length 0 g.2 N k (by omega) hx (by omega) hk.1 (by omega)
  rw [show ((0 : Nat) : Int) = 0 from rfl] at h
  exact ⟨(g.1, o'), by rw [h]; rfl⟩
theorem isColoured_eq {N : Nat} {g : Int × List (Int × Int)} {k : Int} {ls : List (List Int)} (hx : g.2.length ≤ 1048576) (hls : ∀ l ∈ ls, l.length ≤ 1048576) (hl : ls.length ≤ 1000) (hN : 1048577 ≤ N) : impl_isColoured N g k ls = some ((decide (colCase g k ∧ ∀ l ∈ ls, proper g k l), ()), ()) := by
  unfold impl_isColoured
  simp only [isColourCase_eq hx hN, bind_some']
  by_cases h1 : colCase g k
  · rw [decide_eq_true h1, br_t, ContainsFunc_LLI_LI_eq (g := fun c => !decide (proper g k c)) (fun c h => by
      have := impl_isColouring_eq h1 hx (hls c h) hN
      simp only [impl_isColoured_c1, this, bind_some']) (by omega) (by omega)]
    simp only [bind_some']
    congr 3
    rw [not_any]
    refine decide_eq_decide.2 ⟨fun h => ⟨h1, fun l hl => ?_⟩, fun h l hl => ?_⟩
    · have := h l hl
      simpa using this
    · have := h.2 l hl
      simpa using this
  · rw [decide_eq_false h1, br_f, decide_eq_false (fun h => h1 h.1)]
theorem l5Given_eq {N : Nat} {g : Int × List (Int × Int)} {k : Int} {a : List Int} (hx : g.2.length ≤ 1048576) (ha : a.length ≤ 1048576) (hN : 1048577 ≤ N) : spec_l5Given N g k a = some ((decide (colCase g k ∧ proper g k a), ()), ()) := by
  unfold spec_l5Given
  simp only [l5Ask_eq hx hN, bind_some']
  by_cases h1 : colCase g k
  · rw [decide_eq_true h1, br_t, l5Proper_eq h1 hx ha hN, bind_some']
    congr 3
    exact decide_eq_decide.2 ⟨fun h => ⟨h1, h⟩, fun h => h.2⟩
  · rw [decide_eq_false h1, br_f, decide_eq_false (fun h => h1 h.1)]
theorem perm_of : ∀ {a b : List Int}, a.Nodup → (∀ x ∈ a, x ∈ b) → b.length ≤ a.length → a.Perm b := by
  intro a
  induction a with
  | nil =>
    intro b _ _ h
    have : b = [] := List.eq_nil_of_length_eq_zero (by simpa using h)
    rw [this]
  | cons x a ih =>
    intro b hn hs hl
    obtain ⟨n1, n2⟩ := List.nodup_cons.1 hn
    have hx : x ∈ b := hs x (List.mem_cons_self ..)
    have h1 := List.perm_cons_erase hx
    have hl2 := List.length_erase_of_mem hx
    have hb0 : 0 < b.length := List.length_pos_of_mem hx
    refine (List.Perm.cons x (ih n2 (fun y hy => ?_) (by rw [hl2]; simp at hl; omega))).trans h1.symm
    have hy2 : y ∈ b := hs y (List.mem_cons_of_mem _ hy)
    exact (List.mem_erase_of_ne (fun e : y = x => n1 (by rw [← e]; exact hy))).2 hy2
noncomputable def upL (n : Nat) : List Int := (List.range n).map fun i : Nat => (i : Int)
theorem mem_upL {n : Nat} {c : Int} : c ∈ upL n ↔ 0 ≤ c ∧ c < (n : Int) := by
  unfold upL
  rw [List.mem_map]
  constructor
  · rintro ⟨i, hi, rfl⟩
    rw [List.mem_range] at hi
    omega
  · rintro ⟨h1, h2⟩
    exact ⟨c.toNat, List.mem_range.2 (by omega), by omega⟩
theorem upL_len (n : Nat) : (upL n).length = n := by simp [upL]
theorem upL_nodup (n : Nat) : (upL n).Nodup := by
  unfold upL
  refine List.Pairwise.map _ (fun a b h e => h ?_) List.nodup_range
  omega
theorem upL_asc (n : Nat) : asc (upL n) := by
  unfold upL
  refine List.Pairwise.map _ (fun a b h => ?_) List.pairwise_lt_range
  omega
theorem upL_rd {n i : Nat} (h : i < n) : rdI (upL n) (i : Int) = (i : Int) := by
  rw [rdI_n (by rw [upL_len]; exact h)]
  simp [upL]
def isOrd (xs : List Int) (m : Int) : Prop := (xs.length : Int) = m ∧ ∀ c : Int, 0 ≤ c → c < m → c ∈ xs
theorem ord_perm {xs : List Int} {n : Nat} (h : isOrd xs (n : Int)) : (upL n).Perm xs :=
  perm_of (upL_nodup n) (fun c hc => h.2 c (mem_upL.1 hc).1 (mem_upL.1 hc).2) (by rw [upL_len]; have := h.1; omega)
theorem rising_up (n : Nat) : rising 0 ((n : Int) - 1) (upL n) := by
  intro i hi
  rw [upL_len] at hi
  refine ⟨?_, fun h0 => ?_⟩
  · rw [upL_rd hi]
    omega
  · rw [upL_rd hi, upL_rd (by omega)]
    omega
theorem rising_low {xs : List Int} {hi : Int} (h : rising 0 hi xs) : ∀ i : Nat, i < xs.length → (i : Int) ≤ rdI xs (i : Int) := by
  intro i
  induction i with
  | zero => intro h0; exact (h 0 h0).1.1
  | succ i ih =>
    intro h0
    have h1 := ih (by omega)
    have h2 := (h (i + 1) h0).2 (by omega)
    rw [show i + 1 - 1 = i by omega] at h2
    omega
theorem rising_high {xs : List Int} {hi : Int} (h : rising 0 hi xs) : ∀ (d i : Nat), i + d + 1 = xs.length → rdI xs (i : Int) + (d : Int) ≤ hi := by
  intro d
  induction d with
  | zero =>
    intro i hl
    have := (h i (by omega)).1.2
    omega
  | succ d ih =>
    intro i hl
    have h1 := ih (i + 1) (by omega)
    have h2 := (h (i + 1) (by omega)).2 (by omega)
    rw [show i + 1 - 1 = i by omega] at h2
    omega
theorem rising_ord {xs : List Int} {n : Nat} (hl : xs.length = n) : rising 0 ((n : Int) - 1) (mergeI xs) ↔ isOrd xs (n : Int) := by
  have hp := mergeI_perm xs
  have hml : (mergeI xs).length = n := hp.length_eq.trans hl
  constructor
  · intro h
    refine ⟨by omega, fun c h0 h1 => ?_⟩
    have hc : c.toNat < (mergeI xs).length := by omega
    have a1 := rising_low h c.toNat hc
    have a2 := rising_high h (n - 1 - c.toNat) c.toNat (by omega)
    have e : rdI (mergeI xs) (c.toNat : Int) = c := by omega
    rw [rdI_n hc] at e
    exact hp.mem_iff.1 (e ▸ List.getElem_mem hc)
  · intro h
    have e : mergeI xs = upL n := asc_perm (mergeI_asc xs) (upL_asc n) (hp.trans (ord_perm h).symm)
    rw [e]
    exact rising_up n
theorem isOrder_eq {N : Nat} {xs : List Int} {m : Int} (hx : xs.length ≤ 1048576) (hN : 1048577 ≤ N) : impl_isOrder N xs m = some ((decide (isOrd xs m), ()), ()) := by
  unfold impl_isOrder
  rw [tLen_n]
  by_cases h : (xs.length : Int) = m
  · rw [ieq_t h, br_t]
    unfold slices_Values_LI_int slices_Sorted_int_kslices_Values_LI_int_c1 sortVF
    rw [bind_some']
    simp only []
    rw [if_pos (by omega), bind_some']
    simp only []
    have hml : (mergeI xs).length = xs.length := (mergeI_perm xs).length_eq
    rw [isRising_eq (by omega) (by omega) hN, bind_some']
    simp only []
    rw [← h, decide_eq_decide.2 (rising_ord rfl)]
  · rw [ieq_f h, br_f, decide_eq_false fun q => h q.1]
noncomputable def renR (g : Int × List (Int × Int)) (k : Int) (cs to : List Int) : List Int × Bool := if (colCase g k ∧ proper g k cs) ∧ isOrd to k then (cs.map (rdI to), true) else ([], false)
theorem take_map_succ {cs : List Int} {f : Int → Int} {n : Nat} (h : n < cs.length) : (cs.take n).map f ++ [f (rdI cs (n : Int))] = (cs.take (n + 1)).map f := by
  rw [List.take_add_one, List.getElem?_eq_getElem h, List.map_append, rdI_n h]
  rfl
theorem RenameColours_both {N : Nat} {g : Int × List (Int × Int)} {k : Int} {cs to : List Int} (hx : g.2.length ≤ 1048576) (hc : cs.length ≤ 1048576) (ht : to.length ≤ 1048576) (hN : 1048577 ≤ N) :
    spec_RenameColours N g k cs to = some (((renR g k cs to).1, (renR g k cs to).2, ()), ()) ∧ impl_RenameColours N g k cs to = some (((renR g k cs to).1, (renR g k cs to).2, ()), ()) := by
  unfold spec_RenameColours impl_RenameColours renR
  simp only [show ((g.1, g.2) : Int × List (Int × Int)) = g from rfl]
  rw [l5Given_eq hx hc hN, bind_some', isColoured_eq hx (fun l hl => by rw [List.mem_singleton.1 hl]; exact hc) (by simp) hN, bind_some']
  simp only [List.mem_singleton, forall_eq]
  by_cases h : colCase g k ∧ proper g k cs
  · rw [decide_eq_true h]
    simp only [Bool.not_true, br_f]
    rw [isOrder_eq ht hN, bind_some']
    have hb : ∀ n : Nat, n < cs.length → 0 ≤ rdI cs (n : Int) ∧ rdI cs (n : Int) ≤ k - 1 := fun n hn => by
      rw [rdI_n hn]
      exact h.2.2.1 _ (List.getElem_mem hn)
    have hk5 := h.1.2
    have l1 : isOrd to k → ∀ (d n K : Nat) (o : List Int), n + d = cs.length → d < K → o = (cs.take n).map (rdI to) → spec_RenameColours_l1 N (fun o2 => some ((o2, true, ()), ())) K cs to (n : Int) o = some ((cs.map (rdI to), true, ()), ()) := by
      intro ho d
      have := ho.1
      induction d with
      | zero =>
        intro n K o hd hK e
        obtain ⟨K, rfl⟩ := succ_of hK
        simp only [spec_RenameColours_l1, ilt_lenf (show ¬ n < cs.length by omega), br_f]
        rw [e, List.take_of_length_le (by omega)]
      | succ d ih =>
        intro n K o hd hK e
        obtain ⟨K, rfl⟩ := succ_of hK
        have hn : n < cs.length := by omega
        have := hb n hn
        have hol : o.length = n := by rw [e]; simp; omega
        simp only [spec_RenameColours_l1, ilt_len hn, br_t, inb_n hn, chk_t]
        rw [inb_i (by omega) (by omega), chk_t, room_ok (by simp; omega), chk_t, wrap_succ (by omega), tApp_d]
        exact ih (n + 1) K _ (by omega) (by omega) (by rw [e]; exact take_map_succ hn)
    have l2 : isOrd to k → ∀ (d n K : Nat) (o : List Int), n + d = cs.length → d < K → o = (cs.take n).map (rdI to) → impl_RenameColours_l0 N (fun o => some ((o, true, ()), ())) K to cs (cs.length : Int) (n : Int) o = some ((cs.map (rdI to), true, ()), ()) := by
      intro ho d
      have := ho.1
      induction d with
      | zero =>
        intro n K o hd hK e
        obtain ⟨K, rfl⟩ := succ_of hK
        simp only [impl_RenameColours_l0, ilt_nf (show ¬ n < cs.length by omega), br_f]
        rw [e, List.take_of_length_le (by omega)]
      | succ d ih =>
        intro n K o hd hK e
        obtain ⟨K, rfl⟩ := succ_of hK
        have hn : n < cs.length := by omega
        have := hb n hn
        have hol : o.length = n := by rw [e]; simp; omega
        simp only [impl_RenameColours_l0, ilt_n hn, br_t, inb_n hn, chk_t]
        rw [inb_i (by omega) (by omega), chk_t, room_ok (by simp; omega), chk_t, wrap_succ (by omega), tApp_d]
        exact ih (n + 1) K _ (by omega) (by omega) (by rw [e]; exact take_map_succ hn)
    have hl0 := loop_all_if (P := ∀ i : Nat, i < k.toNat → (i : Int) ∈ to) (m := k.toNat) (L := fun K i => spec_RenameColours_l0 N (fun x o => some ((o, x, ()), ())) (fun colours1 to1 o1 => spec_RenameColours_l1 N (fun o2 => some ((o2, true, ()), ())) N colours1 to1 0 o1) K k cs to (i : Int) []) (fun i : Nat => (i : Int) ∈ to) Iff.rfl (kt := spec_RenameColours_l1 N (fun o2 => some ((o2, true, ()), ())) N cs to 0 []) (kf := some (([], false, ()), ())) (fun K n hn => by
      simp only [spec_RenameColours_l0]
      rw [ilt_f (by omega), br_f]) (fun K n hn hp => by
      simp only [spec_RenameColours_l0]
      rw [ilt_t (by omega), br_t, l1Has_eq ht hN, bind_some', decide_eq_true hp]
      simp only [Bool.not_true, br_f]
      rw [wrap_succ (by omega)]) (fun K n hn hp => by
      simp only [spec_RenameColours_l0]
      rw [ilt_t (by omega), br_t, l1Has_eq ht hN, bind_some', decide_eq_false hp]
      simp only [Bool.not_false, br_t]) (show k.toNat < N by omega)
    rw [show ((0 : Nat) : Int) = 0 from rfl] at hl0
    by_cases ho : isOrd to k
    · have hq : ∀ i : Nat, i < k.toNat → (i : Int) ∈ to := fun i hi => ho.2 _ (by omega) (by omega)
      rw [decide_eq_true ho, if_pos ⟨h, ho⟩, tLen_n, ine_f (by have := ho.1; omega), br_f, hl0, if_pos hq]
      simp only [Bool.not_true, br_f]
      rw [tLen_n]
      exact ⟨l1 ho cs.length 0 N [] (by omega) (by omega) (by simp), l2 ho cs.length 0 N [] (by omega) (by omega) (by simp)⟩
    · rw [decide_eq_false ho, if_neg fun q => ho q.2]
      simp only [Bool.not_false, br_t, and_true]
      by_cases hlen : (to.length : Int) = k
      · have hq : ¬ ∀ i : Nat, i < k.toNat → (i : Int) ∈ to := fun q => ho ⟨hlen, fun c h0 h1 => by
          have := q c.toNat (by omega)
          rwa [show ((c.toNat : Nat) : Int) = c by omega] at this⟩
        rw [tLen_n, ine_f (by omega), br_f, hl0, if_neg hq]
      · rw [tLen_n, ine_t hlen, br_t]
  · rw [decide_eq_false h, if_neg fun q => h q.1]
    simp only [Bool.not_false, br_t, and_self]
theorem renR_len (g : Int × List (Int × Int)) (k : Int) (cs to : List Int) : (renR g k cs to).1.length ≤ 8 := by
  unfold renR
  split
  · rename_i h
    have h1 := h.1.2.1
    have h2 := h.1.1.1.1
    rw [List.length_map]
    omega
  · simp
theorem RenameColours_pure {g : Int × List (Int × Int)} {k : Int} {cs to : List Int} (hx : g.2.length ≤ 9223372036854775807) : laws_FnExactRenameColours 1048577 g k cs to = some ((true, ()), ()) := by
  unfold laws_FnExactRenameColours
  have hN : 1048577 ≤ 1048577 := Nat.le_refl _
  rw [tLen_n, tLen_n]
  by_cases hb : cs.length ≤ 1048576
  · rw [ilt_f (by omega), br_f]
    by_cases ht : to.length ≤ 1048576
    · rw [ilt_f (by omega), br_f]
      obtain ⟨r, h1, h2⟩ := szGraph_eq (N := 1048577) hx
      simp only [h1, bind_some']
      by_cases h : 0 ≤ r
      · rw [ilt_f (by omega), br_f]
        have h3 := h2 h
        obtain ⟨s1, s2⟩ := RenameColours_both (k := k) h3 hb ht hN
        have hr := renR_len g k cs to
        have k0 : (0 : Int) ≤ 1 ∧ (1 : Int) ≤ 1152921504606846976 := by omega
        have k1 : (0 : Int) ≤ 1 ∧ (1 : Int) ≤ 2305843009213693952 := by omega
        obtain ⟨g', hmk⟩ := markGraph_eq (N := 1048577) k0 h3 hN
        have k2 : (0 : Int) ≤ 1 + 2 * (g.2.length : Int) ∧ 1 + 2 * (g.2.length : Int) ≤ 2305843009213693952 := by omega
        have k3 : (0 : Int) ≤ 1 + 2 * (g.2.length : Int) + (cs.length : Int) ∧ 1 + 2 * (g.2.length : Int) + (cs.length : Int) ≤ 2305843009213693952 := by omega
        simp only [toGraph_eq h3 hN, toIntS_eq hb hN, toIntS_eq ht hN, bind_some', s1, s2, eqGraph_eq h3 hN, eqIntS_eq (show cs.length ≤ 1099511627776 by omega) (show cs.length < 1048577 by omega), eqIntS_eq (show to.length ≤ 1099511627776 by omega) (show to.length < 1048577 by omega), eqIntS_eq (show (renR g k cs to).1.length ≤ 1099511627776 by omega) (show (renR g k cs to).1.length < 1048577 by omega), decide_true, Bool.not_true, br_f, hmk, markIntS_eq k2 hb hN, markIntS_eq k3 ht hN, ilt_f (show ¬ 1 + 2 * (g.2.length : Int) + (cs.length : Int) + (to.length : Int) < 0 by omega), markIntS_eq k1 (show (renR g k cs to).1.length ≤ 1048576 by omega) hN, heldIntS_eq k1 (show (renR g k cs to).1.length ≤ 1048576 by omega) hN, ilt_f (show ¬ 1 + ((renR g k cs to).1.length : Int) < 0 by omega), ine_f (rfl : 1 + ((renR g k cs to).1.length : Int) = 1 + ((renR g k cs to).1.length : Int))]
        simp [br_ite]
      · rw [ilt_t (by omega), br_t]
    · rw [ilt_t (by omega), br_t]
  · rw [ilt_t (by omega), br_t]
theorem RenameColours_pureT : ∀ x : argsT (psOf [QILQII, I, LI, LI]), WfA [QILQII, I, LI, LI] x → ∃ k m, (laws_FnExactRenameColours_S k).f x = some ((true, ()), m) :=
  fun x h => ⟨1048577, (), RenameColours_pure (len_ok h.1.2.1)⟩
end Go.Proofs.Ytkffaahlpdlkoaa
