/- Statements on data alone. -/
import Derived.Test.YtbnjcjpnpidhmaaPvPure
import Derived.Test.YtbnjcjpnpidhmaaKempeFc
set_option linter.all false
set_option linter.all false
namespace Go.Proofs.Ytbnjcjpnpidhmaa
open Go Go.PV Classical
theorem all_rdI {xs : List Int} {p : Int → Prop} : (∀ x ∈ xs, p x) ↔ ∀ i : Nat, i < xs.length → p (rdI xs i) := by
  constructor
  · intro h i hi
    rw [rdI_n hi]
    exact h _ (List.getElem_mem hi)
  · intro h x hx
    obtain ⟨i, hi, rfl⟩ := List.mem_iff_getElem.1 hx
    have := h i hi
    rwa [rdI_n hi] at this
theorem all_rdP {xs : List (Int × Int)} {p : Int × Int → Prop} : (∀ x ∈ xs, p x) ↔ ∀ i : Nat, i < xs.length → p (rdP xs i) := by
  constructor
  · intro h i hi
    rw [rdP_n hi]
    exact h _ (List.getElem_mem hi)
  · intro h x hx
    obtain ⟨i, hi, rfl⟩ := List.mem_iff_getElem.1 hx
    have := h i hi
    rwa [rdP_n hi] at this
theorem not_any {α : Type} {xs : List α} {f : α → Bool} : (!(xs.any f)) = decide (∀ x ∈ xs, f x = false) := by
  induction xs with
  | nil => simp
  | cons x xs ih =>
    rw [List.any_cons, Bool.not_or, ih]
    by_cases h : f x = true <;> simp [h]
def findAt {α : Type} (f : α → Bool) : List α → Nat → Int
  | [], _ => -1
  | x :: xs, n => if f x = true then (n : Int) else findAt f xs (n + 1)
theorem findAt_cons {α : Type} (f : α → Bool) (x : α) (xs : List α) (n : Nat) : findAt f (x :: xs) n = if f x = true then (n : Int) else findAt f xs (n + 1) := rfl
theorem findAt_ge {α : Type} (f : α → Bool) : ∀ (xs : List α) (n : Nat), decide (0 ≤ findAt f xs n) = xs.any f := by
  intro xs
  induction xs with
  | nil => intro n; rfl
  | cons x xs ih =>
    intro n
    unfold findAt
    by_cases h : f x = true
    · rw [if_pos h]
      simp [h]
    · rw [if_neg h, ih]
      simp [h]
theorem IndexFunc_LI_int_l0_eq {R : Type} (N : Nat) (k0 : Int → Option R) (k1 : Unit → Option R) (xs : List (Int)) (f : Int → Option Bool) (g : Int → Bool) (hf : ∀ x ∈ xs, f x = some (g x)) (hx : xs.length ≤ 1099511627776) : ∀ (d n : Nat) (K : Nat), n + d = xs.length → d < K →
    slices_IndexFunc_LI_int_l0 N k0 k1 K xs f (xs.length : Int) n = if (xs.drop n).any g = true then k0 (findAt g (xs.drop n) n) else k1 () := by
  intro d
  induction d with
  | zero =>
    intro n K hd hK
    obtain ⟨k, rfl⟩ := succ_of hK
    have hn : ¬ n < xs.length := by omega
    simp only [slices_IndexFunc_LI_int_l0, ilt_nf hn, br_f]
    rw [List.drop_of_length_le (by omega)]
    simp
  | succ d ih =>
    intro n K hd hK
    obtain ⟨k, rfl⟩ := succ_of hK
    have hn : n < xs.length := by omega
    simp only [slices_IndexFunc_LI_int_l0, ilt_n hn, inb_n hn, br_t, chk_t]
    obtain ⟨y, r, e1, e2, e3⟩ := drop_split hn
    rw [wrap_succ (by omega), rdI_n hn, ih (n + 1) k (by omega) (by omega), hf _ (List.getElem_mem hn), bind_some', br_ite, e1, e2, e3, findAt_cons]
    by_cases h : g y = true
    · simp [h]
    · simp [h]
theorem ContainsFunc_LI_int_eq {N : Nat} {xs : List (Int)} {f : Int → Option Bool} {g : Int → Bool} (hf : ∀ x ∈ xs, f x = some (g x)) (hx : xs.length ≤ 1099511627776) (hN : xs.length < N) :
    slices_ContainsFunc_LI_int N xs f = some ((xs.any g, ()), ()) := by
  unfold slices_ContainsFunc_LI_int slices_IndexFunc_LI_int
  have := IndexFunc_LI_int_l0_eq N (fun x => some ((x, ()), ())) (fun _ => some (((-1 : Int), ()), ())) xs f g hf hx xs.length 0 N (by omega) (by omega)
  simp only [Int.natCast_zero, List.drop_zero] at this
  rw [tLen_n, this]
  by_cases h : xs.any g = true
  · rw [if_pos h, bind_some', ile_d, findAt_ge]
  · rw [if_neg h, bind_some']
    simp only [Bool.not_eq_true] at h
    rw [h]
    rfl
theorem IndexFunc_LLI_LI_l0_eq {R : Type} (N : Nat) (k0 : Int → Option R) (k1 : Unit → Option R) (xs : List (List Int)) (f : List Int → Option Bool) (g : List Int → Bool) (hf : ∀ x ∈ xs, f x = some (g x)) (hx : xs.length ≤ 1099511627776) : ∀ (d n : Nat) (K : Nat), n + d = xs.length → d < K →
    slices_IndexFunc_LLI_LI_l0 N k0 k1 K xs f (xs.length : Int) n = if (xs.drop n).any g = true then k0 (findAt g (xs.drop n) n) else k1 () := by
  intro d
  induction d with
  | zero =>
    intro n K hd hK
    obtain ⟨k, rfl⟩ := succ_of hK
    have hn : ¬ n < xs.length := by omega
    simp only [slices_IndexFunc_LLI_LI_l0, ilt_nf hn, br_f]
    rw [List.drop_of_length_le (by omega)]
    simp
  | succ d ih =>
    intro n K hd hK
    obtain ⟨k, rfl⟩ := succ_of hK
    have hn : n < xs.length := by omega
    simp only [slices_IndexFunc_LLI_LI_l0, ilt_n hn, inb_n hn, br_t, chk_t]
    obtain ⟨y, r, e1, e2, e3⟩ := drop_split hn
    rw [wrap_succ (by omega), rdL_n hn, ih (n + 1) k (by omega) (by omega), hf _ (List.getElem_mem hn), bind_some', br_ite, e1, e2, e3, findAt_cons]
    by_cases h : g y = true
    · simp [h]
    · simp [h]
theorem ContainsFunc_LLI_LI_eq {N : Nat} {xs : List (List Int)} {f : List Int → Option Bool} {g : List Int → Bool} (hf : ∀ x ∈ xs, f x = some (g x)) (hx : xs.length ≤ 1099511627776) (hN : xs.length < N) :
    slices_ContainsFunc_LLI_LI N xs f = some ((xs.any g, ()), ()) := by
  unfold slices_ContainsFunc_LLI_LI slices_IndexFunc_LLI_LI
  have := IndexFunc_LLI_LI_l0_eq N (fun x => some ((x, ()), ())) (fun _ => some (((-1 : Int), ()), ())) xs f g hf hx xs.length 0 N (by omega) (by omega)
  simp only [Int.natCast_zero, List.drop_zero] at this
  rw [tLen_n, this]
  by_cases h : xs.any g = true
  · rw [if_pos h, bind_some', ile_d, findAt_ge]
  · rw [if_neg h, bind_some']
    simp only [Bool.not_eq_true] at h
    rw [h]
    rfl
theorem IndexFunc_LP_P2_l0_eq {R : Type} (N : Nat) (k0 : Int → Option R) (k1 : Unit → Option R) (xs : List (Int × Int)) (f : Int × Int → Option Bool) (g : Int × Int → Bool) (hf : ∀ x ∈ xs, f x = some (g x)) (hx : xs.length ≤ 1099511627776) : ∀ (d n : Nat) (K : Nat), n + d = xs.length → d < K →
    slices_IndexFunc_LP_P2_l0 N k0 k1 K xs f (xs.length : Int) n = if (xs.drop n).any g = true then k0 (findAt g (xs.drop n) n) else k1 () := by
  intro d
  induction d with
  | zero =>
    intro n K hd hK
    obtain ⟨k, rfl⟩ := succ_of hK
    have hn : ¬ n < xs.length := by omega
    simp only [slices_IndexFunc_LP_P2_l0, ilt_nf hn, br_f]
    rw [List.drop_of_length_le (by omega)]
    simp
  | succ d ih =>
    intro n K hd hK
    obtain ⟨k, rfl⟩ := succ_of hK
    have hn : n < xs.length := by omega
    simp only [slices_IndexFunc_LP_P2_l0, ilt_n hn, inb_n hn, br_t, chk_t]
    obtain ⟨y, r, e1, e2, e3⟩ := drop_split hn
    rw [wrap_succ (by omega), rdP_n hn, ih (n + 1) k (by omega) (by omega), hf _ (List.getElem_mem hn), bind_some', br_ite, e1, e2, e3, findAt_cons]
    by_cases h : g y = true
    · simp [h]
    · simp [h]
theorem ContainsFunc_LP_P2_eq {N : Nat} {xs : List (Int × Int)} {f : Int × Int → Option Bool} {g : Int × Int → Bool} (hf : ∀ x ∈ xs, f x = some (g x)) (hx : xs.length ≤ 1099511627776) (hN : xs.length < N) :
    slices_ContainsFunc_LP_P2 N xs f = some ((xs.any g, ()), ()) := by
  unfold slices_ContainsFunc_LP_P2 slices_IndexFunc_LP_P2
  have := IndexFunc_LP_P2_l0_eq N (fun x => some ((x, ()), ())) (fun _ => some (((-1 : Int), ()), ())) xs f g hf hx xs.length 0 N (by omega) (by omega)
  simp only [Int.natCast_zero, List.drop_zero] at this
  rw [tLen_n, this]
  by_cases h : xs.any g = true
  · rw [if_pos h, bind_some', ile_d, findAt_ge]
  · rw [if_neg h, bind_some']
    simp only [Bool.not_eq_true] at h
    rw [h]
    rfl
theorem l1In_eq (N : Nat) (x a b : Int) : spec_l1In N x a b = some ((decide (a ≤ x ∧ x ≤ b), ()), ()) := by
  unfold spec_l1In
  rw [br_ite, ile_d, ile_d]
  by_cases h : a ≤ x <;> by_cases h' : x ≤ b <;> simp [h, h']
theorem between_eq (N : Nat) (n low high : Int) : impl_between N n low high = some ((decide (low ≤ n ∧ n ≤ high), ()), ()) := by
  unfold impl_between
  rw [br_ite, ile_d, ile_d]
  by_cases h : low ≤ n <;> by_cases h' : n ≤ high <;> simp [h, h']
theorem l1Own_eq {N : Nat} {xs : List Int} (h : xs.length ≤ 1048576) : spec_l1Own N xs = some ((xs, ()), ()) := by
  unfold spec_l1Own
  rw [room_ok (by simp; omega), chk_t]
  rfl
theorem Clone_eq {N : Nat} {xs : List Int} (h : xs.length ≤ 1048576) : slices_Clone_LI_int N xs = some ((xs, ()), ()) := by
  unfold slices_Clone_LI_int
  rw [room_ok (by simp; omega), chk_t, br_ite, ieq_d, tLen_n]
  by_cases h0 : xs = []
  · subst h0
    simp only [tApp_d, List.append_nil, amb_same]
    simp
  · rw [if_neg (by simpa using h0)]
    rfl
theorem l1Has_eq {N : Nat} {xs : List Int} {v : Int} (hx : xs.length ≤ 1048576) (hN : 1048577 ≤ N) : spec_l1Has N xs v = some ((decide (v ∈ xs), ()), ()) := by
  unfold spec_l1Has
  have := loop_all_if (P := ∀ x ∈ xs, x ≠ v) (L := fun K i => spec_l1Has_l0 N (fun x => some ((x, ()), ())) (fun (_ : Unit) => some ((false, ()), ())) K xs v i) (fun i => rdI xs i ≠ v) all_rdI (kt := some ((false, ()), ())) (kf := some ((true, ()), ())) (fun K n hn => ?_) (fun K n hn hp => ?_) (fun K n hn hp => ?_) (show xs.length < N by omega)
  · rw [show ((0 : Nat) : Int) = 0 from rfl] at this
    rw [this]
    by_cases h : v ∈ xs
    · rw [if_neg (fun h' => h' v h rfl), decide_eq_true h]
    · rw [if_pos (fun x hx (h' : x = v) => h (h' ▸ hx)), decide_eq_false h]
  · simp only [spec_l1Has_l0, ilt_lenf hn, br_f]
  · simp only [spec_l1Has_l0, ilt_len hn, br_t, inb_n hn, chk_t]
    rw [ieq_f hp, br_f, wrap_succ (by omega)]
  · simp only [spec_l1Has_l0, ilt_len hn, br_t, inb_n hn, chk_t]
    rw [ieq_t (Decidable.not_not.1 hp), br_t]
theorem Contains_eq {N : Nat} {xs : List Int} {v : Int} (hx : xs.length ≤ 1048576) (hN : 1048577 ≤ N) : slices_Contains_LI_int N xs v = some ((decide (v ∈ xs), ()), ()) := by
  have go : ∀ (d n : Nat) (K : Nat), n + d = xs.length → d < K → ∃ i : Int, slices_Index_LI_int_l0 N (fun x => some ((x, ()), ())) (fun (_ : Unit) => some ((-1, ()), ())) K xs v (xs.length : Int) n = some ((i, ()), ()) ∧ decide (0 ≤ i) = decide (v ∈ xs.drop n) := by
    intro d
    induction d with
    | zero =>
      intro n K hd hK
      obtain ⟨k, rfl⟩ := succ_of hK
      have hn : ¬ n < xs.length := by omega
      simp only [slices_Index_LI_int_l0, ilt_nf hn, br_f]
      rw [List.drop_of_length_le (by omega)]
      exact ⟨-1, rfl, rfl⟩
    | succ d ih =>
      intro n K hd hK
      obtain ⟨k, rfl⟩ := succ_of hK
      have hn : n < xs.length := by omega
      simp only [slices_Index_LI_int_l0, ilt_n hn, br_t, inb_n hn, chk_t]
      obtain ⟨y, r, e1, e2, e3⟩ := drop_split hn
      rw [rdI_n hn, e1, e2]
      by_cases h : v = y
      · rw [ieq_t h, br_t]
        exact ⟨_, rfl, by simp [h]⟩
      · rw [ieq_f h, br_f, wrap_succ (by omega)]
        obtain ⟨i, h1, h2⟩ := ih (n + 1) k (by omega) (by omega)
        refine ⟨i, h1, ?_⟩
        rw [h2, e3]
        simp [h]
  unfold slices_Contains_LI_int slices_Index_LI_int
  obtain ⟨i, h1, h2⟩ := go xs.length 0 N (by omega) (by omega)
  simp only [Int.natCast_zero, List.drop_zero] at h1 h2
  rw [tLen_n, h1, bind_some', ile_d, h2]
def edgeLt (a b : Int × Int) : Prop := a.1 < b.1 ∨ a.1 = b.1 ∧ a.2 < b.2
def pairAt (m : Int) (es : List (Int × Int)) (i : Nat) : Prop := (0 ≤ (rdP es i).1 ∧ (rdP es i).1 < (rdP es i).2 ∧ (rdP es i).2 < m) ∧ (0 < i → edgeLt (rdP es ((i - 1 : Nat) : Int)) (rdP es i))
def goodG (g : Int × List (Int × Int)) : Prop := (0 ≤ g.1 ∧ g.1 ≤ 8) ∧ ∀ i, i < g.2.length → pairAt g.1 g.2 i
theorem goodG_edges {g : Int × List (Int × Int)} (h : goodG g) : ∀ e ∈ g.2, 0 ≤ e.1 ∧ e.1 < e.2 ∧ e.2 < g.1 :=
  all_rdP.2 fun i hi => (h.2 i hi).1
theorem l2Edge_eq (N : Nat) (a b : Int × Int) : spec_l2Edge N a b = some ((decide (edgeLt a b), ()), ()) := by
  unfold spec_l2Edge edgeLt
  by_cases h1 : a.1 < b.1
  · rw [ilt_t h1, br_t]; simp [h1]
  · rw [ilt_f h1, br_f]
    by_cases h2 : a.1 = b.1
    · rw [ieq_t h2, br_t, ilt_d]; simp [h2]
    · rw [ieq_f h2, br_f]; simp [h1, h2]
theorem compare_eq (N : Nat) (x y : Int) : cmp_Compare_int N x y = some ((if x < y then -1 else if y < x then 1 else 0, ()), ()) := by
  unfold cmp_Compare_int cmp_isNaN_int
  simp only [bind_some', ine_f (rfl : x = x), ine_f (rfl : y = y), br_f]
  by_cases h1 : x < y
  · rw [ilt_t h1, br_t, if_pos h1]
  · rw [ilt_f h1, br_f, if_neg h1]
    by_cases h2 : y < x
    · rw [ilt_t h2, br_t, if_pos h2]
    · rw [ilt_f h2, br_f, if_neg h2]
theorem Or2_eq {N : Nat} (hN : 1048577 ≤ N) (a b : Int) : cmp_Or_int N [a, b] = some ((if a = 0 then b else a, ()), ()) := by
  obtain ⟨k, rfl⟩ : ∃ k, N = k + 3 := ⟨N - 3, by omega⟩
  unfold cmp_Or_int
  rw [show tLen [a, b] = 2 from rfl]
  simp only [cmp_Or_int_l0]
  rw [show inb [a, b] 0 = true from rfl, show rdI [a, b] 0 = a from rfl, show IntKind.i64.wrap (0 + 1) = 1 from rfl, show inb [a, b] 1 = true from rfl, show rdI [a, b] 1 = b from rfl, show IntKind.i64.wrap (1 + 1) = 2 from rfl, show ilt 0 2 = true from rfl, show ilt 1 2 = true from rfl, show ilt 2 2 = false from rfl, chk_t, chk_t, br_t, br_t, br_f]
  by_cases h : a = 0
  · rw [ine_f h, br_f, if_pos h]
    by_cases h' : b = 0
    · rw [ine_f h', br_f, h']
    · rw [ine_t h', br_t]
  · rw [ine_t h, br_t, if_neg h]
theorem comparePairs_eq {N : Nat} (hN : 1048577 ≤ N) (a b : Int × Int) : ∃ r : Int, impl_comparePairs N a b = some ((r, ()), ()) ∧ (r < 0 ↔ edgeLt a b) ∧ (r = 0 ↔ a = b) := by
  obtain ⟨a1, a2⟩ := a
  obtain ⟨b1, b2⟩ := b
  unfold impl_comparePairs edgeLt
  simp only [compare_eq, bind_some', Or2_eq hN]
  refine ⟨_, rfl, ?_, ?_⟩
  · by_cases h1 : a1 < b1
    · simp [h1]
    · by_cases h2 : b1 < a1
      · simp [h1, h2]; omega
      · have : a1 = b1 := by omega
        simp only [if_neg h1, if_neg h2, if_pos, this, Int.lt_irrefl, false_or, true_and]
        by_cases h3 : a2 < b2
        · simp [h3]
        · by_cases h4 : b2 < a2
          · simp [h3, h4]
          · simp [h3, h4]
  · rw [Prod.mk.injEq]
    by_cases h1 : a1 < b1
    · simp [h1]; omega
    · by_cases h2 : b1 < a1
      · simp [h1, h2]; omega
      · have : a1 = b1 := by omega
        simp only [if_neg h1, if_neg h2, if_pos, this, true_and]
        by_cases h3 : a2 < b2
        · simp [h3]; omega
        · by_cases h4 : b2 < a2
          · simp [h3, h4]; omega
          · simp [h3, h4]; omega
theorem l2Pairs_eq {N : Nat} {m : Int} {es : List (Int × Int)} (hm : 0 ≤ m ∧ m ≤ 8) (hx : es.length ≤ 1048576) (hN : 1048577 ≤ N) : spec_l2Pairs N es m = some ((decide (∀ i, i < es.length → pairAt m es i), ()), ()) := by
  unfold spec_l2Pairs
  have := loop_all_if (P := ∀ i, i < es.length → pairAt m es i) (m := es.length) (L := fun K i => spec_l2Pairs_l0 N (fun x => some ((x, ()), ())) (fun (_ : Unit) => some ((true, ()), ())) K es m i) (pairAt m es) Iff.rfl (kt := some ((true, ()), ())) (kf := some ((false, ()), ())) (fun K n hn => ?_) (fun K n hn hp => ?_) (fun K n hn hp => ?_) (show es.length < N by omega)
  · rw [show ((0 : Nat) : Int) = 0 from rfl] at this
    rw [this]
    by_cases h : ∀ i, i < es.length → pairAt m es i
    · rw [if_pos h, decide_eq_true h]
    · rw [if_neg h, decide_eq_false h]
  · simp only [spec_l2Pairs_l0, ilt_lenf hn, br_f]
  · simp only [spec_l2Pairs_l0, ilt_len hn, inb_n hn, br_t, chk_t, l1In_eq, l2Edge_eq, bind_some', wrap_ok (show -9223372036854775808 ≤ m - 1 by omega) (show m - 1 < 9223372036854775808 by omega)]
    obtain ⟨⟨p1, p2, p3⟩, p4⟩ := hp
    rw [decide_eq_true (show 0 ≤ (rdP es n).1 ∧ (rdP es n).1 ≤ m - 1 by omega), decide_eq_true (show 0 ≤ (rdP es n).2 ∧ (rdP es n).2 ≤ m - 1 by omega), Bool.not_true, br_f, br_f, ile_f (by omega), br_f]
    by_cases h0 : 0 < n
    · rw [ilt_0 h0, br_t, wrap_pred (by omega) h0, inb_n (by omega), chk_t, decide_eq_true (p4 h0), Bool.not_true, br_f, wrap_succ (by omega)]
    · rw [ilt_0n h0, br_f, wrap_succ (by omega)]
  · simp only [spec_l2Pairs_l0, ilt_len hn, inb_n hn, br_t, chk_t, l1In_eq, l2Edge_eq, bind_some', wrap_ok (show -9223372036854775808 ≤ m - 1 by omega) (show m - 1 < 9223372036854775808 by omega)]
    by_cases q1 : 0 ≤ (rdP es n).1 ∧ (rdP es n).1 ≤ m - 1
    · rw [decide_eq_true q1, Bool.not_true, br_f]
      by_cases q2 : 0 ≤ (rdP es n).2 ∧ (rdP es n).2 ≤ m - 1
      · rw [decide_eq_true q2, Bool.not_true, br_f]
        by_cases q3 : (rdP es n).2 ≤ (rdP es n).1
        · rw [ile_t q3, br_t]
        · rw [ile_f q3, br_f]
          have h0 : 0 < n := by
            rcases Nat.eq_zero_or_pos n with h0 | h0
            · exact absurd ⟨⟨by omega, by omega, by omega⟩, fun h' => by omega⟩ hp
            · exact h0
          have h4 : ¬ edgeLt (rdP es ((n - 1 : Nat) : Int)) (rdP es n) := fun h' => hp ⟨⟨by omega, by omega, by omega⟩, fun _ => h'⟩
          rw [ilt_0 h0, br_t, wrap_pred (by omega) h0, inb_n (by omega), chk_t, decide_eq_false h4, Bool.not_false, br_t]
      · rw [decide_eq_false q2, Bool.not_false, br_t]
    · rw [decide_eq_false q1, Bool.not_false, br_t]
theorem isPairs_eq {N : Nat} {m : Int} {es : List (Int × Int)} (hm : 0 ≤ m ∧ m ≤ 8) (hx : es.length ≤ 1048576) (hN : 1048577 ≤ N) : impl_isPairs N es m = some ((decide (∀ i, i < es.length → pairAt m es i), ()), ()) := by
  unfold impl_isPairs
  have := loop_all_if (P := ∀ i, i < es.length → pairAt m es i) (m := es.length) (L := fun K i => impl_isPairs_l0 N (fun x => some ((x, ()), ())) (fun (_ : Unit) => some ((true, ()), ())) K es m es (es.length : Int) i) (pairAt m es) Iff.rfl (kt := some ((true, ()), ())) (kf := some ((false, ()), ())) (fun K n hn => ?_) (fun K n hn hp => ?_) (fun K n hn hp => ?_) (show es.length < N by omega)
  · rw [show ((0 : Nat) : Int) = 0 from rfl] at this
    rw [tLen_n, this]
    by_cases h : ∀ i, i < es.length → pairAt m es i
    · rw [if_pos h, decide_eq_true h]
    · rw [if_neg h, decide_eq_false h]
  · simp only [impl_isPairs_l0, ilt_nf hn, br_f]
  · simp only [impl_isPairs_l0, ilt_n hn, inb_n hn, br_t, chk_t]
    obtain ⟨⟨p1, p2, p3⟩, p4⟩ := hp
    rw [ilt_f (by omega), br_f, ile_f (by omega), br_f, ile_f (by omega), br_f]
    by_cases h0 : 0 < n
    · rw [ilt_0 h0, br_t, wrap_pred (by omega) h0, inb_n (by omega), chk_t]
      obtain ⟨r, r1, r2, _⟩ := comparePairs_eq hN (rdP es ((n - 1 : Nat) : Int)) ((rdP es n).1, (rdP es n).2)
      have := r2.2 (p4 h0)
      rw [r1]
      simp only [bind_some']
      rw [ile_f (by omega), br_f, wrap_succ (by omega)]
    · rw [ilt_0n h0, br_f, wrap_succ (by omega)]
  · simp only [impl_isPairs_l0, ilt_n hn, inb_n hn, br_t, chk_t]
    by_cases q1 : (rdP es n).1 < 0
    · rw [ilt_t q1, br_t]
    · rw [ilt_f q1, br_f]
      by_cases q2 : (rdP es n).2 ≤ (rdP es n).1
      · rw [ile_t q2, br_t]
      · rw [ile_f q2, br_f]
        by_cases q3 : m ≤ (rdP es n).2
        · rw [ile_t q3, br_t]
        · rw [ile_f q3, br_f]
          have h0 : 0 < n := by
            rcases Nat.eq_zero_or_pos n with h0 | h0
            · exact absurd ⟨⟨by omega, by omega, by omega⟩, fun h' => by omega⟩ hp
            · exact h0
          have h4 : ¬ edgeLt (rdP es ((n - 1 : Nat) : Int)) (rdP es n) := fun h' => hp ⟨⟨by omega, by omega, by omega⟩, fun _ => h'⟩
          rw [ilt_0 h0, br_t, wrap_pred (by omega) h0, inb_n (by omega), chk_t]
          obtain ⟨r, r1, r2, _⟩ := comparePairs_eq hN (rdP es ((n - 1 : Nat) : Int)) ((rdP es n).1, (rdP es n).2)
          have : ¬ r < 0 := fun h => h4 (r2.1 h)
          rw [r1]
          simp only [bind_some']
          rw [ile_t (by omega), br_t]
theorem l2Good_eq {N : Nat} {g : Int × List (Int × Int)} (hx : g.2.length ≤ 1048576) (hN : 1048577 ≤ N) : spec_l2Good N g = some ((decide (goodG g), ()), ()) := by
  unfold spec_l2Good
  rw [l1In_eq, bind_some']
  by_cases h : 0 ≤ g.1 ∧ g.1 ≤ 8
  · rw [decide_eq_true h, br_t, l2Pairs_eq h hx hN, bind_some']
    congr 3
    exact decide_eq_decide.2 ⟨fun h' => ⟨h, h'⟩, fun h' => h'.2⟩
  · rw [decide_eq_false h, br_f, decide_eq_false (show ¬ goodG g from fun h' => h h'.1)]
theorem IsGraph_eq {N : Nat} {g : Int × List (Int × Int)} (hx : g.2.length ≤ 1048576) (hN : 1048577 ≤ N) : impl_IsGraph N g = some ((decide (goodG g), ()), ()) := by
  unfold impl_IsGraph
  rw [between_eq, bind_some']
  by_cases h : 0 ≤ g.1 ∧ g.1 ≤ 8
  · rw [decide_eq_true h, br_t, isPairs_eq h hx hN, bind_some']
    congr 3
    exact decide_eq_decide.2 ⟨fun h' => ⟨h, h'⟩, fun h' => h'.2⟩
  · rw [decide_eq_false h, br_f, decide_eq_false (show ¬ goodG g from fun h' => h h'.1)]
def colCase (g : Int × List (Int × Int)) (k : Int) : Prop := goodG g ∧ 1 ≤ k ∧ k ≤ 5
def proper (g : Int × List (Int × Int)) (k : Int) (cs : List Int) : Prop := (cs.length : Int) = g.1 ∧ (∀ x ∈ cs, 0 ≤ x ∧ x ≤ k - 1) ∧ ∀ e ∈ g.2, rdI cs e.1 ≠ rdI cs e.2
theorem l5Ask_eq {N : Nat} {g : Int × List (Int × Int)} {k : Int} (hx : g.2.length ≤ 1048576) (hN : 1048577 ≤ N) : spec_l5Ask N g k = some ((decide (colCase g k), ()), ()) := by
  unfold spec_l5Ask colCase
  simp only [l2Good_eq hx hN, bind_some', l1In_eq]
  by_cases h : goodG g <;> simp [h, br_ite]
theorem isColourCase_eq {N : Nat} {g : Int × List (Int × Int)} {k : Int} (hx : g.2.length ≤ 1048576) (hN : 1048577 ≤ N) : impl_isColourCase N g k = some ((decide (colCase g k), ()), ()) := by
  unfold impl_isColourCase colCase
  simp only [IsGraph_eq hx hN, bind_some', between_eq]
  by_cases h : goodG g <;> simp [h, br_ite]
theorem l5Proper_eq {N : Nat} {g : Int × List (Int × Int)} {k : Int} {cs : List Int} (hg : colCase g k) (hx : g.2.length ≤ 1048576) (hc : cs.length ≤ 1048576) (hN : 1048577 ≤ N) : spec_l5Proper N g k cs = some ((decide (proper g k cs), ()), ()) := by
  unfold spec_l5Proper
  by_cases h : (cs.length : Int) = g.1
  · rw [tLen_n, ine_f h, br_f]
    have hed := goodG_edges hg.1
    obtain ⟨hg1, hk⟩ := hg
    obtain ⟨m, es⟩ := g
    simp only at h hx hed
    subst h
    have e1 := loop_all_if (P := ∀ e ∈ es, rdI cs e.1 ≠ rdI cs e.2) (m := es.length) (L := fun K i => spec_l5Proper_l1 N (fun x1 => some ((x1, ()), ())) (fun (_ : Unit) => some ((true, ()), ())) K cs i (cs.length : Int) es) (fun i => rdI cs (rdP es i).1 ≠ rdI cs (rdP es i).2) all_rdP (kt := some ((true, ()), ())) (kf := some ((false, ()), ())) (fun K n hn => ?_) (fun K n hn hp => ?_) (fun K n hn hp => ?_) (show es.length < N by omega)
    · have e2 := loop_all_if (P := ∀ x ∈ cs, 0 ≤ x ∧ x ≤ k - 1) (m := cs.length) (L := fun K i => spec_l5Proper_l0 N (fun x => some ((x, ()), ())) (fun colours1 o o1 => spec_l5Proper_l1 N (fun x1 => some ((x1, ()), ())) (fun (_ : Unit) => some ((true, ()), ())) N colours1 0 o o1) K k cs i (cs.length : Int) es) (fun i => 0 ≤ rdI cs i ∧ rdI cs i ≤ k - 1) all_rdI (kt := spec_l5Proper_l1 N (fun x1 => some ((x1, ()), ())) (fun (_ : Unit) => some ((true, ()), ())) N cs 0 (cs.length : Int) es) (kf := some ((false, ()), ())) (fun K n hn => ?_) (fun K n hn hp => ?_) (fun K n hn hp => ?_) (show cs.length < N by omega)
      · rw [show ((0 : Nat) : Int) = 0 from rfl] at e1 e2
        rw [e2, e1]
        by_cases q1 : ∀ x ∈ cs, 0 ≤ x ∧ x ≤ k - 1
        · rw [if_pos q1]
          by_cases q2 : ∀ e ∈ es, rdI cs e.1 ≠ rdI cs e.2
          · rw [if_pos q2, decide_eq_true (show proper ((cs.length : Int), es) k cs from ⟨rfl, q1, q2⟩)]
          · rw [if_neg q2, decide_eq_false (show ¬ proper ((cs.length : Int), es) k cs from fun h => q2 h.2.2)]
        · rw [if_neg q1, decide_eq_false (show ¬ proper ((cs.length : Int), es) k cs from fun h => q1 h.2.1)]
      · simp only [spec_l5Proper_l0, ilt_nf hn, br_f]
      · simp only [spec_l5Proper_l0, ilt_n hn, inb_n hn, br_t, chk_t, l1In_eq, bind_some', wrap_ok (show -9223372036854775808 ≤ k - 1 by omega) (show k - 1 < 9223372036854775808 by omega), decide_eq_true hp, Bool.not_true, br_f]
        rw [wrap_succ (by omega)]
      · simp only [spec_l5Proper_l0, ilt_n hn, inb_n hn, br_t, chk_t, l1In_eq, bind_some', wrap_ok (show -9223372036854775808 ≤ k - 1 by omega) (show k - 1 < 9223372036854775808 by omega), decide_eq_false hp, Bool.not_false, br_t]
    · simp only [spec_l5Proper_l1, ilt_lenf hn, br_f]
    · have he := hed _ (List.getElem_mem hn)
      rw [← rdP_n hn] at he
      simp only [spec_l5Proper_l1, ilt_len hn, inb_n hn, br_t, chk_t]
      rw [inb_i (by omega) (by omega), inb_i (by omega) (by omega), chk_t, chk_t, ieq_f hp, br_f, wrap_succ (by omega)]
    · have he := hed _ (List.getElem_mem hn)
      rw [← rdP_n hn] at he
      simp only [spec_l5Proper_l1, ilt_len hn, inb_n hn, br_t, chk_t]
      rw [inb_i (by omega) (by omega), inb_i (by omega) (by omega), chk_t, chk_t, ieq_t (Decidable.not_not.1 hp), br_t]
  · rw [tLen_n, ine_t h, br_t, decide_eq_false (show ¬ proper g k cs from fun h' => h h'.1)]
theorem impl_isColouring_eq {N : Nat} {g : Int × List (Int × Int)} {k : Int} {cs : List Int} (hg : colCase g k) (hx : g.2.length ≤ 1048576) (hc : cs.length ≤ 1048576) (hN : 1048577 ≤ N) : impl_Graph_isColouring N g k cs = some ((decide (proper g k cs), ()), ()) := by
  unfold impl_Graph_isColouring
  by_cases h : (cs.length : Int) = g.1
  · rw [tLen_n, ine_f h, br_f]
    have hed := goodG_edges hg.1
    obtain ⟨hg1, hk⟩ := hg
    rw [ContainsFunc_LI_int_eq (g := fun x => !decide (0 ≤ x ∧ x ≤ k - 1)) (fun x _ => by simp only [impl_Graph_isColouring_c1, between_eq, bind_some', wrap_ok (show -9223372036854775808 ≤ k - 1 by omega) (show k - 1 < 9223372036854775808 by omega)]) (by omega) (by omega), bind_some',
      ContainsFunc_LP_P2_eq (g := fun e => decide (rdI cs e.1 = rdI cs e.2)) (fun e he => by
        have := hed e he
        simp only [impl_Graph_isColouring_c2, inb_i (show 0 ≤ e.1 by omega) (show e.1 < cs.length by omega), inb_i (show 0 ≤ e.2 by omega) (show e.2 < cs.length by omega), chk_t, bind_some', ieq_d]) (by omega) (by omega), bind_some', not_any]
    by_cases q1 : ∀ x ∈ cs, 0 ≤ x ∧ x ≤ k - 1
    · have q1' : (cs.any fun x => !decide (0 ≤ x ∧ x ≤ k - 1)) = false := by
        rw [List.any_eq_false]
        intro x hx
        simp [q1 x hx]
      rw [q1', br_f]
      congr 3
      exact decide_eq_decide.2 ⟨fun q2 => ⟨h, q1, fun e he => by simpa using q2 e he⟩, fun h' e he => by simpa using h'.2.2 e he⟩
    · have q1' : (cs.any fun x => !decide (0 ≤ x ∧ x ≤ k - 1)) = true := by
        refine Classical.byContradiction fun hn => q1 fun x hx => ?_
        have := List.any_eq_false.1 (Bool.eq_false_iff.2 hn) x hx
        simpa using this
      rw [q1', br_t, decide_eq_false (show ¬ proper g k cs from fun h' => q1 h'.2.1)]
  · rw [tLen_n, ine_t h, br_t, decide_eq_false (show ¬ proper g k cs from fun h' => h h'.1)]
def nearG (es : List (Int × Int)) (a b : Int) : Prop := (a, b) ∈ es ∨ (b, a) ∈ es
theorem l2Near_eq {N : Nat} {g : Int × List (Int × Int)} {a b : Int} (hx : g.2.length ≤ 1048576) (hN : 1048577 ≤ N) : spec_l2Near N g a b = some ((decide (nearG g.2 a b), ()), ()) := by
  obtain ⟨m, es⟩ := g
  simp only at hx
  unfold spec_l2Near
  have := loop_all_if (P := ∀ e ∈ es, ¬ (e = (a, b) ∨ e = (b, a))) (m := es.length) (L := fun K i => spec_l2Near_l0 N (fun x => some ((x, ()), ())) (fun (_ : Unit) => some ((false, ()), ())) K a b i m es) (fun i => ¬ (rdP es i = (a, b) ∨ rdP es i = (b, a))) all_rdP (kt := some ((false, ()), ())) (kf := some ((true, ()), ())) (fun K n hn => ?_) (fun K n hn hp => ?_) (fun K n hn hp => ?_) (show es.length < N by omega)
  · rw [show ((0 : Nat) : Int) = 0 from rfl] at this
    rw [this]
    by_cases h : nearG es a b
    · rw [if_neg (fun h' => by
        rcases h with h | h
        · exact h' _ h (Or.inl rfl)
        · exact h' _ h (Or.inr rfl)), decide_eq_true h]
    · rw [if_pos (fun e he h' => by
        rcases h' with h' | h'
        · exact h (Or.inl (h' ▸ he))
        · exact h (Or.inr (h' ▸ he))), decide_eq_false h]
  · simp only [spec_l2Near_l0, ilt_lenf hn, br_f]
  · simp only [spec_l2Near_l0, ilt_len hn, inb_n hn, br_t, chk_t]
    rw [wrap_succ (by omega)]
    rw [show rdP es n = ((rdP es n).1, (rdP es n).2) from rfl, Prod.mk.injEq, Prod.mk.injEq] at hp
    by_cases q1 : (rdP es n).1 = a
    · rw [ieq_t q1, br_t, ieq_f (fun h => hp (Or.inl ⟨q1, h⟩)), br_f]
      by_cases q2 : (rdP es n).1 = b
      · rw [ieq_t q2, br_t, ieq_f (fun h => hp (Or.inr ⟨q2, h⟩)), br_f]
      · rw [ieq_f q2, br_f]
    · rw [ieq_f q1, br_f]
      by_cases q2 : (rdP es n).1 = b
      · rw [ieq_t q2, br_t, ieq_f (fun h => hp (Or.inr ⟨q2, h⟩)), br_f]
      · rw [ieq_f q2, br_f]
  · simp only [spec_l2Near_l0, ilt_len hn, inb_n hn, br_t, chk_t]
    rw [Decidable.not_not, show rdP es n = ((rdP es n).1, (rdP es n).2) from rfl, Prod.mk.injEq, Prod.mk.injEq] at hp
    by_cases q0 : (rdP es n).1 = a ∧ (rdP es n).2 = b
    · rw [ieq_t q0.1, br_t, ieq_t q0.2, br_t]
    · have hp' := hp.resolve_left q0
      rw [ieq_t hp'.1, ieq_t hp'.2, br_t, br_t]
      by_cases q1 : (rdP es n).1 = a
      · rw [ieq_t q1, br_t, ieq_f (fun h => q0 ⟨q1, h⟩), br_f]
      · rw [ieq_f q1, br_f]
theorem ContainsP_eq {N : Nat} {xs : List (Int × Int)} {v : Int × Int} (hx : xs.length ≤ 1048576) (hN : 1048577 ≤ N) : slices_Contains_LP_P2 N xs v = some ((decide (v ∈ xs), ()), ()) := by
  obtain ⟨a, b⟩ := v
  have go : ∀ (d n : Nat) (K : Nat), n + d = xs.length → d < K → ∃ i : Int, slices_Index_LP_P2_l0 N (fun x => some ((x, ()), ())) (fun (_ : Unit) => some ((-1, ()), ())) K xs (xs.length : Int) n a b = some ((i, ()), ()) ∧ decide (0 ≤ i) = decide ((a, b) ∈ xs.drop n) := by
    intro d
    induction d with
    | zero =>
      intro n K hd hK
      obtain ⟨k, rfl⟩ := succ_of hK
      have hn : ¬ n < xs.length := by omega
      simp only [slices_Index_LP_P2_l0, ilt_nf hn, br_f]
      rw [List.drop_of_length_le (by omega)]
      exact ⟨-1, rfl, rfl⟩
    | succ d ih =>
      intro n K hd hK
      obtain ⟨k, rfl⟩ := succ_of hK
      have hn : n < xs.length := by omega
      simp only [slices_Index_LP_P2_l0, ilt_n hn, br_t, inb_n hn, chk_t]
      obtain ⟨⟨y1, y2⟩, r, e1, e2, e3⟩ := drop_split hn
      rw [rdP_n hn, e1, e2]
      simp only
      by_cases h : a = y1 ∧ b = y2
      · rw [ieq_t h.1, ieq_t h.2, Bool.and_self, br_t]
        exact ⟨_, rfl, by simp [h.1, h.2]⟩
      · have hq : (ieq a y1 && ieq b y2) = false := by
          rw [ieq_d, ieq_d, ← Bool.decide_and]
          exact decide_eq_false h
        rw [hq, br_f, wrap_succ (by omega)]
        obtain ⟨i, h1, h2⟩ := ih (n + 1) k (by omega) (by omega)
        refine ⟨i, h1, ?_⟩
        rw [h2, e3]
        simp [h]
  unfold slices_Contains_LP_P2 slices_Index_LP_P2
  obtain ⟨i, h1, h2⟩ := go xs.length 0 N (by omega) (by omega)
  simp only [Int.natCast_zero, List.drop_zero] at h1 h2
  rw [tLen_n]
  simp only [h1, bind_some']
  rw [ile_d, h2]
theorem Graph_has_eq {N : Nat} {g : Int × List (Int × Int)} {a b : Int} (hed : ∀ e ∈ g.2, e.1 < e.2) (hx : g.2.length ≤ 1048576) (hN : 1048577 ≤ N) : impl_Graph_has N g a b = some ((decide (nearG g.2 a b), ()), ()) := by
  unfold impl_Graph_has impl_pair
  simp only [bind_some', ContainsP_eq hx hN]
  congr 3
  refine decide_eq_decide.2 ⟨fun h => ?_, fun h => ?_⟩
  · by_cases h1 : b < a
    · rw [if_pos h1, if_neg (by omega)] at h
      exact Or.inr h
    · rw [if_neg h1] at h
      by_cases h2 : b > a
      · rw [if_pos h2] at h
        exact Or.inl h
      · have : a = b := by omega
        rw [if_neg h2] at h
        exact Or.inl (by rw [← this]; exact h)
  · rcases h with h | h
    · have := hed _ h
      simp only at this
      rw [if_neg (by omega), if_pos (by omega)]
      exact h
    · have := hed _ h
      simp only at this
      rw [if_pos (by omega), if_neg (by omega)]
      exact h
theorem near_in {g : Int × List (Int × Int)} (hg : goodG g) {a b : Int} (h : nearG g.2 a b) : (0 ≤ a ∧ a < g.1) ∧ 0 ≤ b ∧ b < g.1 := by
  rcases h with h | h
  · have := goodG_edges hg _ h
    simp only at this
    omega
  · have := goodG_edges hg _ h
    simp only at this
    omega
def insI (x : Int) : List Int → List Int
  | [] => [x]
  | y :: p => if y ≤ x then y :: insI x p else x :: y :: p
def sortI (xs : List Int) : List Int := xs.foldl (fun p x => insI x p) []
def asc (xs : List Int) : Prop := xs.Pairwise (· ≤ ·)
theorem insI_len (x : Int) : ∀ p : List Int, (insI x p).length = p.length + 1 := by
  intro p
  induction p with
  | nil => rfl
  | cons y p ih =>
    unfold insI
    by_cases h : y ≤ x
    · rw [if_pos h, List.length_cons, ih, List.length_cons]
    · rw [if_neg h, List.length_cons, List.length_cons]
theorem insI_mem (x z : Int) : ∀ p : List Int, z ∈ insI x p ↔ z = x ∨ z ∈ p := by
  intro p
  induction p with
  | nil => simp [insI]
  | cons y p ih =>
    unfold insI
    by_cases h : y ≤ x
    · rw [if_pos h, List.mem_cons, ih, List.mem_cons]
      constructor
      · rintro (h | h | h)
        · exact .inr (.inl h)
        · exact .inl h
        · exact .inr (.inr h)
      · rintro (h | h | h)
        · exact .inr (.inl h)
        · exact .inl h
        · exact .inr (.inr h)
    · rw [if_neg h, List.mem_cons]
theorem insI_asc {x : Int} : ∀ {p : List Int}, asc p → asc (insI x p) := by
  intro p
  induction p with
  | nil => intro _; exact List.pairwise_singleton ..
  | cons y p ih =>
    intro h
    obtain ⟨h1, h2⟩ := List.pairwise_cons.1 h
    unfold insI
    by_cases hy : y ≤ x
    · rw [if_pos hy]
      refine List.pairwise_cons.2 ⟨fun z hz => ?_, ih h2⟩
      rcases (insI_mem x z p).1 hz with rfl | hz
      · exact hy
      · exact h1 z hz
    · rw [if_neg hy]
      refine List.pairwise_cons.2 ⟨fun z hz => ?_, h⟩
      rcases List.mem_cons.1 hz with rfl | hz
      · omega
      · have := h1 z hz
        omega
theorem sortI_len_asc (xs : List Int) : (sortI xs).length = xs.length ∧ asc (sortI xs) := by
  have go : ∀ (xs p : List Int), asc p → (xs.foldl (fun p x => insI x p) p).length = p.length + xs.length ∧ asc (xs.foldl (fun p x => insI x p) p) := by
    intro xs
    induction xs with
    | nil => intro p hp; exact ⟨rfl, hp⟩
    | cons x xs ih =>
      intro p hp
      obtain ⟨h1, h2⟩ := ih (insI x p) (insI_asc hp)
      refine ⟨?_, h2⟩
      rw [List.foldl_cons, h1, insI_len, List.length_cons]
      omega
  have := go xs [] List.Pairwise.nil
  unfold sortI
  simpa using this
theorem rdI_mid (q s : List Int) (x : Int) : rdI (q ++ x :: s) ((q.length : Nat) : Int) = x := by simp [rdI]
theorem asc_perm : ∀ {a b : List Int}, asc a → asc b → a.Perm b → a = b := by
  intro a
  induction a with
  | nil => intro b _ _ hp; exact (List.nil_perm.1 hp).symm
  | cons x a ih =>
    intro b ha hb hp
    cases b with
    | nil => exact absurd (List.perm_nil.1 hp) (by simp)
    | cons y b =>
      obtain ⟨a1, a2⟩ := List.pairwise_cons.1 ha
      obtain ⟨b1, b2⟩ := List.pairwise_cons.1 hb
      have e : x = y := by
        have h1 : x ∈ y :: b := hp.mem_iff.1 (List.mem_cons_self ..)
        have h2 : y ∈ x :: a := hp.mem_iff.2 (List.mem_cons_self ..)
        rcases List.mem_cons.1 h1 with h1 | h1
        · exact h1
        · rcases List.mem_cons.1 h2 with h2 | h2
          · exact h2.symm
          · have := a1 y h2
            have := b1 x h1
            omega
      subst e
      rw [ih a2 b2 (List.Perm.cons_inv hp)]
theorem insI_perm (x : Int) : ∀ p : List Int, (insI x p).Perm (x :: p) := by
  intro p
  induction p with
  | nil => exact List.Perm.refl _
  | cons y p ih =>
    unfold insI
    by_cases h : y ≤ x
    · rw [if_pos h]
      exact (List.Perm.cons y ih).trans (List.Perm.swap ..)
    · rw [if_neg h]
theorem sortI_perm (xs : List Int) : (sortI xs).Perm xs := by
  have go : ∀ (xs q : List Int), (xs.foldl (fun p x => insI x p) q).Perm (xs ++ q) := by
    intro xs
    induction xs with
    | nil => intro q; exact List.Perm.refl _
    | cons x xs ih =>
      intro q
      refine (ih (insI x q)).trans ?_
      exact ((insI_perm x q).append_left xs).trans List.perm_middle
  have := go xs []
  rw [List.append_nil] at this
  exact this
theorem mergeI_asc (xs : List Int) : asc (mergeI xs) := by
  have := List.pairwise_mergeSort (le := fun x y : Int => decide (x ≤ y)) (fun a b c h1 h2 => by simp at *; omega) (fun a b => by simp; omega) xs
  exact this.imp fun h => by simpa using h
theorem mergeI_perm (xs : List Int) : (mergeI xs).Perm xs := List.mergeSort_perm ..
theorem mergeI_sortI (xs : List Int) : mergeI xs = sortI xs := asc_perm (mergeI_asc xs) (sortI_len_asc xs).2 ((mergeI_perm xs).trans (sortI_perm xs).symm)
theorem Sort_any {N : Nat} {xs : List Int} (hx : xs.length < 4611686018427387904) : slices_Sort_LI_int N xs = some ((), (mergeI xs, ())) := by
  unfold slices_Sort_LI_int sortIF
  rw [if_pos hx]
theorem Sort_eq {N : Nat} {xs : List Int} (hx : xs.length ≤ 12) (hN : 1048577 ≤ N) : slices_Sort_LI_int N xs = some ((), (sortI xs, ())) := by
  rw [Sort_any (by omega), mergeI_sortI]
def putI (n : Int) : List Int → List Int
  | [] => [n]
  | y :: p => if y < n then y :: putI n p else if y = n then y :: p else n :: y :: p
theorem putI_ins {n : Int} : ∀ {p : List Int}, n ∉ p → putI n p = insI n p := by
  intro p
  induction p with
  | nil => intro _; rfl
  | cons y p ih =>
    intro h
    have h1 : n ≠ y := fun e => h (e ▸ List.mem_cons_self ..)
    have h2 : n ∉ p := fun e => h (List.mem_cons_of_mem _ e)
    unfold putI insI
    by_cases hy : y < n
    · rw [if_pos hy, if_pos (by omega), ih h2]
    · rw [if_neg hy, if_neg (fun e => h1 e.symm), if_neg (by omega)]
theorem fold_put : ∀ (xs p : List Int), xs.Nodup → (∀ x ∈ xs, x ∉ p) → xs.foldl (fun p x => putI x p) p = xs.foldl (fun p x => insI x p) p := by
  intro xs
  induction xs with
  | nil => intro p _ _; rfl
  | cons x xs ih =>
    intro p hn hp
    obtain ⟨h1, h2⟩ := List.nodup_cons.1 hn
    rw [List.foldl_cons, List.foldl_cons, putI_ins (hp x (List.mem_cons_self ..))]
    refine ih _ h2 fun y hy hm => ?_
    rcases (insI_mem x y p).1 hm with rfl | hm
    · exact h1 hy
    · exact hp y (List.mem_cons_of_mem _ hy) hm
theorem l1Put_eq {N : Nat} {o : List Int} {n : Int} (ho : o.length ≤ 1048576) (hN : 1048577 ≤ N) : spec_l1Put N o n = some ((putI n o, ()), ()) := by
  have go : ∀ (q p : List Int) (K : Nat), q.length < K → (p ++ q).length ≤ 1048576 → spec_l1Put_l0 N (fun n1 kv o => (br (ilt kv (tLen o))
    ((chk (inb o kv)
      (br (ieq (rdI o kv) n1)
      (some ((o, ()), ()))
      ((chk (ile 0 0 && ile 0 kv && ile kv (tLen o))
        (chk (room (α := Int) (β := Int) [] (tCut o 0 kv))
        (chk (room (tApp [] (tCut o 0 kv)) [n1])
        (chk (ile 0 kv && ile kv (tLen o) && ile (tLen o) (tLen o))
        (chk (room (tApp (tApp [] (tCut o 0 kv)) [n1]) (tCut o kv (tLen o)))
        (some (((tApp (tApp (tApp [] (tCut o 0 kv)) [n1]) (tCut o kv (tLen o))), ()), ())))))))))))
    ((chk (ile 0 0 && ile 0 kv && ile kv (tLen o))
      (chk (room (α := Int) (β := Int) [] (tCut o 0 kv))
      (chk (room (tApp [] (tCut o 0 kv)) [n1])
      (chk (ile 0 kv && ile kv (tLen o) && ile (tLen o) (tLen o))
      (chk (room (tApp (tApp [] (tCut o 0 kv)) [n1]) (tCut o kv (tLen o)))
      (some (((tApp (tApp (tApp [] (tCut o 0 kv)) [n1]) (tCut o kv (tLen o))), ()), ())))))))))) K n ((p.length : Nat) : Int) (p ++ q) = some ((p ++ putI n q, ()), ()) := by
    intro q
    have cuts : ∀ p q : List Int, tCut (p ++ q) 0 ((p.length : Nat) : Int) = p ∧ tCut (p ++ q) ((p.length : Nat) : Int) (tLen (p ++ q)) = q := fun p q => ⟨by simp [tCut], by rw [tLen_n, tCut_n, List.take_length, List.drop_left]⟩
    have c1 : ∀ p q : List Int, (ile 0 0 && ile 0 ((p.length : Nat) : Int) && ile ((p.length : Nat) : Int) (tLen (p ++ q))) = true := fun p q => by
      rw [ile_t (Int.le_refl 0), ile_t (by omega), ile_t (by simp [tLen]; omega)]; rfl
    have c2 : ∀ p q : List Int, (ile 0 ((p.length : Nat) : Int) && ile ((p.length : Nat) : Int) (tLen (p ++ q)) && ile (tLen (p ++ q)) (tLen (p ++ q))) = true := fun p q => by
      rw [ile_t (Int.le_refl (tLen _)), ile_t (by omega), ile_t (by simp [tLen]; omega)]; rfl
    induction q with
    | nil =>
      intro p K hK hl
      obtain ⟨k, rfl⟩ := succ_of hK
      have hlt : ¬ p.length < (p ++ ([] : List Int)).length := by simp
      simp only [spec_l1Put_l0, ilt_lenf hlt, br_f, (cuts p []).1, (cuts p []).2, c1, c2, chk_t]
      rw [room_ok (by simp at hl ⊢; omega), room_ok (by simp [tApp] at hl ⊢; omega), room_ok (by simp [tApp] at hl ⊢; omega), chk_t, chk_t, chk_t]
      simp [tApp, putI]
    | cons y q ih =>
      intro p K hK hl
      obtain ⟨k, rfl⟩ := succ_of hK
      have hlt : p.length < (p ++ y :: q).length := by simp
      simp only [spec_l1Put_l0, ilt_len hlt, br_t, inb_n hlt, chk_t, rdI_mid]
      by_cases hy : y < n
      · have := ih (p ++ [y]) k (by simp at hK; omega) (by simpa using hl)
        rw [ilt_t hy, br_t, wrap_succ (by simp at hl; omega)]
        simp only [List.append_assoc, List.singleton_append, List.length_append, List.length_singleton] at this
        rw [this]
        simp [putI, hy]
      · rw [ilt_f hy, br_f]
        by_cases hyn : y = n
        · rw [ieq_t hyn, br_t]
          simp [putI, hy, hyn]
        · rw [ieq_f hyn, br_f, c1, chk_t, c2, chk_t, (cuts p (y :: q)).1, (cuts p (y :: q)).2]
          rw [room_ok (by simp at hl ⊢; omega), room_ok (by simp [tApp] at hl ⊢; omega), room_ok (by simp [tApp] at hl ⊢; omega), chk_t, chk_t, chk_t]
          simp [tApp, putI, hy, hyn]
  unfold spec_l1Put
  exact go o [] N (by omega) (by simpa using ho)
theorem iter_app {p : Nat → Prop} [DecidablePred p] : ∀ (d n : Nat) (o : List Int), iter (fun n o => if p n then o ++ [(n : Int)] else o) d n o = o ++ ((List.range' n d).filter fun i => decide (p i)).map (fun i : Nat => (i : Int)) := by
  intro d
  induction d with
  | zero => intro n o; simp [iter]
  | succ d ih =>
    intro n o
    unfold iter
    rw [ih, List.range'_succ]
    by_cases h : p n <;> simp [h]
noncomputable def nbr (m : Nat) (es : List (Int × Int)) (x : Int) : List Int := ((List.range' 0 m).filter fun i : Nat => decide (nearG es x (i : Int))).map (fun i : Nat => (i : Int))
theorem mem_nbr {m : Nat} {es : List (Int × Int)} {x y : Int} : y ∈ nbr m es x ↔ ∃ i : Nat, i < m ∧ nearG es x i ∧ y = i := by
  unfold nbr
  rw [List.mem_map]
  constructor
  · rintro ⟨i, hi, rfl⟩
    obtain ⟨h1, h2⟩ := List.mem_filter.1 hi
    exact ⟨i, by simpa using List.mem_range'_1.1 h1, of_decide_eq_true h2, rfl⟩
  · rintro ⟨i, h1, h2, rfl⟩
    exact ⟨i, List.mem_filter.2 ⟨List.mem_range'_1.2 (by omega), decide_eq_true h2⟩, rfl⟩
theorem nbr_len (m : Nat) (es : List (Int × Int)) (x : Int) : (nbr m es x).length ≤ m := by
  unfold nbr
  rw [List.length_map]
  exact Nat.le_trans (List.length_filter_le ..) (by simp)
theorem near_ne {g : Int × List (Int × Int)} (hg : goodG g) {a : Int} : ¬ nearG g.2 a a := by
  rintro (h | h)
  · have := goodG_edges hg _ h
    simp only at this
    omega
  · have := goodG_edges hg _ h
    simp only at this
    omega
theorem neighbors_eq {N : Nat} {m : Nat} {es : List (Int × Int)} {x : Int} (hg : goodG ((m : Int), es)) (hx : es.length ≤ 1048576) (hN : 1048577 ≤ N) : impl_Graph_neighbors N ((m : Int), es) x = some ((nbr m es x, ()), ()) := by
  have hed : ∀ e ∈ es, e.1 < e.2 := fun e he => (goodG_edges hg e he).2.1
  have hm := hg.1
  simp only at hm
  unfold impl_Graph_neighbors
  refine (loop_iter (L := fun K n o => impl_Graph_neighbors_l0 N (fun o => some ((o, ()), ())) K x (m : Int) n (m : Int) es o) (k := fun o => some ((o, ()), ())) (Inv := fun n o => o.length ≤ n) (step := fun n o => if nearG es x (n : Int) then o ++ [(n : Int)] else o) (fun K n s hn _ => ?_) (fun K n s hn hs => ?_) (fun n s hn h => ?_) (s := []) (m := m) (K := N) (by omega) (Nat.zero_le _)).trans ?_
  · simp only [impl_Graph_neighbors_l0, ilt_nf hn, br_f]
  · simp only [impl_Graph_neighbors_l0, ilt_n hn, br_t, Graph_has_eq (g := ((m : Int), es)) hed hx hN, bind_some']
    rw [wrap_succ (by omega), room_ok (by simp; omega), chk_t]
    by_cases h : nearG es x (n : Int)
    · have hne : (n : Int) ≠ x := fun e => near_ne hg (a := x) (by rw [e] at h; exact h)
      rw [ine_t hne, br_t, decide_eq_true h, br_t, if_pos h]
      rfl
    · rw [if_neg h, decide_eq_false h, br_f, br_same]
  · by_cases hc : nearG es x (n : Int)
    · rw [if_pos hc]; simp; omega
    · rw [if_neg hc]; omega
  · rw [iter_app]
    rfl
theorem rdI_set {cs : List Int} {x : Nat} (hx : x < cs.length) (v y : Int) (hy : 0 ≤ y) : rdI (tSet cs (x : Int) v) y = if y = x then v else rdI cs y := by
  obtain ⟨n, rfl⟩ : ∃ n : Nat, y = n := ⟨y.toNat, by omega⟩
  rw [tSet_n]
  unfold rdI
  rw [Int.toNat_natCast, List.getD, List.getD, List.getElem?_set]
  by_cases h : x = n
  · subst h
    simp [hx]
  · have : ¬ ((n : Int) = (x : Int)) := by omega
    simp [h, this]
theorem l2Neighbors_eq {N : Nat} {m : Nat} {es : List (Int × Int)} {x : Int} (hm : m ≤ 8) (hx : es.length ≤ 1048576) (hN : 1048577 ≤ N) : spec_l2Neighbors N ((m : Int), es) x = some ((nbr m es x, ()), ()) := by
  unfold spec_l2Neighbors
  refine (loop_iter (L := fun K n o => spec_l2Neighbors_l0 N (fun o => some ((o, ()), ())) K x n (m : Int) es o) (k := fun o => some ((o, ()), ())) (Inv := fun n o => o.length ≤ n) (step := fun n o => if nearG es x (n : Int) then o ++ [(n : Int)] else o) (fun K n s hn _ => ?_) (fun K n s hn hs => ?_) (fun n s hn h => ?_) (s := []) (m := m) (K := N) (by omega) (Nat.zero_le _)).trans ?_
  · simp only [spec_l2Neighbors_l0, ilt_nf hn, br_f]
  · simp only [spec_l2Neighbors_l0, ilt_n hn, br_t, l2Near_eq (g := ((m : Int), es)) hx hN, bind_some']
    rw [wrap_succ (by omega), room_ok (by simp; omega), chk_t]
    by_cases h : nearG es x (n : Int)
    · rw [decide_eq_true h, br_t, if_pos h]
      rfl
    · rw [if_neg h, decide_eq_false h, br_f]
  · by_cases hc : nearG es x (n : Int)
    · rw [if_pos hc]; simp; omega
    · rw [if_neg hc]; omega
  · rw [iter_app]
    rfl
inductive Rch (es : List (Int × Int)) (A : Int → Prop) (x : Int) : Int → Prop
  | base : Rch es A x x
  | step {y z : Int} : Rch es A x y → nearG es y z → A z → Rch es A x z
theorem nodup_le : ∀ {a b : List Int}, a.Nodup → (∀ x ∈ a, x ∈ b) → a.length ≤ b.length := by
  intro a
  induction a with
  | nil => intro b _ _; exact Nat.zero_le _
  | cons x a ih =>
    intro b hn hs
    obtain ⟨h1, h2⟩ := List.nodup_cons.1 hn
    have hx := hs x (List.mem_cons_self ..)
    have := ih (b := b.erase x) h2 fun y hy => (List.mem_erase_of_ne (fun (e : y = x) => h1 (e ▸ hy))).2 (hs y (List.mem_cons_of_mem _ hy))
    rw [List.length_erase_of_mem hx] at this
    have := List.length_pos_of_mem hx
    rw [List.length_cons]
    omega
def strict (xs : List Int) : Prop := xs.Pairwise (· < ·)
theorem strict_ext : ∀ {a b : List Int}, strict a → strict b → (∀ x, x ∈ a ↔ x ∈ b) → a = b := by
  intro a
  induction a with
  | nil =>
    intro b _ _ h
    cases b with
    | nil => rfl
    | cons y b => exact absurd ((h y).2 (List.mem_cons_self ..)) (by simp)
  | cons x a ih =>
    intro b ha hb h
    cases b with
    | nil => exact absurd ((h x).1 (List.mem_cons_self ..)) (by simp)
    | cons y b =>
      obtain ⟨a1, a2⟩ := List.pairwise_cons.1 ha
      obtain ⟨b1, b2⟩ := List.pairwise_cons.1 hb
      have hxy : x = y := by
        rcases List.mem_cons.1 ((h x).1 (List.mem_cons_self ..)) with e | e
        · exact e
        · rcases List.mem_cons.1 ((h y).2 (List.mem_cons_self ..)) with e' | e'
          · exact e'.symm
          · have := b1 x e
            have := a1 y e'
            omega
      subst hxy
      rw [ih a2 b2 fun z => ?_]
      constructor
      · intro hz
        rcases List.mem_cons.1 ((h z).1 (List.mem_cons_of_mem _ hz)) with e | e
        · have := a1 z hz
          omega
        · exact e
      · intro hz
        rcases List.mem_cons.1 ((h z).2 (List.mem_cons_of_mem _ hz)) with e | e
        · have := b1 z hz
          omega
        · exact e
theorem putI_mem (n z : Int) : ∀ p : List Int, z ∈ putI n p ↔ z = n ∨ z ∈ p := by
  intro p
  induction p with
  | nil => simp [putI]
  | cons y p ih =>
    unfold putI
    by_cases h : y < n
    · rw [if_pos h, List.mem_cons, ih, List.mem_cons]
      constructor
      · rintro (h | h | h)
        · exact .inr (.inl h)
        · exact .inl h
        · exact .inr (.inr h)
      · rintro (h | h | h)
        · exact .inr (.inl h)
        · exact .inl h
        · exact .inr (.inr h)
    · by_cases h' : y = n
      · rw [if_neg h, if_pos h', List.mem_cons, h']
        constructor
        · exact .inr
        · rintro (h | h)
          · exact .inl h
          · exact h
      · rw [if_neg h, if_neg h', List.mem_cons]
theorem putI_strict {n : Int} : ∀ {p : List Int}, strict p → strict (putI n p) := by
  intro p
  induction p with
  | nil => intro _; exact List.pairwise_singleton ..
  | cons y p ih =>
    intro h
    obtain ⟨h1, h2⟩ := List.pairwise_cons.1 h
    unfold putI
    by_cases hy : y < n
    · rw [if_pos hy]
      refine List.pairwise_cons.2 ⟨fun z hz => ?_, ih h2⟩
      rcases (putI_mem n z p).1 hz with rfl | hz
      · exact hy
      · exact h1 z hz
    · rw [if_neg hy]
      by_cases hy' : y = n
      · rw [if_pos hy']; exact h
      · rw [if_neg hy']
        refine List.pairwise_cons.2 ⟨fun z hz => ?_, h⟩
        rcases List.mem_cons.1 hz with rfl | hz
        · omega
        · have := h1 z hz
          omega
theorem sortI_mem (z : Int) (xs : List Int) : z ∈ sortI xs ↔ z ∈ xs := by
  have go : ∀ (xs p : List Int), z ∈ xs.foldl (fun p x => insI x p) p ↔ z ∈ p ∨ z ∈ xs := by
    intro xs
    induction xs with
    | nil => intro p; simp
    | cons x xs ih =>
      intro p
      rw [List.foldl_cons, ih, insI_mem, List.mem_cons]
      constructor
      · rintro ((h | h) | h)
        · exact .inr (.inl h)
        · exact .inl h
        · exact .inr (.inr h)
      · rintro (h | h | h)
        · exact .inl (.inr h)
        · exact .inl (.inl h)
        · exact .inr h
  have := go xs []
  unfold sortI
  simpa using this
theorem strict_nodup {xs : List Int} (h : strict xs) : xs.Nodup := h.imp fun hab e => by omega
theorem sortI_strict {xs : List Int} (h : xs.Nodup) : strict (sortI xs) := by
  have := fold_put xs [] h (by simp)
  unfold sortI
  rw [← this]
  have go : ∀ (xs p : List Int), strict p → strict (xs.foldl (fun p x => putI x p) p) := by
    intro xs
    induction xs with
    | nil => intro p h; exact h
    | cons x xs ih => intro p h; exact ih _ (putI_strict h)
  exact go xs [] List.Pairwise.nil
/-! ### The reference's way: rounds over a set -/
noncomputable def stepR (es : List (Int × Int)) (out : List Int) (s : Int) : List Int := if s ∉ out ∧ ∃ y ∈ out, nearG es y s then putI s out else out
noncomputable def roundR (es : List (Int × Int)) (set out : List Int) : List Int := set.foldl (stepR es) out
theorem putI_len_new {n : Int} {p : List Int} (h : n ∉ p) : (putI n p).length = p.length + 1 := by rw [putI_ins h, insI_len]
theorem stepR_facts {es : List (Int × Int)} {out : List Int} {s : Int} (h : strict out) : strict (stepR es out s) ∧ (∀ z ∈ out, z ∈ stepR es out s) ∧ (∀ z ∈ stepR es out s, z ∈ out ∨ z = s ∧ ∃ y ∈ out, nearG es y s) ∧
    out.length ≤ (stepR es out s).length ∧ ((stepR es out s).length = out.length → stepR es out s = out ∧ (s ∈ out ∨ ¬ ∃ y ∈ out, nearG es y s)) := by
  unfold stepR
  by_cases hc : s ∉ out ∧ ∃ y ∈ out, nearG es y s
  · rw [if_pos hc]
    refine ⟨putI_strict h, fun z hz => (putI_mem s z out).2 (.inr hz), fun z hz => ?_, by rw [putI_len_new hc.1]; omega, fun hl => ?_⟩
    · rcases (putI_mem s z out).1 hz with rfl | hz
      · exact .inr ⟨rfl, hc.2⟩
      · exact .inl hz
    · rw [putI_len_new hc.1] at hl
      omega
  · rw [if_neg hc]
    refine ⟨h, fun z hz => hz, fun z hz => .inl hz, Nat.le_refl _, fun _ => ⟨rfl, ?_⟩⟩
    by_cases h' : s ∈ out
    · exact .inl h'
    · exact .inr fun hy => hc ⟨h', hy⟩
theorem roundR_facts {es : List (Int × Int)} : ∀ {set out : List Int}, strict out → strict (roundR es set out) ∧ (∀ z ∈ out, z ∈ roundR es set out) ∧ out.length ≤ (roundR es set out).length ∧
    ((roundR es set out).length = out.length → roundR es set out = out ∧ ∀ s ∈ set, s ∈ out ∨ ¬ ∃ y ∈ out, nearG es y s) := by
  intro set
  induction set with
  | nil => intro out h; exact ⟨h, fun z hz => hz, Nat.le_refl _, fun _ => ⟨rfl, by simp⟩⟩
  | cons s set ih =>
    intro out h
    obtain ⟨s1, s2, s3, s4, s5⟩ := stepR_facts (es := es) (s := s) h
    obtain ⟨r1, r2, r3, r4⟩ := ih s1
    refine ⟨r1, fun z hz => r2 z (s2 z hz), Nat.le_trans s4 r3, fun hl => ?_⟩
    have hl' : (roundR es set (stepR es out s)).length = out.length := hl
    obtain ⟨e1, e2⟩ := s5 (by omega)
    obtain ⟨f1, f2⟩ := r4 (by omega)
    rw [e1] at f1 f2
    refine ⟨by show roundR es set (stepR es out s) = out; rw [e1, f1], fun z hz => ?_⟩
    rcases List.mem_cons.1 hz with rfl | hz
    · exact e2
    · exact f2 z hz
theorem roundR_sound {es : List (Int × Int)} {x : Int} {A : Int → Prop} : ∀ {set out : List Int}, strict out → (∀ s ∈ set, A s) → (∀ z ∈ out, Rch es A x z) → ∀ z ∈ roundR es set out, Rch es A x z := by
  intro set
  induction set with
  | nil => intro out _ _ h; exact h
  | cons s set ih =>
    intro out hs hA h
    obtain ⟨s1, s2, s3, s4, s5⟩ := stepR_facts (es := es) (s := s) hs
    refine ih s1 (fun z hz => hA z (List.mem_cons_of_mem _ hz)) fun z hz => ?_
    rcases s3 z hz with h' | ⟨rfl, y, hy, hn⟩
    · exact h z h'
    · exact .step (h y hy) hn (hA z (List.mem_cons_self ..))
theorem reach_rounds {es : List (Int × Int)} {set : List Int} {x : Int} (hx : x ∈ set) : ∀ (d n : Nat) (out : List Int), strict out → x ∈ out → (∀ z ∈ out, Rch es (· ∈ set) x z) → (n < out.length ∨ roundR es set out = out ∧ ∀ s ∈ set, s ∈ out ∨ ¬ ∃ y ∈ out, nearG es y s) →
    strict (iter (fun _ o => roundR es set o) d n out) ∧ x ∈ iter (fun _ o => roundR es set o) d n out ∧ (∀ z ∈ iter (fun _ o => roundR es set o) d n out, Rch es (· ∈ set) x z) ∧
      (n + d < (iter (fun _ o => roundR es set o) d n out).length ∨ ∀ s ∈ set, s ∈ iter (fun _ o => roundR es set o) d n out ∨ ¬ ∃ y ∈ iter (fun _ o => roundR es set o) d n out, nearG es y s) := by
  intro d
  induction d with
  | zero => intro n out h1 h2 h3 h4; exact ⟨h1, h2, h3, h4.imp _root_.id (·.2)⟩
  | succ d ih =>
    intro n out h1 h2 h3 h4
    obtain ⟨r1, r2, r3, r4⟩ := roundR_facts (es := es) (set := set) h1
    have := ih (n + 1) (roundR es set out) r1 (r2 x h2) (roundR_sound h1 (fun _ h => h) h3) (by
      by_cases hl : (roundR es set out).length = out.length
      · obtain ⟨e1, e2⟩ := r4 hl
        exact .inr ⟨by rw [e1, e1], by rw [e1]; exact e2⟩
      · rcases h4 with h4 | ⟨h4, _⟩
        · exact .inl (by omega)
        · exact absurd (by rw [h4]) hl)
    rw [show n + (d + 1) = n + 1 + d by omega]
    exact this
noncomputable def reachS (es : List (Int × Int)) (set : List Int) (x : Int) : List Int := iter (fun _ o => roundR es set o) set.length 0 [x]
theorem Rch_in {es : List (Int × Int)} {set : List Int} {x z : Int} (hx : x ∈ set) (h : Rch es (· ∈ set) x z) : z ∈ set := by
  cases h with
  | base => exact hx
  | step _ _ h => exact h
theorem reachS_spec {es : List (Int × Int)} {set : List Int} {x : Int} (hx : x ∈ set) : strict (reachS es set x) ∧ ∀ z, z ∈ reachS es set x ↔ Rch es (· ∈ set) x z := by
  obtain ⟨h1, h2, h3, h4⟩ := reach_rounds (es := es) hx set.length 0 [x] (List.pairwise_singleton ..) (by simp) (fun z hz => by simp at hz; rw [hz]; exact .base) (.inl (by simp))
  refine ⟨h1, fun z => ⟨h3 z, fun hz => ?_⟩⟩
  have hclosed : ∀ s ∈ set, s ∈ reachS es set x ∨ ¬ ∃ y ∈ reachS es set x, nearG es y s := by
    rcases h4 with h4 | h4
    · have := nodup_le (strict_nodup h1) fun z hz => Rch_in hx (h3 z hz)
      omega
    · exact h4
  induction hz with
  | base => exact h2
  | step _ hn hs ih =>
    rcases hclosed _ hs with h | h
    · exact h
    · exact absurd ⟨_, ih, hn⟩ h
theorem Reach_in_eq {R : Type} {N : Nat} (k0 : List Int → Int → Int → Int → List (Int × Int) → List Int → Option R) {set : List Int} {i : Nat} {rd m : Int} {es : List (Int × Int)} (hx : es.length ≤ 1048576) (hi : i < set.length) (hN : 1048577 ≤ N) : ∀ (d n K : Nat) (out : List Int), out.length ≤ 1048575 → n + d = out.length → d < K →
    spec_l2Reach_l0_0_0 N k0 K set rd i n m es out = k0 set rd i m es (if set[i] ∉ out ∧ ∃ y ∈ out.drop n, nearG es y set[i] then putI set[i] out else out) := by
  intro d
  induction d with
  | zero =>
    intro n K out hl hd hK
    obtain ⟨k, rfl⟩ := succ_of hK
    simp only [spec_l2Reach_l0_0_0, ilt_lenf (show ¬ n < out.length by omega), br_f]
    rw [List.drop_of_length_le (by omega), if_neg (by simp)]
  | succ d ih =>
    intro n K out hl hd hK
    obtain ⟨k, rfl⟩ := succ_of hK
    have hn : n < out.length := by omega
    simp only [spec_l2Reach_l0_0_0, ilt_len hn, br_t, inb_n hi, chk_t, rdI_n hi, l1Has_eq (show out.length ≤ 1048576 by omega) hN, bind_some', inb_n hn]
    by_cases hs : set[i] ∈ out
    · rw [decide_eq_true hs, Bool.not_true, br_f, if_neg (fun h => h.1 hs)]
    · rw [decide_eq_false hs, Bool.not_false, br_t, l2Near_eq (g := (m, es)) hx hN, bind_some', wrap_succ (by omega), rdI_n hn]
      by_cases hnr : nearG es out[n] set[i]
      · rw [decide_eq_true hnr, br_t, l1Put_eq (by omega) hN]
        simp only [bind_some']
        rw [if_pos ⟨hs, out[n], by rw [drop_cons hn]; exact List.mem_cons_self .., hnr⟩]
        have hpl := putI_len_new hs
        obtain ⟨k', rfl⟩ : ∃ k', k = k' + 1 := ⟨k - 1, by omega⟩
        have hin : set[i] ∈ putI set[i] out := (putI_mem _ _ _).2 (.inl rfl)
        simp only [spec_l2Reach_l0_0_0]
        rw [ilt_len (show n + 1 < (putI set[i] out).length by omega), br_t, inb_n hi, chk_t, rdI_n hi, l1Has_eq (by omega) hN, bind_some', decide_eq_true hin, Bool.not_true, br_f]
      · rw [decide_eq_false hnr, br_f, ih (n + 1) k out hl (by omega) (by omega)]
        have : (set[i] ∉ out ∧ ∃ y ∈ out.drop n, nearG es y set[i]) ↔ (set[i] ∉ out ∧ ∃ y ∈ out.drop (n + 1), nearG es y set[i]) := by
          rw [drop_cons hn]
          constructor
          · rintro ⟨h1, y, hy, h2⟩
            rcases List.mem_cons.1 hy with rfl | hy
            · exact absurd h2 hnr
            · exact ⟨h1, y, hy, h2⟩
          · rintro ⟨h1, y, hy, h2⟩
            exact ⟨h1, y, List.mem_cons_of_mem _ hy, h2⟩
        by_cases hc : set[i] ∉ out ∧ ∃ y ∈ out.drop (n + 1), nearG es y set[i]
        · rw [if_pos hc, if_pos (this.2 hc)]
        · rw [if_neg hc, if_neg (fun h => hc (this.1 h))]
theorem l2Reach_eq {N : Nat} {m : Int} {es : List (Int × Int)} {set : List Int} {x : Int} (hx : es.length ≤ 1048576) (hs : set.length ≤ 1048575) (hxs : x ∈ set) (hN : 1048577 ≤ N) : spec_l2Reach N (m, es) set x = some ((reachS es set x, ()), ()) := by
  unfold spec_l2Reach
  have hsub : ∀ (l out : List Int), (∀ z ∈ l, z ∈ set) → strict out ∧ (∀ z ∈ out, z ∈ set) → strict (roundR es l out) ∧ ∀ z ∈ roundR es l out, z ∈ set := by
    intro l
    induction l with
    | nil => intro out _ h; exact h
    | cons s l ih =>
      intro out hl h
      obtain ⟨s1, s2, s3, s4, s5⟩ := stepR_facts (es := es) (s := s) h.1
      refine ih _ (fun z hz => hl z (List.mem_cons_of_mem _ hz)) ⟨s1, fun z hz => ?_⟩
      rcases s3 z hz with h' | ⟨rfl, _⟩
      · exact h.2 z h'
      · exact hl z (List.mem_cons_self ..)
  have hlen : ∀ out : List Int, strict out ∧ (∀ z ∈ out, z ∈ set) → out.length ≤ set.length := fun out h => nodup_le (strict_nodup h.1) h.2
  refine (loop_iter (L := fun K n o => spec_l2Reach_l0 N (fun o => some ((o, ()), ())) K set n m es o) (k := fun o => some ((o, ()), ())) (Inv := fun _ o => strict o ∧ ∀ z ∈ o, z ∈ set) (step := fun _ o => roundR es set o) (fun K n s hn _ => ?_) (fun K n s hn hi => ?_) (fun n s hn h => hsub set s (fun z hz => hz) h) (s := [x]) (m := set.length) (K := N) (by omega) ⟨List.pairwise_singleton .., fun z hz => by simp at hz; rw [hz]; exact hxs⟩)
  · simp only [spec_l2Reach_l0, ilt_lenf hn, br_f]
  · simp only [spec_l2Reach_l0, ilt_len hn, br_t]
    have key := (loop_list (xs := set) (L := fun K' i o => spec_l2Reach_l0_0 N (fun setv2 round1 o3 o4 o5 => spec_l2Reach_l0 N (fun o => some ((o, ()), ())) K setv2 (IntKind.i64.wrap (round1 + 1)) o3 o4 o5) K' set n i m es o) (k := fun o => spec_l2Reach_l0 N (fun o => some ((o, ()), ())) K set (IntKind.i64.wrap ((n : Int) + 1)) m es o) (stepR es) (fun _ o => strict o ∧ ∀ z ∈ o, z ∈ set) (fun K' i s hi' _ => ?_) (fun K' i s hi' h => ?_) (fun i s hi' h => ?_) (s := s) (K := N) (by omega) hi).1
    · rw [wrap_succ (by omega)] at key
      exact key
    · simp only [spec_l2Reach_l0_0, ilt_lenf hi', br_f]
    · have := hlen s h
      simp only [spec_l2Reach_l0_0, ilt_len hi', br_t]
      have e := Reach_in_eq (N := N) (fun setv3 round2 i1 o6 o7 o8 => spec_l2Reach_l0_0 N (fun setv2 round1 o3 o4 o5 => spec_l2Reach_l0 N (fun o => some ((o, ()), ())) K setv2 (IntKind.i64.wrap (round1 + 1)) o3 o4 o5) K' setv3 round2 (IntKind.i64.wrap (i1 + 1)) o6 o7 o8) (rd := (n : Int)) (m := m) hx hi' hN s.length 0 N s (by omega) (by omega) (by omega)
      rw [show ((0 : Nat) : Int) = 0 from rfl, List.drop_zero] at e
      rw [e, wrap_succ (by omega)]
      rfl
    · have := hsub [set[i]] s (fun z hz => by simp at hz; rw [hz]; exact List.getElem_mem hi') h
      exact this
theorem Rch_congr {es : List (Int × Int)} {A B : Int → Prop} {x : Int} (h : ∀ y z, nearG es y z → A z → B z) : ∀ {z : Int}, Rch es A x z → Rch es B x z := by
  intro z hz
  induction hz with
  | base => exact .base
  | step _ hn hA ih => exact .step ih hn (h _ _ hn hA)
end Go.Proofs.Ytbnjcjpnpidhmaa
