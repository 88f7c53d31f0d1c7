/- Statements on data alone. -/
import Derived.Test.YtkffaahlpdlkoaaGreatPvPure
import Derived.Test.YtkffaahlpdlkoaaGreatWindingsFd
set_option linter.all false
set_option linter.all false
namespace Go.Proofs.YtkffaahlpdlkoaaGreat
open Go Go.PV Classical
theorem all_rdI {xs : List Int} {p : Int → Prop} : (∀ x ∈ xs, p x) ↔ ∀ i : Nat, i < xs.length → p (rdI xs i) := by
  constructor
  · intro h i hi
    rw [rdI_n hi]
    exact h _ (List.getElem_mem hi)
  · intro h x hx
    obtain ⟨i, hi, rfl⟩ := List.mem_iff_getElem.1 hx
    have := h i hi
    rwa [rdI_n hi] at this
theorem all_rdP {xs : List (Int × Int)} {p : Int × Int → Prop} : (∀ x ∈ xs, p x) ↔ ∀ i : Nat, i < xs.length → p (rdP xs i) := by
  constructor
  · intro h i hi
    rw [rdP_n hi]
    exact h _ (List.getElem_mem hi)
  · intro h x hx
    obtain ⟨i, hi, rfl⟩ := List.mem_iff_getElem.1 hx
    have := h i hi
    rwa [rdP_n hi] at this
theorem not_any {α : Type} {xs : List α} {f : α → Bool} : (!(xs.any f)) = decide (∀ x ∈ xs, f x = false) := by
  induction xs with
  | nil => simp
  | cons x xs ih =>
    rw [List.any_cons, Bool.not_or, ih]
    by_cases h : f x = true <;> simp [h]
def findAt {α : Type} (f : α → Bool) : List α → Nat → Int
  | [], _ => -1
  | x :: xs, n => if f x = true then (n : Int) else findAt f xs (n + 1)
theorem findAt_cons {α : Type} (f : α → Bool) (x : α) (xs : List α) (n : Nat) : findAt f (x :: xs) n = if f x = true then (n : Int) else findAt f xs (n + 1) := rfl
theorem findAt_ge {α : Type} (f : α → Bool) : ∀ (xs : List α) (n : Nat), decide (0 ≤ findAt f xs n) = xs.any f := by
  intro xs
  induction xs with
  | nil => intro n; rfl
  | cons x xs ih =>
    intro n
    unfold findAt
    by_cases h : f x = true
    · rw [if_pos h]
      simp [h]
    · rw [if_neg h, ih]
      simp [h]
theorem IndexFunc_LI_int_l0_eq {R : Type} (N : Nat) (k0 : Int → Option R) (k1 : Unit → Option R) (xs : List (Int)) (f : Int → Option Bool) (g : Int → Bool) (hf : ∀ x ∈ xs, f x = some (g x)) (hx : xs.length ≤ 1099511627776) : ∀ (d n : Nat) (K : Nat), n + d = xs.length → d < K →
    slices_IndexFunc_LI_int_l0 N k0 k1 K xs f (xs.length : Int) n = if (xs.drop n).any g = true then k0 (findAt g (xs.drop n) n) else k1 () := by
  intro d
  induction d with
  | zero =>
    intro n K hd hK
    obtain ⟨k, rfl⟩ := succ_of hK
    have hn : ¬ n < xs.length := by omega
    simp only [slices_IndexFunc_LI_int_l0, ilt_nf hn, br_f]
    rw [List.drop_of_length_le (by omega)]
    simp
  | succ d ih =>
    intro n K hd hK
    obtain ⟨k, rfl⟩ := succ_of hK
    have hn : n < xs.length := by omega
    simp only [slices_IndexFunc_LI_int_l0, ilt_n hn, inb_n hn, br_t, chk_t]
    obtain ⟨y, r, e1, e2, e3⟩ := drop_split hn
    rw [wrap_succ (by omega), rdI_n hn, ih (n + 1) k (by omega) (by omega), hf _ (List.getElem_mem hn), bind_some', br_ite, e1, e2, e3, findAt_cons]
    by_cases h : g y = true
    · simp [h]
    · simp [h]
theorem ContainsFunc_LI_int_eq {N : Nat} {xs : List (Int)} {f : Int → Option Bool} {g : Int → Bool} (hf : ∀ x ∈ xs, f x = some (g x)) (hx : xs.length ≤ 1099511627776) (hN : xs.length < N) :
    slices_ContainsFunc_LI_int N xs f = some ((xs.any g, ()), ()) := by
  unfold slices_ContainsFunc_LI_int slices_IndexFunc_LI_int
  have := IndexFunc_LI_int_l0_eq N (fun x => some ((x, ()), ())) (fun _ => some (((-1 : Int), ()), ())) xs f g hf hx xs.length 0 N (by omega) (by omega)
  simp only [Int.natCast_zero, List.drop_zero] at this
  rw [tLen_n, this]
  by_cases h : xs.any g = true
  · rw [if_pos h, bind_some', ile_d, findAt_ge]
  · rw [if_neg h, bind_some']
    simp only [Bool.not_eq_true] at h
    rw [h]
    rfl
theorem IndexFunc_LLI_LI_l0_eq {R : Type} (N : Nat) (k0 : Int → Option R) (k1 : Unit → Option R) (xs : List (List Int)) (f : List Int → Option Bool) (g : List Int → Bool) (hf : ∀ x ∈ xs, f x = some (g x)) (hx : xs.length ≤ 1099511627776) : ∀ (d n : Nat) (K : Nat), n + d = xs.length → d < K →
    slices_IndexFunc_LLI_LI_l0 N k0 k1 K xs f (xs.length : Int) n = if (xs.drop n).any g = true then k0 (findAt g (xs.drop n) n) else k1 () := by
  intro d
  induction d with
  | zero =>
    intro n K hd hK
    obtain ⟨k, rfl⟩ := succ_of hK
    have hn : ¬ n < xs.length := by omega
    simp only [slices_IndexFunc_LLI_LI_l0, ilt_nf hn, br_f]
    rw [List.drop_of_length_le (by omega)]
    simp
  | succ d ih =>
    intro n K hd hK
    obtain ⟨k, rfl⟩ := succ_of hK
    have hn : n < xs.length := by omega
    simp only [slices_IndexFunc_LLI_LI_l0, ilt_n hn, inb_n hn, br_t, chk_t]
    obtain ⟨y, r, e1, e2, e3⟩ := drop_split hn
    rw [wrap_succ (by omega), rdL_n hn, ih (n + 1) k (by omega) (by omega), hf _ (List.getElem_mem hn), bind_some', br_ite, e1, e2, e3, findAt_cons]
    by_cases h : g y = true
    · simp [h]
    · simp [h]
theorem ContainsFunc_LLI_LI_eq {N : Nat} {xs : List (List Int)} {f : List Int → Option Bool} {g : List Int → Bool} (hf : ∀ x ∈ xs, f x = some (g x)) (hx : xs.length ≤ 1099511627776) (hN : xs.length < N) :
    slices_ContainsFunc_LLI_LI N xs f = some ((xs.any g, ()), ()) := by
  unfold slices_ContainsFunc_LLI_LI slices_IndexFunc_LLI_LI
  have := IndexFunc_LLI_LI_l0_eq N (fun x => some ((x, ()), ())) (fun _ => some (((-1 : Int), ()), ())) xs f g hf hx xs.length 0 N (by omega) (by omega)
  simp only [Int.natCast_zero, List.drop_zero] at this
  rw [tLen_n, this]
  by_cases h : xs.any g = true
  · rw [if_pos h, bind_some', ile_d, findAt_ge]
  · rw [if_neg h, bind_some']
    simp only [Bool.not_eq_true] at h
    rw [h]
    rfl
theorem IndexFunc_LP_P2_l0_eq {R : Type} (N : Nat) (k0 : Int → Option R) (k1 : Unit → Option R) (xs : List (Int × Int)) (f : Int × Int → Option Bool) (g : Int × Int → Bool) (hf : ∀ x ∈ xs, f x = some (g x)) (hx : xs.length ≤ 1099511627776) : ∀ (d n : Nat) (K : Nat), n + d = xs.length → d < K →
    slices_IndexFunc_LP_P2_l0 N k0 k1 K xs f (xs.length : Int) n = if (xs.drop n).any g = true then k0 (findAt g (xs.drop n) n) else k1 () := by
  intro d
  induction d with
  | zero =>
    intro n K hd hK
    obtain ⟨k, rfl⟩ := succ_of hK
    have hn : ¬ n < xs.length := by omega
    simp only [slices_IndexFunc_LP_P2_l0, ilt_nf hn, br_f]
    rw [List.drop_of_length_le (by omega)]
    simp
  | succ d ih =>
    intro n K hd hK
    obtain ⟨k, rfl⟩ := succ_of hK
    have hn : n < xs.length := by omega
    simp only [slices_IndexFunc_LP_P2_l0, ilt_n hn, inb_n hn, br_t, chk_t]
    obtain ⟨y, r, e1, e2, e3⟩ := drop_split hn
    rw [wrap_succ (by omega), rdP_n hn, ih (n + 1) k (by omega) (by omega), hf _ (List.getElem_mem hn), bind_some', br_ite, e1, e2, e3, findAt_cons]
    by_cases h : g y = true
    · simp [h]
    · simp [h]
theorem ContainsFunc_LP_P2_eq {N : Nat} {xs : List (Int × Int)} {f : Int × Int → Option Bool} {g : Int × Int → Bool} (hf : ∀ x ∈ xs, f x = some (g x)) (hx : xs.length ≤ 1099511627776) (hN : xs.length < N) :
    slices_ContainsFunc_LP_P2 N xs f = some ((xs.any g, ()), ()) := by
  unfold slices_ContainsFunc_LP_P2 slices_IndexFunc_LP_P2
  have := IndexFunc_LP_P2_l0_eq N (fun x => some ((x, ()), ())) (fun _ => some (((-1 : Int), ()), ())) xs f g hf hx xs.length 0 N (by omega) (by omega)
  simp only [Int.natCast_zero, List.drop_zero] at this
  rw [tLen_n, this]
  by_cases h : xs.any g = true
  · rw [if_pos h, bind_some', ile_d, findAt_ge]
  · rw [if_neg h, bind_some']
    simp only [Bool.not_eq_true] at h
    rw [h]
    rfl
theorem l1In_eq (N : Nat) (x a b : Int) : spec_l1In N x a b = some ((decide (a ≤ x ∧ x ≤ b), ()), ()) := by
  unfold spec_l1In
  rw [br_ite, ile_d, ile_d]
  by_cases h : a ≤ x <;> by_cases h' : x ≤ b <;> simp [h, h']
theorem between_eq (N : Nat) (n low high : Int) : impl_between N n low high = some ((decide (low ≤ n ∧ n ≤ high), ()), ()) := by
  unfold impl_between
  rw [br_ite, ile_d, ile_d]
  by_cases h : low ≤ n <;> by_cases h' : n ≤ high <;> simp [h, h']
theorem l1Own_eq {N : Nat} {xs : List Int} (h : xs.length ≤ 1048576) : spec_l1Own N xs = some ((xs, ()), ()) := by
  unfold spec_l1Own
  rw [room_ok (by simp; omega), chk_t]
  rfl
theorem Clone_eq {N : Nat} {xs : List Int} (h : xs.length ≤ 1048576) : slices_Clone_LI_int N xs = some ((xs, ()), ()) := by
  unfold slices_Clone_LI_int
  rw [room_ok (by simp; omega), chk_t, br_ite, ieq_d, tLen_n]
  by_cases h0 : xs = []
  · subst h0
    simp only [tApp_d, List.append_nil, amb_same]
    simp
  · rw [if_neg (by simpa using h0)]
    rfl
def edgeLt (a b : Int × Int) : Prop := a.1 < b.1 ∨ a.1 = b.1 ∧ a.2 < b.2
def pairAt (m : Int) (es : List (Int × Int)) (i : Nat) : Prop := (0 ≤ (rdP es i).1 ∧ (rdP es i).1 < (rdP es i).2 ∧ (rdP es i).2 < m) ∧ (0 < i → edgeLt (rdP es ((i - 1 : Nat) : Int)) (rdP es i))
def goodG (g : Int × List (Int × Int)) : Prop := (0 ≤ g.1 ∧ g.1 ≤ 8) ∧ ∀ i, i < g.2.length → pairAt g.1 g.2 i
theorem goodG_edges {g : Int × List (Int × Int)} (h : goodG g) : ∀ e ∈ g.2, 0 ≤ e.1 ∧ e.1 < e.2 ∧ e.2 < g.1 :=
  all_rdP.2 fun i hi => (h.2 i hi).1
theorem l2Edge_eq (N : Nat) (a b : Int × Int) : spec_l2Edge N a b = some ((decide (edgeLt a b), ()), ()) := by
  unfold spec_l2Edge edgeLt
  by_cases h1 : a.1 < b.1
  · rw [ilt_t h1, br_t]; simp [h1]
  · rw [ilt_f h1, br_f]
    by_cases h2 : a.1 = b.1
    · rw [ieq_t h2, br_t, ilt_d]; simp [h2]
    · rw [ieq_f h2, br_f]; simp [h1, h2]
theorem compare_eq (N : Nat) (x y : Int) : cmp_Compare_int N x y = some ((if x < y then -1 else if y < x then 1 else 0, ()), ()) := by
  unfold cmp_Compare_int cmp_isNaN_int
  simp only [bind_some', ine_f (rfl : x = x), ine_f (rfl : y = y), br_f]
  by_cases h1 : x < y
  · rw [ilt_t h1, br_t, if_pos h1]
  · rw [ilt_f h1, br_f, if_neg h1]
    by_cases h2 : y < x
    · rw [ilt_t h2, br_t, if_pos h2]
    · rw [ilt_f h2, br_f, if_neg h2]
theorem Or2_eq {N : Nat} (hN : 1048577 ≤ N) (a b : Int) : cmp_Or_int N [a, b] = some ((if a = 0 then b else a, ()), ()) := by
  obtain ⟨k, rfl⟩ : ∃ k, N = k + 3 := ⟨N - 3, by omega⟩
  unfold cmp_Or_int
  rw [show tLen [a, b] = 2 from rfl]
  simp only [cmp_Or_int_l0]
  rw [show inb [a, b] 0 = true from rfl, show rdI [a, b] 0 = a from rfl, show IntKind.i64.wrap (0 + 1) = 1 from rfl, show inb [a, b] 1 = true from rfl, show rdI [a, b] 1 = b from rfl, show IntKind.i64.wrap (1 + 1) = 2 from rfl, show ilt 0 2 = true from rfl, show ilt 1 2 = true from rfl, show ilt 2 2 = false from rfl, chk_t, chk_t, br_t, br_t, br_f]
  by_cases h : a = 0
  · rw [ine_f h, br_f, if_pos h]
    by_cases h' : b = 0
    · rw [ine_f h', br_f, h']
    · rw [ine_t h', br_t]
  · rw [ine_t h, br_t, if_neg h]
theorem comparePairs_eq {N : Nat} (hN : 1048577 ≤ N) (a b : Int × Int) : ∃ r : Int, impl_comparePairs N a b = some ((r, ()), ()) ∧ (r < 0 ↔ edgeLt a b) ∧ (r = 0 ↔ a = b) := by
  obtain ⟨a1, a2⟩ := a
  obtain ⟨b1, b2⟩ := b
  unfold impl_comparePairs edgeLt
  simp only [compare_eq, bind_some', Or2_eq hN]
  refine ⟨_, rfl, ?_, ?_⟩
  · by_cases h1 : a1 < b1
    · simp [h1]
    · by_cases h2 : b1 < a1
      · simp [h1, h2]; omega
      · have : a1 = b1 := by omega
        simp only [if_neg h1, if_neg h2, if_pos, this, Int.lt_irrefl, false_or, true_and]
        by_cases h3 : a2 < b2
        · simp [h3]
        · by_cases h4 : b2 < a2
          · simp [h3, h4]
          · simp [h3, h4]
  · rw [Prod.mk.injEq]
    by_cases h1 : a1 < b1
    · simp [h1]; omega
    · by_cases h2 : b1 < a1
      · simp [h1, h2]; omega
      · have : a1 = b1 := by omega
        simp only [if_neg h1, if_neg h2, if_pos, this, true_and]
        by_cases h3 : a2 < b2
        · simp [h3]; omega
        · by_cases h4 : b2 < a2
          · simp [h3, h4]; omega
          · simp [h3, h4]; omega
theorem l2Pairs_eq {N : Nat} {m : Int} {es : List (Int × Int)} (hm : 0 ≤ m ∧ m ≤ 8) (hx : es.length ≤ 1048576) (hN : 1048577 ≤ N) : spec_l2Pairs N es m = some ((decide (∀ i, i < es.length → pairAt m es i), ()), ()) := by
  unfold spec_l2Pairs
  have := loop_all_if (P := ∀ i, i < es.length → pairAt m es i) (m := es.length) (L := fun K i => spec_l2Pairs_l0 N (fun x => some ((x, ()), ())) (fun (_ : Unit) => some ((true, ()), ())) K es m i) (pairAt m es) Iff.rfl (kt := some ((true, ()), ())) (kf := some ((false, ()), ())) (fun K n hn => ?_) (fun K n hn hp => ?_) (fun K n hn hp => ?_) (show es.length < N by omega)
  · rw [show ((0 : Nat) : Int) = 0 from rfl] at this
    rw [this]
    by_cases h : ∀ i, i < es.length → pairAt m es i
    · rw [if_pos h, decide_eq_true h]
    · rw [if_neg h, decide_eq_false h]
  · simp only [spec_l2Pairs_l0, ilt_lenf hn, br_f]
  · simp only [spec_l2Pairs_l0, ilt_len hn, inb_n hn, br_t, chk_t, l1In_eq, l2Edge_eq, bind_some', wrap_ok (show -9223372036854775808 ≤ m - 1 by omega) (show m - 1 < 9223372036854775808 by omega)]
    obtain ⟨⟨p1, p2, p3⟩, p4⟩ := hp
    rw [decide_eq_true (show 0 ≤ (rdP es n).1 ∧ (rdP es n).1 ≤ m - 1 by omega), decide_eq_true (show 0 ≤ (rdP es n).2 ∧ (rdP es n).2 ≤ m - 1 by omega), Bool.not_true, br_f, br_f, ile_f (by omega), br_f]
    by_cases h0 : 0 < n
    · rw [ilt_0 h0, br_t, wrap_pred (by omega) h0, inb_n (by omega), chk_t, decide_eq_true (p4 h0), Bool.not_true, br_f, wrap_succ (by omega)]
    · rw [ilt_0n h0, br_f, wrap_succ (by omega)]
  · simp only [spec_l2Pairs_l0, ilt_len hn, inb_n hn, br_t, chk_t, l1In_eq, l2Edge_eq, bind_some', wrap_ok (show -9223372036854775808 ≤ m - 1 by omega) (show m - 1 < 9223372036854775808 by omega)]
    by_cases q1 : 0 ≤ (rdP es n).1 ∧ (rdP es n).1 ≤ m - 1
    · rw [decide_eq_true q1, Bool.not_true, br_f]
      by_cases q2 : 0 ≤ (rdP es n).2 ∧ (rdP es n).2 ≤ m - 1
      · rw [decide_eq_true q2, Bool.not_true, br_f]
        by_cases q3 : (rdP es n).2 ≤ (rdP es n).1
        · rw [ile_t q3, br_t]
        · rw [ile_f q3, br_f]
          have h0 : 0 < n := by
            rcases Nat.eq_zero_or_pos n with h0 | h0
            · exact absurd ⟨⟨by omega, by omega, by omega⟩, fun h' => by omega⟩ hp
            · exact h0
          have h4 : ¬ edgeLt (rdP es ((n - 1 : Nat) : Int)) (rdP es n) := fun h' => hp ⟨⟨by omega, by omega, by omega⟩, fun _ => h'⟩
          rw [ilt_0 h0, br_t, wrap_pred (by omega) h0, inb_n (by omega), chk_t, decide_eq_false h4, Bool.not_false, br_t]
      · rw [decide_eq_false q2, Bool.not_false, br_t]
    · rw [decide_eq_false q1, Bool.not_false, br_t]
theorem isPairs_eq {N : Nat} {m : Int} {es : List (Int × Int)} (hm : 0 ≤ m ∧ m ≤ 8) (hx : es.length ≤ 1048576) (hN : 1048577 ≤ N) : impl_isPairs N es m = some ((decide (∀ i, i < es.length → pairAt m es i), ()), ()) := by
  unfold impl_isPairs
  have := loop_all_if (P := ∀ i, i < es.length → pairAt m es i) (m := es.length) (L := fun K i => impl_isPairs_l0 N (fun x => some ((x, ()), ())) (fun (_ : Unit) => some ((true, ()), ())) K es m es (es.length : Int) i) (pairAt m es) Iff.rfl (kt := some ((true, ()), ())) (kf := some ((false, ()), ())) (fun K n hn => ?_) (fun K n hn hp => ?_) (fun K n hn hp => ?_) (show es.length < N by omega)
  · rw [show ((0 : Nat) : Int) = 0 from rfl] at this
    rw [tLen_n, this]
    by_cases h : ∀ i, i < es.length → pairAt m es i
    · rw [if_pos h, decide_eq_true h]
    · rw [if_neg h, decide_eq_false h]
  · simp only [impl_isPairs_l0, ilt_nf hn, br_f]
  · simp only [impl_isPairs_l0, ilt_n hn, inb_n hn, br_t, chk_t]
    obtain ⟨⟨p1, p2, p3⟩, p4⟩ := hp
    rw [ilt_f (by omega), br_f, ile_f (by omega), br_f, ile_f (by omega), br_f]
    by_cases h0 : 0 < n
    · rw [ilt_0 h0, br_t, wrap_pred (by omega) h0, inb_n (by omega), chk_t]
      obtain ⟨r, r1, r2, _⟩ := comparePairs_eq hN (rdP es ((n - 1 : Nat) : Int)) ((rdP es n).1, (rdP es n).2)
      have := r2.2 (p4 h0)
      rw [r1]
      simp only [bind_some']
      rw [ile_f (by omega), br_f, wrap_succ (by omega)]
    · rw [ilt_0n h0, br_f, wrap_succ (by omega)]
  · simp only [impl_isPairs_l0, ilt_n hn, inb_n hn, br_t, chk_t]
    by_cases q1 : (rdP es n).1 < 0
    · rw [ilt_t q1, br_t]
    · rw [ilt_f q1, br_f]
      by_cases q2 : (rdP es n).2 ≤ (rdP es n).1
      · rw [ile_t q2, br_t]
      · rw [ile_f q2, br_f]
        by_cases q3 : m ≤ (rdP es n).2
        · rw [ile_t q3, br_t]
        · rw [ile_f q3, br_f]
          have h0 : 0 < n := by
            rcases Nat.eq_zero_or_pos n with h0 | h0
            · exact absurd ⟨⟨by omega, by omega, by omega⟩, fun h' => by omega⟩ hp
            · exact h0
          have h4 : ¬ edgeLt (rdP es ((n - 1 : Nat) : Int)) (rdP es n) := fun h' => hp ⟨⟨by omega, by omega, by omega⟩, fun _ => h'⟩
          rw [ilt_0 h0, br_t, wrap_pred (by omega) h0, inb_n (by omega), chk_t]
          obtain ⟨r, r1, r2, _⟩ := comparePairs_eq hN (rdP es ((n - 1 : Nat) : Int)) ((rdP es n).1, (rdP es n).2)
          have : ¬ r < 0 := fun h => h4 (r2.1 h)
          rw [r1]
          simp only [bind_some']
          rw [ile_t (by omega), br_t]
theorem l2Good_eq {N : Nat} {g : Int × List (Int × Int)} (hx : g.2.length ≤ 1048576) (hN : 1048577 ≤ N) : spec_l2Good N g = some ((decide (goodG g), ()), ()) := by
  unfold spec_l2Good
  rw [l1In_eq, bind_some']
  by_cases h : 0 ≤ g.1 ∧ g.1 ≤ 8
  · rw [decide_eq_true h, br_t, l2Pairs_eq h hx hN, bind_some']
    congr 3
    exact decide_eq_decide.2 ⟨fun h' => ⟨h, h'⟩, fun h' => h'.2⟩
  · rw [decide_eq_false h, br_f, decide_eq_false (show ¬ goodG g from fun h' => h h'.1)]
theorem IsGraph_eq {N : Nat} {g : Int × List (Int × Int)} (hx : g.2.length ≤ 1048576) (hN : 1048577 ≤ N) : impl_IsGraph N g = some ((decide (goodG g), ()), ()) := by
  unfold impl_IsGraph
  rw [between_eq, bind_some']
  by_cases h : 0 ≤ g.1 ∧ g.1 ≤ 8
  · rw [decide_eq_true h, br_t, isPairs_eq h hx hN, bind_some']
    congr 3
    exact decide_eq_decide.2 ⟨fun h' => ⟨h, h'⟩, fun h' => h'.2⟩
  · rw [decide_eq_false h, br_f, decide_eq_false (show ¬ goodG g from fun h' => h h'.1)]
def colCase (g : Int × List (Int × Int)) (k : Int) : Prop := goodG g ∧ 1 ≤ k ∧ k ≤ 5
def proper (g : Int × List (Int × Int)) (k : Int) (cs : List Int) : Prop := (cs.length : Int) = g.1 ∧ (∀ x ∈ cs, 0 ≤ x ∧ x ≤ k - 1) ∧ ∀ e ∈ g.2, rdI cs e.1 ≠ rdI cs e.2
theorem l5Ask_eq {N : Nat} {g : Int × List (Int × Int)} {k : Int} (hx : g.2.length ≤ 1048576) (hN : 1048577 ≤ N) : spec_l5Ask N g k = some ((decide (colCase g k), ()), ()) := by
  unfold spec_l5Ask colCase
  simp only [l2Good_eq hx hN, bind_some', l1In_eq]
  by_cases h : goodG g <;> simp [h, br_ite]
theorem isColourCase_eq {N : Nat} {g : Int × List (Int × Int)} {k : Int} (hx : g.2.length ≤ 1048576) (hN : 1048577 ≤ N) : impl_isColourCase N g k = some ((decide (colCase g k), ()), ()) := by
  unfold impl_isColourCase colCase
  simp only [IsGraph_eq hx hN, bind_some', between_eq]
  by_cases h : goodG g <;> simp [h, br_ite]
theorem l5Proper_eq {N : Nat} {g : Int × List (Int × Int)} {k : Int} {cs : List Int} (hg : colCase g k) (hx : g.2.length ≤ 1048576) (hc : cs.length ≤ 1048576) (hN : 1048577 ≤ N) : spec_l5Proper N g k cs = some ((decide (proper g k cs), ()), ()) := by
  unfold spec_l5Proper
  by_cases h : (cs.length : Int) = g.1
  · rw [tLen_n, ine_f h, br_f]
    have hed := goodG_edges hg.1
    obtain ⟨hg1, hk⟩ := hg
    obtain ⟨m, es⟩ := g
    simp only at h hx hed
    subst h
    have e1 := loop_all_if (P := ∀ e ∈ es, rdI cs e.1 ≠ rdI cs e.2) (m := es.length) (L := fun K i => spec_l5Proper_l1 N (fun x1 => some ((x1, ()), ())) (fun (_ : Unit) => some ((true, ()), ())) K cs i (cs.length : Int) es) (fun i => rdI cs (rdP es i).1 ≠ rdI cs (rdP es i).2) all_rdP (kt := some ((true, ()), ())) (kf := some ((false, ()), ())) (fun K n hn => ?_) (fun K n hn hp => ?_) (fun K n hn hp => ?_) (show es.length < N by omega)
    · have e2 := loop_all_if (P := ∀ x ∈ cs, 0 ≤ x ∧ x ≤ k - 1) (m := cs.length) (L := fun K i => spec_l5Proper_l0 N (fun x => some ((x, ()), ())) (fun colours1 o o1 => spec_l5Proper_l1 N (fun x1 => some ((x1, ()), ())) (fun (_ : Unit) => some ((true, ()), ())) N colours1 0 o o1) K k cs i (cs.length : Int) es) (fun i => 0 ≤ rdI cs i ∧ rdI cs i ≤ k - 1) all_rdI (kt := spec_l5Proper_l1 N (fun x1 => some ((x1, ()), ())) (fun (_ : Unit) => some ((true, ()), ())) N cs 0 (cs.length : Int) es) (kf := some ((false, ()), ())) (fun K n hn => ?_) (fun K n hn hp => ?_) (fun K n hn hp => ?_) (show cs.length < N by omega)
      · rw [show ((0 : Nat) : Int) = 0 from rfl] at e1 e2
        rw [e2, e1]
        by_cases q1 : ∀ x ∈ cs, 0 ≤ x ∧ x ≤ k - 1
        · rw [if_pos q1]
          by_cases q2 : ∀ e ∈ es, rdI cs e.1 ≠ rdI cs e.2
          · rw [if_pos q2, decide_eq_true (show proper ((cs.length : Int), es) k cs from ⟨rfl, q1, q2⟩)]
          · rw [if_neg q2, decide_eq_false (show ¬ proper ((cs.length : Int), es) k cs from fun h => q2 h.2.2)]
        · rw [if_neg q1, decide_eq_false (show ¬ proper ((cs.length : Int), es) k cs from fun h => q1 h.2.1)]
      · simp only [spec_l5Proper_l0, ilt_nf hn, br_f]
      · simp only [spec_l5Proper_l0, ilt_n hn, inb_n hn, br_t, chk_t, l1In_eq, bind_some', wrap_ok (show -9223372036854775808 ≤ k - 1 by omega) (show k - 1 < 9223372036854775808 by omega), decide_eq_true hp, Bool.not_true, br_f]
        rw [wrap_succ (by omega)]
      · simp only [spec_l5Proper_l0, ilt_n hn, inb_n hn, br_t, chk_t, l1In_eq, bind_some', wrap_ok (show -9223372036854775808 ≤ k - 1 by omega) (show k - 1 < 9223372036854775808 by omega), decide_eq_false hp, Bool.not_false, br_t]
    · simp only [spec_l5Proper_l1, ilt_lenf hn, br_f]
    · have he := hed _ (List.getElem_mem hn)
      rw [← rdP_n hn] at he
      simp only [spec_l5Proper_l1, ilt_len hn, inb_n hn, br_t, chk_t]
      rw [inb_i (by omega) (by omega), inb_i (by omega) (by omega), chk_t, chk_t, ieq_f hp, br_f, wrap_succ (by omega)]
    · have he := hed _ (List.getElem_mem hn)
      rw [← rdP_n hn] at he
      simp only [spec_l5Proper_l1, ilt_len hn, inb_n hn, br_t, chk_t]
      rw [inb_i (by omega) (by omega), inb_i (by omega) (by omega), chk_t, chk_t, ieq_t (Decidable.not_not.1 hp), br_t]
  · rw [tLen_n, ine_t h, br_t, decide_eq_false (show ¬ proper g k cs from fun h' => h h'.1)]
theorem impl_isColouring_eq {N : Nat} {g : Int × List (Int × Int)} {k : Int} {cs : List Int} (hg : colCase g k) (hx : g.2.length ≤ 1048576) (hc : cs.length ≤ 1048576) (hN : 1048577 ≤ N) : impl_Graph_isColouring N g k cs = some ((decide (proper g k cs), ()), ()) := by
  unfold impl_Graph_isColouring
  by_cases h : (cs.length : Int) = g.1
  · rw [tLen_n, ine_f h, br_f]
    have hed := goodG_edges hg.1
    obtain ⟨hg1, hk⟩ := hg
    rw [ContainsFunc_LI_int_eq (g := fun x => !decide (0 ≤ x ∧ x ≤ k - 1)) (fun x _ => by simp only [impl_Graph_isColouring_c1, between_eq, bind_some', wrap_ok (show -9223372036854775808 ≤ k - 1 by omega) (show k - 1 < 9223372036854775808 by omega)]) (by omega) (by omega), bind_some',
      ContainsFunc_LP_P2_eq (g := fun e => decide (rdI cs e.1 = rdI cs e.2)) (fun e he => by
        have := hed e he
        simp only [impl_Graph_isColouring_c2, inb_i (show 0 ≤ e.1 by omega) (show e.1 < cs.length by omega), inb_i (show 0 ≤ e.2 by omega) (show e.2 < cs.length by omega), chk_t, bind_some', ieq_d]) (by omega) (by omega), bind_some', not_any]
    by_cases q1 : ∀ x ∈ cs, 0 ≤ x ∧ x ≤ k - 1
    · have q1' : (cs.any fun x => !decide (0 ≤ x ∧ x ≤ k - 1)) = false := by
        rw [List.any_eq_false]
        intro x hx
        simp [q1 x hx]
      rw [q1', br_f]
      congr 3
      exact decide_eq_decide.2 ⟨fun q2 => ⟨h, q1, fun e he => by simpa using q2 e he⟩, fun h' e he => by simpa using h'.2.2 e he⟩
    · have q1' : (cs.any fun x => !decide (0 ≤ x ∧ x ≤ k - 1)) = true := by
        refine Classical.byContradiction fun hn => q1 fun x hx => ?_
        have := List.any_eq_false.1 (Bool.eq_false_iff.2 hn) x hx
        simpa using this
      rw [q1', br_t, decide_eq_false (show ¬ proper g k cs from fun h' => q1 h'.2.1)]
  · rw [tLen_n, ine_t h, br_t, decide_eq_false (show ¬ proper g k cs from fun h' => h h'.1)]
def nearG (es : List (Int × Int)) (a b : Int) : Prop := (a, b) ∈ es ∨ (b, a) ∈ es
theorem l2Near_eq {N : Nat} {g : Int × List (Int × Int)} {a b : Int} (hx : g.2.length ≤ 1048576) (hN : 1048577 ≤ N) : spec_l2Near N g a b = some ((decide (nearG g.2 a b), ()), ()) := by
  obtain ⟨m, es⟩ := g
  simp only at hx
  unfold spec_l2Near
  have := loop_all_if (P := ∀ e ∈ es, ¬ (e = (a, b) ∨ e = (b, a))) (m := es.length) (L := fun K i => spec_l2Near_l0 N (fun x => some ((x, ()), ())) (fun (_ : Unit) => some ((false, ()), ())) K a b i m es) (fun i => ¬ (rdP es i = (a, b) ∨ rdP es i = (b, a))) all_rdP (kt := some ((false, ()), ())) (kf := some ((true, ()), ())) (fun K n hn => ?_) (fun K n hn hp => ?_) (fun K n hn hp => ?_) (show es.length < N by omega)
  · rw [show ((0 : Nat) : Int) = 0 from rfl] at this
    rw [this]
    by_cases h : nearG es a b
    · rw [if_neg (fun h' => by
        rcases h with h | h
        · exact h' _ h (Or.inl rfl)
        · exact h' _ h (Or.inr rfl)), decide_eq_true h]
    · rw [if_pos (fun e he h' => by
        rcases h' with h' | h'
        · exact h (Or.inl (h' ▸ he))
        · exact h (Or.inr (h' ▸ he))), decide_eq_false h]
  · simp only [spec_l2Near_l0, ilt_lenf hn, br_f]
  · simp only [spec_l2Near_l0, ilt_len hn, inb_n hn, br_t, chk_t]
    rw [wrap_succ (by omega)]
    rw [show rdP es n = ((rdP es n).1, (rdP es n).2) from rfl, Prod.mk.injEq, Prod.mk.injEq] at hp
    by_cases q1 : (rdP es n).1 = a
    · rw [ieq_t q1, br_t, ieq_f (fun h => hp (Or.inl ⟨q1, h⟩)), br_f]
      by_cases q2 : (rdP es n).1 = b
      · rw [ieq_t q2, br_t, ieq_f (fun h => hp (Or.inr ⟨q2, h⟩)), br_f]
      · rw [ieq_f q2, br_f]
    · rw [ieq_f q1, br_f]
      by_cases q2 : (rdP es n).1 = b
      · rw [ieq_t q2, br_t, ieq_f (fun h => hp (Or.inr ⟨q2, h⟩)), br_f]
      · rw [ieq_f q2, br_f]
  · simp only [spec_l2Near_l0, ilt_len hn, inb_n hn, br_t, chk_t]
    rw [Decidable.not_not, show rdP es n = ((rdP es n).1, (rdP es n).2) from rfl, Prod.mk.injEq, Prod.mk.injEq] at hp
    by_cases q0 : (rdP es n).1 = a ∧ (rdP es n).2 = b
    · rw [ieq_t q0.1, br_t, ieq_t q0.2, br_t]
    · have hp' := hp.resolve_left q0
      rw [ieq_t hp'.1, ieq_t hp'.2, br_t, br_t]
      by_cases q1 : (rdP es n).1 = a
      · rw [ieq_t q1, br_t, ieq_f (fun h => q0 ⟨q1, h⟩), br_f]
      · rw [ieq_f q1, br_f]
theorem ContainsP_eq {N : Nat} {xs : List (Int × Int)} {v : Int × Int} (hx : xs.length ≤ 1048576) (hN : 1048577 ≤ N) : slices_Contains_LP_P2 N xs v = some ((decide (v ∈ xs), ()), ()) := by
  obtain ⟨a, b⟩ := v
  have go : ∀ (d n : Nat) (K : Nat), n + d = xs.length → d < K → ∃ i : Int, slices_Index_LP_P2_l0 N (fun x => some ((x, ()), ())) (fun (_ : Unit) => some ((-1, ()), ())) K xs (xs.length : Int) n a b = some ((i, ()), ()) ∧ decide (0 ≤ i) = decide ((a, b) ∈ xs.drop n) := by
    intro d
    induction d with
    | zero =>
      intro n K hd hK
      obtain ⟨k, rfl⟩ := succ_of hK
      have hn : ¬ n < xs.length := by omega
      simp only [slices_Index_LP_P2_l0, ilt_nf hn, br_f]
      rw [List.drop_of_length_le (by omega)]
      exact ⟨-1, rfl, rfl⟩
    | succ d ih =>
      intro n K hd hK
      obtain ⟨k, rfl⟩ := succ_of hK
      have hn : n < xs.length := by omega
      simp only [slices_Index_LP_P2_l0, ilt_n hn, br_t, inb_n hn, chk_t]
      obtain ⟨⟨y1, y2⟩, r, e1, e2, e3⟩ := drop_split hn
      rw [rdP_n hn, e1, e2]
      simp only
      by_cases h : a = y1 ∧ b = y2
      · rw [ieq_t h.1, ieq_t h.2, Bool.and_self, br_t]
        exact ⟨_, rfl, by simp [h.1, h.2]⟩
      · have hq : (ieq a y1 && ieq b y2) = false := by
          rw [ieq_d, ieq_d, ← Bool.decide_and]
          exact decide_eq_false h
        rw [hq, br_f, wrap_succ (by omega)]
        obtain ⟨i, h1, h2⟩ := ih (n + 1) k (by omega) (by omega)
        refine ⟨i, h1, ?_⟩
        rw [h2, e3]
        simp [h]
  unfold slices_Contains_LP_P2 slices_Index_LP_P2
  obtain ⟨i, h1, h2⟩ := go xs.length 0 N (by omega) (by omega)
  simp only [Int.natCast_zero, List.drop_zero] at h1 h2
  rw [tLen_n]
  simp only [h1, bind_some']
  rw [ile_d, h2]
theorem Graph_has_eq {N : Nat} {g : Int × List (Int × Int)} {a b : Int} (hed : ∀ e ∈ g.2, e.1 < e.2) (hx : g.2.length ≤ 1048576) (hN : 1048577 ≤ N) : impl_Graph_has N g a b = some ((decide (nearG g.2 a b), ()), ()) := by
  unfold impl_Graph_has impl_pair
  simp only [bind_some', ContainsP_eq hx hN]
  congr 3
  refine decide_eq_decide.2 ⟨fun h => ?_, fun h => ?_⟩
  · by_cases h1 : b < a
    · rw [if_pos h1, if_neg (by omega)] at h
      exact Or.inr h
    · rw [if_neg h1] at h
      by_cases h2 : b > a
      · rw [if_pos h2] at h
        exact Or.inl h
      · have : a = b := by omega
        rw [if_neg h2] at h
        exact Or.inl (by rw [← this]; exact h)
  · rcases h with h | h
    · have := hed _ h
      simp only at this
      rw [if_neg (by omega), if_pos (by omega)]
      exact h
    · have := hed _ h
      simp only at this
      rw [if_pos (by omega), if_neg (by omega)]
      exact h
def nxt (t : List Int) (i : Nat) : Int := ((i + 1 : Nat) : Int).tmod (t.length : Int)
theorem nxt_in {t : List Int} {i : Nat} (h : i < t.length) : 0 ≤ nxt t i ∧ nxt t i < t.length :=
  ⟨Int.tmod_nonneg _ (by omega), Int.tmod_lt_of_pos _ (by omega)⟩
def tripAt (es : List (Int × Int)) (t : List Int) (i : Nat) : Prop := nearG es (rdI t i) (rdI t (nxt t i))
def tripOk (es : List (Int × Int)) (t : List Int) : Prop := (∀ i, i < t.length → tripAt es t i) ∧ 1 ≤ (t.length : Int) ∧ (t.length : Int) ≤ 20
theorem near_in {g : Int × List (Int × Int)} (hg : goodG g) {a b : Int} (h : nearG g.2 a b) : (0 ≤ a ∧ a < g.1) ∧ 0 ≤ b ∧ b < g.1 := by
  rcases h with h | h
  · have := goodG_edges hg _ h
    simp only at this
    omega
  · have := goodG_edges hg _ h
    simp only at this
    omega
theorem l5Trip_eq {N : Nat} {g : Int × List (Int × Int)} {t : List Int} (hx : g.2.length ≤ 1048576) (ht : t.length ≤ 1048576) (hN : 1048577 ≤ N) : spec_l5Trip N g t = some ((decide (tripOk g.2 t), ()), ()) := by
  obtain ⟨m, es⟩ := g
  simp only at hx
  unfold spec_l5Trip
  have := loop_all_if (P := ∀ i, i < t.length → tripAt es t i) (m := t.length) (L := fun K i => spec_l5Trip_l0 N (fun x => some ((x, ()), ())) (fun trip1 => ((spec_l1In N (tLen trip1) 1 20).bind fun r => some ((r.1.1, ()), ()))) K t i m es) (tripAt es t) Iff.rfl (kt := some ((decide (1 ≤ (t.length : Int) ∧ (t.length : Int) ≤ 20), ()), ())) (kf := some ((false, ()), ())) (fun K n hn => ?_) (fun K n hn hp => ?_) (fun K n hn hp => ?_) (show t.length < N by omega)
  · rw [show ((0 : Nat) : Int) = 0 from rfl] at this
    rw [this]
    by_cases h : ∀ i, i < t.length → tripAt es t i
    · rw [if_pos h]
      congr 3
      exact decide_eq_decide.2 ⟨fun h' => ⟨h, h'⟩, fun h' => h'.2⟩
    · rw [if_neg h, decide_eq_false (show ¬ tripOk es t from fun h' => h h'.1)]
  · simp only [spec_l5Trip_l0, ilt_lenf hn, br_f]
    simp only [l1In_eq, bind_some', tLen_n t]
  · obtain ⟨x1, x2⟩ := nxt_in hn
    have e : (IntKind.i64.wrap ((n : Int) + 1)).tmod (tLen t) = nxt t n := by rw [wrap_succ (by omega)]; rfl
    simp only [spec_l5Trip_l0, ilt_len hn, inb_n hn, br_t, chk_t, e, inb_i x1 x2, ine_t (show tLen t ≠ 0 by rw [tLen_n]; omega), l2Near_eq (g := (m, es)) hx hN, bind_some']
    rw [decide_eq_true (show nearG es (rdI t n) (rdI t (nxt t n)) from hp), Bool.not_true, br_f, wrap_succ (by omega)]
  · obtain ⟨x1, x2⟩ := nxt_in hn
    have e : (IntKind.i64.wrap ((n : Int) + 1)).tmod (tLen t) = nxt t n := by rw [wrap_succ (by omega)]; rfl
    simp only [spec_l5Trip_l0, ilt_len hn, inb_n hn, br_t, chk_t, e, inb_i x1 x2, ine_t (show tLen t ≠ 0 by rw [tLen_n]; omega), l2Near_eq (g := (m, es)) hx hN, bind_some']
    rw [decide_eq_false (show ¬ nearG es (rdI t n) (rdI t (nxt t n)) from hp), Bool.not_false, br_t]
theorem isTrip_eq {N : Nat} {g : Int × List (Int × Int)} {t : List Int} (hg : goodG g) (hx : g.2.length ≤ 1048576) (ht : t.length ≤ 1048576) (hN : 1048577 ≤ N) : impl_Graph_isTrip N g t = some ((decide (tripOk g.2 t), ()), ()) := by
  have hed : ∀ e ∈ g.2, e.1 < e.2 := fun e he => (goodG_edges hg e he).2.1
  have hm := hg.1
  have hin := @near_in g hg
  obtain ⟨m, es⟩ := g
  simp only at hx hed hm hin
  unfold impl_Graph_isTrip
  have := loop_all_if (P := ∀ i, i < t.length → tripAt es t i) (m := t.length) (L := fun K i => impl_Graph_isTrip_l0 N (fun x => some ((x, ()), ())) (fun trip1 => ((impl_between N (tLen trip1) 1 20).bind fun r => some ((r.1.1, ()), ()))) K t t (t.length : Int) i m es) (tripAt es t) Iff.rfl (kt := some ((decide (1 ≤ (t.length : Int) ∧ (t.length : Int) ≤ 20), ()), ())) (kf := some ((false, ()), ())) (fun K n hn => ?_) (fun K n hn hp => ?_) (fun K n hn hp => ?_) (show t.length < N by omega)
  · rw [show ((0 : Nat) : Int) = 0 from rfl] at this
    rw [tLen_n, this]
    by_cases h : ∀ i, i < t.length → tripAt es t i
    · rw [if_pos h]
      congr 3
      exact decide_eq_decide.2 ⟨fun h' => ⟨h, h'⟩, fun h' => h'.2⟩
    · rw [if_neg h, decide_eq_false (show ¬ tripOk es t from fun h' => h h'.1)]
  · simp only [impl_Graph_isTrip_l0, ilt_nf hn, br_f, between_eq, bind_some', tLen_n t]
  · obtain ⟨x1, x2⟩ := nxt_in hn
    have e : (IntKind.i64.wrap ((n : Int) + 1)).tmod (tLen t) = nxt t n := by rw [wrap_succ (by omega)]; rfl
    simp only [impl_Graph_isTrip_l0, ilt_n hn, inb_n hn, br_t, chk_t, e, inb_i x1 x2, ine_t (show tLen t ≠ 0 by rw [tLen_n]; omega), between_eq, Graph_has_eq (g := (m, es)) hed hx hN, bind_some', wrap_ok (show -9223372036854775808 ≤ m - 1 by omega) (show m - 1 < 9223372036854775808 by omega)]
    have hi := (hin hp).1
    rw [decide_eq_true (show 0 ≤ rdI t n ∧ rdI t n ≤ m - 1 by omega), Bool.not_true, br_f, decide_eq_true (show nearG es (rdI t n) (rdI t (nxt t n)) from hp), Bool.not_true, br_f, wrap_succ (by omega)]
  · obtain ⟨x1, x2⟩ := nxt_in hn
    have e : (IntKind.i64.wrap ((n : Int) + 1)).tmod (tLen t) = nxt t n := by rw [wrap_succ (by omega)]; rfl
    simp only [impl_Graph_isTrip_l0, ilt_n hn, inb_n hn, br_t, chk_t, e, inb_i x1 x2, ine_t (show tLen t ≠ 0 by rw [tLen_n]; omega), between_eq, Graph_has_eq (g := (m, es)) hed hx hN, bind_some']
    rw [decide_eq_false (show ¬ nearG es (rdI t n) (rdI t (nxt t n)) from hp), Bool.not_false, br_t, br_ite, ite_self]
def windStep (cs t : List Int) (i : Nat) (s : Int) : Int := if ieq (rdI cs (rdI t (nxt t i))) ((IntKind.i64.wrap (rdI cs (rdI t i) + 1)).tmod 3) = true then IntKind.i64.wrap (s + 1) else IntKind.i64.wrap (s - 1)
noncomputable def windR (g : Int × List (Int × Int)) (cs t : List Int) : Int × Bool := if (colCase g 3 ∧ proper g 3 cs) ∧ tripOk g.2 t then (IntKind.i64.wrap ((iter (windStep cs t) t.length 0 0).tdiv 3), true) else (0, false)
theorem spec_WindingOf_eq {N : Nat} {g : Int × List (Int × Int)} {cs t : List Int} (hx : g.2.length ≤ 1048576) (hc : cs.length ≤ 1048576) (ht : t.length ≤ 1048576) (hN : 1048577 ≤ N) : spec_WindingOf N g cs t = some (((windR g cs t).1, (windR g cs t).2, ()), ()) := by
  unfold spec_WindingOf windR spec_l5Given
  simp only [l5Ask_eq hx hN, l5Trip_eq hx ht hN, bind_some']
  by_cases h1 : colCase g 3
  · rw [decide_eq_true h1, br_t, l5Proper_eq h1 hx hc hN]
    simp only [bind_some']
    by_cases h2 : proper g 3 cs
    · rw [decide_eq_true h2, Bool.not_true, br_f]
      by_cases h3 : tripOk g.2 t
      · rw [decide_eq_true h3, Bool.not_true, br_f, if_pos ⟨⟨h1, h2⟩, h3⟩]
        refine (loop_iter (L := fun K n o => spec_WindingOf_l0 N (fun sum => some (((IntKind.i64.wrap (sum.tdiv 3)), true, ()), ())) K cs t o n) (k := fun sum => some (((IntKind.i64.wrap (sum.tdiv 3)), true, ()), ())) (Inv := fun n o => True) (step := windStep cs t) (fun K n s hn _ => ?_) (fun K n s hn hs => ?_) (fun n s hn h => trivial) (s := 0) (m := t.length) (K := N) (by omega) trivial)
        · simp only [spec_WindingOf_l0, ilt_lenf hn, br_f]
        · obtain ⟨x1, x2⟩ := nxt_in hn
          obtain ⟨y1, y2⟩ := near_in h1.1 (h3.1 n hn)
          have hl := h2.1
          have e : (IntKind.i64.wrap ((n : Int) + 1)).tmod (tLen t) = nxt t n := by rw [wrap_succ (by omega)]; rfl
          simp only [spec_WindingOf_l0, ilt_len hn, inb_n hn, br_t, chk_t, e, inb_i x1 x2, ine_t (show tLen t ≠ 0 by rw [tLen_n]; omega)]
          rw [inb_i (by omega) (by omega), inb_i (by omega) (by omega), chk_t, chk_t, wrap_succ (by omega), br_ite]
          unfold windStep
          by_cases q : ieq (rdI cs (rdI t (nxt t n))) ((IntKind.i64.wrap (rdI cs (rdI t n) + 1)).tmod 3) = true
          · rw [if_pos q, if_pos q]
          · rw [if_neg q, if_neg q]
      · rw [decide_eq_false h3, Bool.not_false, br_t, if_neg (fun h => h3 h.2)]
    · rw [decide_eq_false h2, Bool.not_false, br_t, if_neg (fun h => h2 h.1.2)]
  · rw [decide_eq_false h1, br_f]
    simp only [bind_some', Bool.not_false, br_t]
    rw [if_neg (fun h => h1 h.1.1)]
theorem impl_WindingOf_eq {N : Nat} {g : Int × List (Int × Int)} {cs t : List Int} (hx : g.2.length ≤ 1048576) (hc : cs.length ≤ 1048576) (ht : t.length ≤ 1048576) (hN : 1048577 ≤ N) : impl_WindingOf N g cs t = some (((windR g cs t).1, (windR g cs t).2, ()), ()) := by
  unfold impl_WindingOf windR impl_isColoured
  simp only [isColourCase_eq hx hN, bind_some']
  by_cases h1 : colCase g 3
  · rw [decide_eq_true h1, br_t, ContainsFunc_LLI_LI_eq (g := fun c => !decide (proper g 3 c)) (fun c h => by
      simp only [List.mem_singleton] at h
      subst h
      have := impl_isColouring_eq h1 hx hc hN
      simp only [impl_isColoured_c1, this, bind_some']) (by simp) (by simp; omega)]
    simp only [bind_some', isTrip_eq h1.1 hx ht hN]
    by_cases h2 : proper g 3 cs
    · rw [show ([cs].any fun c => !decide (proper g 3 c)) = false by simp [h2], Bool.not_false, Bool.not_true, br_f]
      by_cases h3 : tripOk g.2 t
      · rw [decide_eq_true h3, Bool.not_true, br_f, if_pos ⟨⟨h1, h2⟩, h3⟩]
        refine (loop_iter (L := fun K n o => impl_WindingOf_l0 N (fun sum => some (((IntKind.i64.wrap (sum.tdiv 3)), true, ()), ())) K cs t o t (t.length : Int) n) (k := fun sum => some (((IntKind.i64.wrap (sum.tdiv 3)), true, ()), ())) (Inv := fun n o => True) (step := windStep cs t) (fun K n s hn _ => ?_) (fun K n s hn hs => ?_) (fun n s hn h => trivial) (s := 0) (m := t.length) (K := N) (by omega) trivial)
        · simp only [impl_WindingOf_l0, ilt_nf hn, br_f]
        · obtain ⟨x1, x2⟩ := nxt_in hn
          obtain ⟨y1, y2⟩ := near_in h1.1 (h3.1 n hn)
          have hl := h2.1
          have e : (IntKind.i64.wrap ((n : Int) + 1)).tmod (tLen t) = nxt t n := by rw [wrap_succ (by omega)]; rfl
          simp only [impl_WindingOf_l0, ilt_n hn, inb_n hn, br_t, chk_t, e, inb_i x1 x2, ine_t (show tLen t ≠ 0 by rw [tLen_n]; omega)]
          rw [inb_i (by omega) (by omega), inb_i (by omega) (by omega), chk_t, chk_t, wrap_succ (by omega), br_ite]
          unfold windStep
          by_cases q : ieq (rdI cs (rdI t (nxt t n))) ((IntKind.i64.wrap (rdI cs (rdI t n) + 1)).tmod 3) = true
          · rw [if_pos q, if_pos q]
          · rw [if_neg q, if_neg q]
      · rw [decide_eq_false h3, Bool.not_false, br_t, if_neg (fun h => h3 h.2)]
    · rw [show ([cs].any fun c => !decide (proper g 3 c)) = true by simp [h2], Bool.not_true, Bool.not_false, br_t, if_neg (fun h => h2 h.1.2)]
  · rw [decide_eq_false h1, br_f]
    simp only [bind_some', Bool.not_false, br_t]
    rw [if_neg (fun h => h1 h.1.1)]
def asc (xs : List Int) : Prop := xs.Pairwise (· ≤ ·)
theorem asc_perm : ∀ {a b : List Int}, asc a → asc b → a.Perm b → a = b := by
  intro a
  induction a with
  | nil => intro b _ _ hp; exact (List.nil_perm.1 hp).symm
  | cons x a ih =>
    intro b ha hb hp
    cases b with
    | nil => exact absurd (List.perm_nil.1 hp) (by simp)
    | cons y b =>
      obtain ⟨a1, a2⟩ := List.pairwise_cons.1 ha
      obtain ⟨b1, b2⟩ := List.pairwise_cons.1 hb
      have e : x = y := by
        have h1 : x ∈ y :: b := hp.mem_iff.1 (List.mem_cons_self ..)
        have h2 : y ∈ x :: a := hp.mem_iff.2 (List.mem_cons_self ..)
        rcases List.mem_cons.1 h1 with h1 | h1
        · exact h1
        · rcases List.mem_cons.1 h2 with h2 | h2
          · exact h2.symm
          · have := a1 y h2
            have := b1 x h1
            omega
      subst e
      rw [ih a2 b2 (List.Perm.cons_inv hp)]
theorem mergeI_asc (xs : List Int) : asc (mergeI xs) := by
  have := List.pairwise_mergeSort (le := fun x y : Int => decide (x ≤ y)) (fun a b c h1 h2 => by simp at *; omega) (fun a b => by simp; omega) xs
  exact this.imp fun h => by simpa using h
theorem mergeI_perm (xs : List Int) : (mergeI xs).Perm xs := List.mergeSort_perm ..
theorem Sort_any {N : Nat} {xs : List Int} (hx : xs.length < 4611686018427387904) : slices_Sort_LI_int N xs = some ((), (mergeI xs, ())) := by
  unfold slices_Sort_LI_int sortIF
  rw [if_pos hx]
theorem Sort_asc {N : Nat} {xs : List Int} (h : asc xs) (hx : xs.length < 1024) (hN : 1048577 ≤ N) : slices_Sort_LI_int N xs = some ((), (xs, ())) := by
  rw [Sort_any (by omega)]
  congr 3
  exact asc_perm (mergeI_asc xs) h (mergeI_perm xs)
theorem iter_app {p : Nat → Prop} [DecidablePred p] : ∀ (d n : Nat) (o : List Int), iter (fun n o => if p n then o ++ [(n : Int)] else o) d n o = o ++ ((List.range' n d).filter fun i => decide (p i)).map (fun i : Nat => (i : Int)) := by
  intro d
  induction d with
  | zero => intro n o; simp [iter]
  | succ d ih =>
    intro n o
    unfold iter
    rw [ih, List.range'_succ]
    by_cases h : p n <;> simp [h]
noncomputable def nbr (m : Nat) (es : List (Int × Int)) (x : Int) : List Int := ((List.range' 0 m).filter fun i : Nat => decide (nearG es x (i : Int))).map (fun i : Nat => (i : Int))
theorem mem_nbr {m : Nat} {es : List (Int × Int)} {x y : Int} : y ∈ nbr m es x ↔ ∃ i : Nat, i < m ∧ nearG es x i ∧ y = i := by
  unfold nbr
  rw [List.mem_map]
  constructor
  · rintro ⟨i, hi, rfl⟩
    obtain ⟨h1, h2⟩ := List.mem_filter.1 hi
    exact ⟨i, by simpa using List.mem_range'_1.1 h1, of_decide_eq_true h2, rfl⟩
  · rintro ⟨i, h1, h2, rfl⟩
    exact ⟨i, List.mem_filter.2 ⟨List.mem_range'_1.2 (by omega), decide_eq_true h2⟩, rfl⟩
theorem nbr_len (m : Nat) (es : List (Int × Int)) (x : Int) : (nbr m es x).length ≤ m := by
  unfold nbr
  rw [List.length_map]
  exact Nat.le_trans (List.length_filter_le ..) (by simp)
theorem near_ne {g : Int × List (Int × Int)} (hg : goodG g) {a : Int} : ¬ nearG g.2 a a := by
  rintro (h | h)
  · have := goodG_edges hg _ h
    simp only at this
    omega
  · have := goodG_edges hg _ h
    simp only at this
    omega
theorem neighbors_eq {N : Nat} {m : Nat} {es : List (Int × Int)} {x : Int} (hg : goodG ((m : Int), es)) (hx : es.length ≤ 1048576) (hN : 1048577 ≤ N) : impl_Graph_neighbors N ((m : Int), es) x = some ((nbr m es x, ()), ()) := by
  have hed : ∀ e ∈ es, e.1 < e.2 := fun e he => (goodG_edges hg e he).2.1
  have hm := hg.1
  simp only at hm
  unfold impl_Graph_neighbors
  refine (loop_iter (L := fun K n o => impl_Graph_neighbors_l0 N (fun o => some ((o, ()), ())) K x (m : Int) n (m : Int) es o) (k := fun o => some ((o, ()), ())) (Inv := fun n o => o.length ≤ n) (step := fun n o => if nearG es x (n : Int) then o ++ [(n : Int)] else o) (fun K n s hn _ => ?_) (fun K n s hn hs => ?_) (fun n s hn h => ?_) (s := []) (m := m) (K := N) (by omega) (Nat.zero_le _)).trans ?_
  · simp only [impl_Graph_neighbors_l0, ilt_nf hn, br_f]
  · simp only [impl_Graph_neighbors_l0, ilt_n hn, br_t, Graph_has_eq (g := ((m : Int), es)) hed hx hN, bind_some']
    rw [wrap_succ (by omega), room_ok (by simp; omega), chk_t]
    by_cases h : nearG es x (n : Int)
    · have hne : (n : Int) ≠ x := fun e => near_ne hg (a := x) (by rw [e] at h; exact h)
      rw [ine_t hne, br_t, decide_eq_true h, br_t, if_pos h]
      rfl
    · rw [if_neg h, decide_eq_false h, br_f, br_same]
  · by_cases hc : nearG es x (n : Int)
    · rw [if_pos hc]; simp; omega
    · rw [if_neg hc]; omega
  · rw [iter_app]
    rfl
theorem rdI_set {cs : List Int} {x : Nat} (hx : x < cs.length) (v y : Int) (hy : 0 ≤ y) : rdI (tSet cs (x : Int) v) y = if y = x then v else rdI cs y := by
  obtain ⟨n, rfl⟩ : ∃ n : Nat, y = n := ⟨y.toNat, by omega⟩
  rw [tSet_n]
  unfold rdI
  rw [Int.toNat_natCast, List.getD, List.getD, List.getElem?_set]
  by_cases h : x = n
  · subst h
    simp [hx]
  · have : ¬ ((n : Int) = (x : Int)) := by omega
    simp [h, this]
theorem wrap64 {n : Nat} (h : n < 18446744073709551616) : IntKind.u64.wrap (n : Int) = (n : Int) := by
  unfold IntKind.wrap
  simp only [IntKind.bits, IntKind.signed, Bool.false_and]
  have : (n : Int) % (2 ^ 64 : Int) = n := Int.emod_eq_of_lt (by omega) (by omega)
  rw [this]
  rfl
theorem ofInt64 {n : Nat} (h : n < 18446744073709551616) : (BitVec.ofInt 64 (n : Int)).toNat = n := by
  rw [BitVec.toNat_ofInt]
  omega
theorem andN {a b : Nat} (ha : a < 4294967296) (hb : b < 4294967296) : bitop .and .u64 (a : Int) (b : Int) = ((a &&& b : Nat) : Int) := by
  show IntKind.u64.wrap (((BitVec.ofInt 64 (a : Int) &&& BitVec.ofInt 64 (b : Int)).toNat : Nat) : Int) = _
  rw [BitVec.toNat_and, ofInt64 (by omega), ofInt64 (by omega)]
  have : a &&& b < 2 ^ 32 := Nat.and_lt_two_pow _ hb
  exact wrap64 (by omega)
theorem l2Neighbors_eq {N : Nat} {m : Nat} {es : List (Int × Int)} {x : Int} (hm : m ≤ 8) (hx : es.length ≤ 1048576) (hN : 1048577 ≤ N) : spec_l2Neighbors N ((m : Int), es) x = some ((nbr m es x, ()), ()) := by
  unfold spec_l2Neighbors
  refine (loop_iter (L := fun K n o => spec_l2Neighbors_l0 N (fun o => some ((o, ()), ())) K x n (m : Int) es o) (k := fun o => some ((o, ()), ())) (Inv := fun n o => o.length ≤ n) (step := fun n o => if nearG es x (n : Int) then o ++ [(n : Int)] else o) (fun K n s hn _ => ?_) (fun K n s hn hs => ?_) (fun n s hn h => ?_) (s := []) (m := m) (K := N) (by omega) (Nat.zero_le _)).trans ?_
  · simp only [spec_l2Neighbors_l0, ilt_nf hn, br_f]
  · simp only [spec_l2Neighbors_l0, ilt_n hn, br_t, l2Near_eq (g := ((m : Int), es)) hx hN, bind_some']
    rw [wrap_succ (by omega), room_ok (by simp; omega), chk_t]
    by_cases h : nearG es x (n : Int)
    · rw [decide_eq_true h, br_t, if_pos h]
      rfl
    · rw [if_neg h, decide_eq_false h, br_f]
  · by_cases hc : nearG es x (n : Int)
    · rw [if_pos hc]; simp; omega
    · rw [if_neg hc]; omega
  · rw [iter_app]
    rfl
theorem nodup_le : ∀ {a b : List Int}, a.Nodup → (∀ x ∈ a, x ∈ b) → a.length ≤ b.length := by
  intro a
  induction a with
  | nil => intro b _ _; exact Nat.zero_le _
  | cons x a ih =>
    intro b hn hs
    obtain ⟨h1, h2⟩ := List.nodup_cons.1 hn
    have hx := hs x (List.mem_cons_self ..)
    have := ih (b := b.erase x) h2 fun y hy => (List.mem_erase_of_ne (fun (e : y = x) => h1 (e ▸ hy))).2 (hs y (List.mem_cons_of_mem _ hy))
    rw [List.length_erase_of_mem hx] at this
    have := List.length_pos_of_mem hx
    rw [List.length_cons]
    omega
def strict (xs : List Int) : Prop := xs.Pairwise (· < ·)
theorem strict_nodup {xs : List Int} (h : strict xs) : xs.Nodup := h.imp fun hab e => by omega
def inM (m : Nat) (o : List Int) : Prop := o.Nodup ∧ ∀ z ∈ o, 0 ≤ z ∧ z < (m : Int)
theorem inM_len {m : Nat} {o : List Int} (h : inM m o) : o.length ≤ m := by
  have := nodup_le (b := (List.range m).map fun i : Nat => (i : Int)) h.1 fun z hz => by
    have := h.2 z hz
    exact List.mem_map.2 ⟨z.toNat, List.mem_range.2 (by omega), by omega⟩
  simpa using this
def stepsC (f : Nat → List (List Int) → List (List Int)) : Nat → Nat → List (List Int) → List (List Int)
  | 0, _, l => l
  | r + 1, c, l => if l.length ≤ 300 then stepsC f r (c + 1) (f c l) else l
def freeC (es : List (Int × Int)) (b : List Int) (c : Int) : Prop := ∀ y : Nat, y < b.length → ¬ (rdI b y = c ∧ nearG es y (b.length : Int))
noncomputable def moreC (k : Nat) (es : List (Int × Int)) : Nat → List Int → List (List Int) → List (List Int)
  | 0, b, l => l ++ [b]
  | d + 1, b, l => stepsC (fun c l => if freeC es b (c : Int) then moreC k es d (b ++ [(c : Int)]) l else l) k 0 l
theorem stepsC_inv {f : Nat → List (List Int) → List (List Int)} {p : List (List Int) → Prop} (h : ∀ c l, l.length ≤ 300 → p l → p (f c l)) : ∀ (r c : Nat) (l : List (List Int)), p l → p (stepsC f r c l) := by
  intro r
  induction r with
  | zero => intro c l hl; exact hl
  | succ r ih =>
    intro c l hl
    unfold stepsC
    by_cases h3 : l.length ≤ 300
    · rw [if_pos h3]; exact ih _ _ (h c l h3 hl)
    · rw [if_neg h3]; exact hl
theorem moreC_len {k : Nat} {es : List (Int × Int)} : ∀ (d : Nat) (b : List Int) (l : List (List Int)), l.length ≤ 300 → (moreC k es d b l).length ≤ 301 := by
  intro d
  induction d with
  | zero => intro b l h; simp [moreC]; omega
  | succ d ih =>
    intro b l h
    unfold moreC
    refine stepsC_inv (p := fun l => l.length ≤ 301) (fun c l h1 h2 => ?_) k 0 l (by omega)
    by_cases hf : freeC es b (c : Int)
    · rw [if_pos hf]; exact ih _ _ h1
    · rw [if_neg hf]; exact h2
theorem moreC_rows {k : Nat} {es : List (Int × Int)} {m : Nat} : ∀ (d : Nat) (b : List Int) (l : List (List Int)), b.length + d = m → (∀ x ∈ l, x.length = m) → ∀ x ∈ moreC k es d b l, x.length = m := by
  intro d
  induction d with
  | zero =>
    intro b l hb h x hx
    simp only [moreC, List.mem_append, List.mem_singleton] at hx
    rcases hx with hx | rfl
    · exact h x hx
    · omega
  | succ d ih =>
    intro b l hb h
    unfold moreC
    refine stepsC_inv (p := fun l => ∀ x ∈ l, x.length = m) (fun c l h1 h2 => ?_) k 0 l h
    by_cases hf : freeC es b (c : Int)
    · rw [if_pos hf]; exact ih _ _ (by simp; omega) h2
    · rw [if_neg hf]; exact h2
theorem l5More_l0_0_eq {R : Type} {N : Nat} (hN : 1048577 ≤ N) {slf : (Int × List (Int × Int)) → Int → List Int → List (List Int) → Option ((List (List Int) × Unit) × Unit)} {k0 : Int → List Int → Int → Bool → Int → Bool → List (List Int) → Int → List (Int × Int) → Option R}
    {k c : Int} {b : List Int} {a : Int} {z : Bool} {o : List (List Int)} {m : Int} {es : List (Int × Int)} (hx : es.length ≤ 1048576) (hb : b.length ≤ 1048576) : ∀ (d n K : Nat) (f : Bool), n + d = b.length → d < K →
    spec_l5More_l0_0 N slf k0 K k b c f (n : Int) a z o m es = k0 k b c (f && decide (∀ y : Nat, n ≤ y → y < b.length → ¬ (rdI b y = c ∧ nearG es y (b.length : Int)))) a z o m es := by
  intro d
  induction d with
  | zero =>
    intro n K f hd hK
    obtain ⟨K, rfl⟩ := succ_of hK
    simp only [spec_l5More_l0_0, ilt_lenf (show ¬ n < b.length by omega), br_f]
    rw [decide_eq_true (fun y h1 h2 => by omega), Bool.and_true]
  | succ d ih =>
    intro n K f hd hK
    obtain ⟨K, rfl⟩ := succ_of hK
    have hn : n < b.length := by omega
    simp only [spec_l5More_l0_0, ilt_len hn, br_t, inb_n hn, chk_t]
    rw [wrap_succ (by omega), ih (n + 1) K false (by omega) (by omega), ih (n + 1) K true (by omega) (by omega), l2Near_eq (g := (m, es)) hx hN, bind_some', ih (n + 1) K _ (by omega) (by omega)]
    cases f with
    | false => simp [br_f]
    | true =>
      rw [br_t]
      by_cases h1 : rdI b n = c
      · rw [ine_f h1, br_f]
        congr 1
        rw [Bool.true_and]
        by_cases h2 : nearG es n (b.length : Int)
        · have : ¬ ∀ y : Nat, n ≤ y → y < b.length → ¬ (rdI b y = c ∧ nearG es y (b.length : Int)) := fun h => h n (Nat.le_refl _) hn ⟨h1, h2⟩
          rw [decide_eq_false this, tLen_n, decide_eq_true h2]
          rfl
        · rw [tLen_n, decide_eq_false h2, Bool.not_false, Bool.true_and]
          refine decide_eq_decide.2 ⟨fun h y h3 h4 h5 => ?_, fun h y h3 h4 => h y (by omega) h4⟩
          by_cases e : y = n
          · subst e; exact h2 h5.2
          · exact h y (by omega) h4 h5
      · rw [ine_t h1, br_t]
        congr 1
        rw [Bool.true_and, Bool.true_and]
        refine decide_eq_decide.2 ⟨fun h y h3 h4 h5 => ?_, fun h y h3 h4 => h y (by omega) h4⟩
        by_cases e : y = n
        · subst e; exact h1 h5.1
        · exact h y (by omega) h4 h5
theorem l5More_eq {N : Nat} (hN : 1048577 ≤ N) {k m : Nat} {es : List (Int × Int)} (hx : es.length ≤ 1048576) (hk : k ≤ 5) (hm : m ≤ 8) : ∀ (d : Nat) (b : List Int) (l : List (List Int)) (K : Nat), b.length + d = m → d < K → l.length ≤ 300 →
    spec_l5More_r N K ((m : Int), es) (k : Int) b l = some ((moreC k es d b l, ()), ()) := by
  intro d
  induction d with
  | zero =>
    intro b l K hd hK hl
    obtain ⟨K, rfl⟩ := succ_of hK
    have hb : b.length = m := by omega
    unfold spec_l5More_r spec_l5More_b
    simp only []
    rw [tLen_n, ieq_t (by omega), br_t, l1Own_eq (by omega), bind_some', room_ok (by simp; omega), chk_t]
    rfl
  | succ d ih =>
    intro b l K hd hK hl
    obtain ⟨K, rfl⟩ := succ_of hK
    have hb : b.length < m := by omega
    unfold spec_l5More_r spec_l5More_b
    simp only []
    rw [tLen_n, ieq_f (by omega), br_f]
    have go : ∀ (r c : Nat) (l : List (List Int)) (K' : Nat), c + r = k → r < K' → l.length ≤ 301 →
        spec_l5More_l0 N (spec_l5More_r N K) (fun o => some ((o, ()), ())) K' (k : Int) b (c : Int) l (m : Int) es = some ((stepsC (fun c l => if freeC es b (c : Int) then moreC k es d (b ++ [(c : Int)]) l else l) r c l, ()), ()) := by
      intro r
      induction r with
      | zero =>
        intro c l K' hr hK' hl
        obtain ⟨K', rfl⟩ := succ_of hK'
        simp only [spec_l5More_l0, ilt_nf (show ¬ c < k by omega), br_f, stepsC]
      | succ r ihr =>
        intro c l K' hr hK' hl
        obtain ⟨K', rfl⟩ := succ_of hK'
        simp only [spec_l5More_l0, ilt_n (show c < k by omega), br_t, tLen_n]
        by_cases h3 : l.length ≤ 300
        · rw [ile_t (by omega), br_t]
          have := l5More_l0_0_eq (R := (List (List Int) × Unit) × Unit) hN (slf := spec_l5More_r N K) (k0 := fun x3 x4 x5 x6 x7 x8 o3 o4 o5 => br x6
              ((spec_l1Own N x4).bind fun r1 => chk (room r1.1.1 [x5]) ((spec_l5More_r N K (o4, o5) x3 (tApp r1.1.1 [x5]) o3).bind fun r2 =>
                spec_l5More_l0 N (spec_l5More_r N K) (fun o => some ((o, ()), ())) K' x3 x4 (IntKind.i64.wrap (x5 + 1)) r2.1.1 o4 o5))
              (spec_l5More_l0 N (spec_l5More_r N K) (fun o => some ((o, ()), ())) K' x3 x4 (IntKind.i64.wrap (x5 + 1)) o3 o4 o5)) (k := (k : Int)) (c := (c : Int)) (b := b) (a := (l.length : Int)) (z := true) (o := l) (m := (m : Int)) (es := es) hx (by omega) b.length 0 N true (by omega) (by omega)
          rw [show ((0 : Nat) : Int) = 0 from rfl] at this
          rw [this, Bool.true_and]
          unfold stepsC
          rw [if_pos h3]
          have hfr : (∀ y : Nat, 0 ≤ y → y < b.length → ¬ (rdI b y = (c : Int) ∧ nearG es y (b.length : Int))) ↔ freeC es b (c : Int) := ⟨fun h y hy => h y (Nat.zero_le _) hy, fun h y _ hy => h y hy⟩
          rw [decide_eq_decide.2 hfr, wrap_succ (by omega)]
          by_cases hf : freeC es b (c : Int)
          · rw [decide_eq_true hf, br_t, l1Own_eq (by omega), bind_some', room_ok (by simp; omega), chk_t, tApp_d, ih _ _ K (by simp; omega) (by omega) h3, bind_some']
            simp only [if_pos hf]
            exact ihr (c + 1) _ K' (by omega) (by omega) (moreC_len _ _ _ h3)
          · rw [decide_eq_false hf, br_f]
            simp only [if_neg hf]
            exact ihr (c + 1) _ K' (by omega) (by omega) hl
        · rw [ile_f (by omega), br_f]
          unfold stepsC
          rw [if_neg h3]
    have := go k 0 l N (by omega) (by omega) (by omega)
    rw [show ((0 : Nat) : Int) = 0 from rfl] at this
    rw [this]
    rfl
theorem nearG_symm {es : List (Int × Int)} {a b : Int} : nearG es a b ↔ nearG es b a := ⟨fun h => h.elim .inr .inl, fun h => h.elim .inr .inl⟩
theorem rdI_take {cs : List Int} {x : Nat} {y : Nat} (h : y < x) (hx : x ≤ cs.length) : rdI (cs.take x) y = rdI cs y := by
  rw [rdI_n (by simp; omega), rdI_n (by omega), List.getElem_take]
theorem colFree_eq {N : Nat} (hN : 1048577 ≤ N) {m : Nat} {es : List (Int × Int)} (hg : goodG ((m : Int), es)) (hx : es.length ≤ 1048576) {x : Nat} {cs : List Int} (hcs : cs.length = m) (hxm : x < m) (c : Int) :
    slices_ContainsFunc_LI_int N (nbr m es x) (fun y0 => (impl_Graph_colourings_c1_c1 N y0 (x : Int) cs c).bind fun z => some z.1.1) = some ((!decide (freeC es (cs.take x) c), ()), ()) := by
  have hm := hg.1
  simp only at hm
  have hl := nbr_len m es x
  rw [ContainsFunc_LI_int_eq (g := fun y => decide (y < (x : Int) ∧ rdI cs y = c)) (fun y hy => ?_) (by omega) (by omega)]
  · congr 3
    rw [← Bool.not_not ((nbr m es x).any _), not_any]
    congr 1
    refine decide_eq_decide.2 ⟨fun h y hy h1 => ?_, fun h y hy => decide_eq_false fun h1 => ?_⟩
    · have hyx : y < x := by simp at hy; omega
      have hy2 : (cs.take x).length = x := by simp; omega
      rw [hy2] at h1
      rw [rdI_take hyx (by omega)] at h1
      have := h y (mem_nbr.2 ⟨y, by omega, nearG_symm.1 h1.2, rfl⟩)
      simp only [decide_eq_false_iff_not] at this
      exact this ⟨by omega, h1.1⟩
    · obtain ⟨i, h2, h3, rfl⟩ := mem_nbr.1 hy
      have hix : i < x := by omega
      have hy2 : (cs.take x).length = x := by simp; omega
      refine h i (by omega) ⟨by rw [rdI_take hix (by omega)]; exact h1.2, ?_⟩
      rw [hy2]
      exact nearG_symm.1 h3
  · obtain ⟨i, h2, h3, rfl⟩ := mem_nbr.1 hy
    unfold impl_Graph_colourings_c1_c1
    by_cases hix : i < x
    · rw [ilt_n hix, br_t, inb_n (by omega), chk_t, bind_some', ieq_d]
      congr 1
      refine decide_eq_decide.2 ⟨fun h => ⟨by omega, h⟩, fun h => h.2⟩
    · rw [ilt_nf hix, br_f, bind_some']
      congr 1
      exact (decide_eq_false fun h => hix (by omega)).symm
theorem take_set_self {cs : List Int} {x : Nat} (h : x < cs.length) (v : Int) : (cs.set x v).take (x + 1) = cs.take x ++ [v] := by
  rw [List.take_add_one, List.getElem?_set_self h, List.take_set_of_le (Nat.le_refl x)]
  rfl
def okL (l : List (List Int)) : Bool := Nat.ble l.length 300
theorem okL_t {l : List (List Int)} (h : l.length ≤ 300) : okL l = true := Nat.ble_eq_true_of_le h
theorem okL_f {l : List (List Int)} (h : ¬ l.length ≤ 300) : okL l = false := by
  cases hq : okL l with
  | false => rfl
  | true => exact absurd (Nat.le_of_ble_eq_true hq) h
theorem okL_ile (l : List (List Int)) : ile (l.length : Int) 300 = okL l := by
  by_cases h : l.length ≤ 300
  · rw [okL_t h, ile_t (by omega)]
  · rw [okL_f h, ile_f (by omega)]
theorem colFrom_eq {N : Nat} (hN : 1048577 ≤ N) {k m : Nat} {es : List (Int × Int)} (hg : goodG ((m : Int), es)) (hx : es.length ≤ 1048576) (hk : k ≤ 5) : ∀ (d x : Nat) (cs : List Int) (l : List (List Int)) (K : Nat), x + d = m → d < K → l.length ≤ 300 → cs.length = m →
    ∃ cs', impl_Graph_colourings_c1_r N K (x : Int) ((m : Int), es) l cs (k : Int) () = some ((okL (moreC k es d (cs.take x) l), ()), (moreC k es d (cs.take x) l, cs', ())) ∧ cs'.length = m ∧ cs'.take x = cs.take x := by
  have hm := hg.1
  simp only at hm
  intro d
  induction d with
  | zero =>
    intro x cs l K hd hK hl hcs
    obtain ⟨K, rfl⟩ := succ_of hK
    refine ⟨cs, ?_, hcs, rfl⟩
    unfold impl_Graph_colourings_c1_r impl_Graph_colourings_c1_b
    simp only []
    rw [ieq_t (by omega), br_t, Clone_eq (by omega), bind_some', room_ok (by simp; omega), chk_t, List.take_of_length_le (by omega)]
    simp only [moreC, tApp_d, tLen_n, okL_ile]
  | succ d ih =>
    intro x cs l K hd hK hl hcs
    obtain ⟨K, rfl⟩ := succ_of hK
    have hxm : x < m := by omega
    unfold impl_Graph_colourings_c1_r impl_Graph_colourings_c1_b
    simp only []
    rw [ieq_f (by omega), br_f]
    have go : ∀ (r c : Nat) (l : List (List Int)) (cs1 : List Int) (K' : Nat), c + r = k → r < K' → l.length ≤ 300 → cs1.length = m → cs1.take x = cs.take x →
        ∃ cs', impl_Graph_colourings_c1_l0 N (impl_Graph_colourings_c1_r N K) (fun x1 o o1 => some ((x1, ()), (o, o1, ()))) (fun o2 o3 => some ((true, ()), (o2, o3, ()))) K' ((m : Int), es) ((m : Int), es) (k : Int) (k : Int) (c : Int) l cs1 (x : Int) =
          some ((okL (stepsC (fun c l => if freeC es (cs.take x) (c : Int) then moreC k es d (cs.take x ++ [(c : Int)]) l else l) r c l), ()), (stepsC (fun c l => if freeC es (cs.take x) (c : Int) then moreC k es d (cs.take x ++ [(c : Int)]) l else l) r c l, cs', ())) ∧ cs'.length = m ∧ cs'.take x = cs.take x := by
      intro r
      induction r with
      | zero =>
        intro c l cs1 K' hr hK' hl h1 h2
        obtain ⟨K', rfl⟩ := succ_of hK'
        refine ⟨cs1, ?_, h1, h2⟩
        simp only [impl_Graph_colourings_c1_l0, ilt_nf (show ¬ c < k by omega), br_f, stepsC]
        rw [okL_t hl]
      | succ r ihr =>
        intro c l cs1 K' hr hK' hl h1 h2
        obtain ⟨K', rfl⟩ := succ_of hK'
        simp only [impl_Graph_colourings_c1_l0, ilt_n (show c < k by omega), br_t]
        rw [neighbors_eq hg hx hN, bind_some', colFree_eq hN hg hx h1 hxm, bind_some', inb_n (by omega), chk_t, h2, wrap_succ (show x < 4611686018427387904 by omega), wrap_succ (show c < 4611686018427387904 by omega)]
        unfold stepsC
        rw [if_pos hl]
        have h3 : (tSet cs1 (x : Int) (c : Int)).length = m := by rw [tSet_n, List.length_set]; exact h1
        have h4 : (tSet cs1 (x : Int) (c : Int)).take (x + 1) = cs.take x ++ [(c : Int)] := by rw [tSet_n, take_set_self (by omega), h2]
        have h5 : (tSet cs1 (x : Int) (c : Int)).take x = cs.take x := by rw [tSet_n, List.take_set_of_le (Nat.le_refl x), h2]
        by_cases hf : freeC es (cs.take x) (c : Int)
        · rw [decide_eq_true hf, Bool.not_true, Bool.not_false, br_t]
          obtain ⟨cs2, e1, e2, e3⟩ := ih (x + 1) (tSet cs1 (x : Int) (c : Int)) l K (by omega) (by omega) hl h3
          rw [e1, bind_some', h4]
          rw [h4] at e3
          have e4 : cs2.take x = cs.take x := by
            have := congrArg (List.take x) e3
            rw [List.take_take, List.take_left' (by simp; omega)] at this
            rwa [Nat.min_eq_left (by omega)] at this
          simp only [if_pos hf]
          by_cases h6 : (moreC k es d (cs.take x ++ [(c : Int)]) l).length ≤ 300
          · rw [okL_t h6, Bool.not_true, br_f]
            exact ihr (c + 1) _ cs2 K' (by omega) (by omega) h6 e2 e4
          · rw [okL_f h6, Bool.not_false, br_t]
            have h7 : ∀ r c, stepsC (fun c l => if freeC es (cs.take x) (c : Int) then moreC k es d (cs.take x ++ [(c : Int)]) l else l) r c (moreC k es d (cs.take x ++ [(c : Int)]) l) = moreC k es d (cs.take x ++ [(c : Int)]) l ∨ True := fun _ _ => .inr trivial
            have h8 : stepsC (fun c l => if freeC es (cs.take x) (c : Int) then moreC k es d (cs.take x ++ [(c : Int)]) l else l) r (c + 1) (moreC k es d (cs.take x ++ [(c : Int)]) l) = moreC k es d (cs.take x ++ [(c : Int)]) l := by
              cases r with
              | zero => rfl
              | succ r => unfold stepsC; rw [if_neg h6]
            rw [h8]
            exact ⟨cs2, by rw [okL_f h6], e2, e4⟩
        · rw [decide_eq_false hf, Bool.not_false, Bool.not_true, br_f]
          simp only [if_neg hf]
          exact ihr (c + 1) l _ K' (by omega) (by omega) hl h3 h5
    have := go k 0 l cs N (by omega) (by omega) hl hcs rfl
    rw [show ((0 : Nat) : Int) = 0 from rfl] at this
    exact this
end Go.Proofs.YtkffaahlpdlkoaaGreat
