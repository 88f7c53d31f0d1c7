/- Statements on data alone. -/
import Derived.Test.YtffeokcchabclaaGreatPvPure
import Derived.Test.YtffeokcchabclaaGreatKindsFe
set_option linter.all false
set_option linter.all false
namespace Go.Proofs.YtffeokcchabclaaGreat
open Go Go.PV Classical
theorem all_rdI {xs : List Int} {p : Int → Prop} : (∀ x ∈ xs, p x) ↔ ∀ i : Nat, i < xs.length → p (rdI xs i) := by
  constructor
  · intro h i hi
    rw [rdI_n hi]
    exact h _ (List.getElem_mem hi)
  · intro h x hx
    obtain ⟨i, hi, rfl⟩ := List.mem_iff_getElem.1 hx
    have := h i hi
    rwa [rdI_n hi] at this
theorem all_rdP {xs : List (Int × Int)} {p : Int × Int → Prop} : (∀ x ∈ xs, p x) ↔ ∀ i : Nat, i < xs.length → p (rdP xs i) := by
  constructor
  · intro h i hi
    rw [rdP_n hi]
    exact h _ (List.getElem_mem hi)
  · intro h x hx
    obtain ⟨i, hi, rfl⟩ := List.mem_iff_getElem.1 hx
    have := h i hi
    rwa [rdP_n hi] at this
theorem not_any {α : Type} {xs : List α} {f : α → Bool} : (!(xs.any f)) = decide (∀ x ∈ xs, f x = false) := by
  induction xs with
  | nil => simp
  | cons x xs ih =>
    rw [List.any_cons, Bool.not_or, ih]
    by_cases h : f x = true <;> simp [h]
def findAt {α : Type} (f : α → Bool) : List α → Nat → Int
  | [], _ => -1
  | x :: xs, n => if f x = true then (n : Int) else findAt f xs (n + 1)
theorem findAt_cons {α : Type} (f : α → Bool) (x : α) (xs : List α) (n : Nat) : findAt f (x :: xs) n = if f x = true then (n : Int) else findAt f xs (n + 1) := rfl
theorem findAt_ge {α : Type} (f : α → Bool) : ∀ (xs : List α) (n : Nat), decide (0 ≤ findAt f xs n) = xs.any f := by
  intro xs
  induction xs with
  | nil => intro n; rfl
  | cons x xs ih =>
    intro n
    unfold findAt
    by_cases h : f x = true
    · rw [if_pos h]
      simp [h]
    · rw [if_neg h, ih]
      simp [h]
theorem IndexFunc_LLI_LI_l0_eq {R : Type} (N : Nat) (k0 : Int → Option R) (k1 : Unit → Option R) (xs : List (List Int)) (f : List Int → Option Bool) (g : List Int → Bool) (hf : ∀ x ∈ xs, f x = some (g x)) (hx : xs.length ≤ 1099511627776) : ∀ (d n : Nat) (K : Nat), n + d = xs.length → d < K →
    Zq49_l0 N k0 k1 K xs f (xs.length : Int) n = if (xs.drop n).any g = true then k0 (findAt g (xs.drop n) n) else k1 () := by
  intro d
  induction d with
  | zero =>
    intro n K hd hK
    obtain ⟨k, rfl⟩ := succ_of hK
    have hn : ¬ n < xs.length := by omega
    simp only [Zq49_l0, ilt_nf hn, br_f]
    rw [List.drop_of_length_le (by omega)]
    simp
  | succ d ih =>
    intro n K hd hK
    obtain ⟨k, rfl⟩ := succ_of hK
    have hn : n < xs.length := by omega
    simp only [Zq49_l0, ilt_n hn, inb_n hn, br_t, chk_t]
    obtain ⟨y, r, e1, e2, e3⟩ := drop_split hn
    rw [wrap_succ (by omega), rdL_n hn, ih (n + 1) k (by omega) (by omega), hf _ (List.getElem_mem hn), bind_some', br_ite, e1, e2, e3, findAt_cons]
    by_cases h : g y = true
    · simp [h]
    · simp [h]
theorem IndexFunc_LP_P2_l0_eq {R : Type} (N : Nat) (k0 : Int → Option R) (k1 : Unit → Option R) (xs : List (Int × Int)) (f : Int × Int → Option Bool) (g : Int × Int → Bool) (hf : ∀ x ∈ xs, f x = some (g x)) (hx : xs.length ≤ 1099511627776) : ∀ (d n : Nat) (K : Nat), n + d = xs.length → d < K →
    Zq50_l0 N k0 k1 K xs f (xs.length : Int) n = if (xs.drop n).any g = true then k0 (findAt g (xs.drop n) n) else k1 () := by
  intro d
  induction d with
  | zero =>
    intro n K hd hK
    obtain ⟨k, rfl⟩ := succ_of hK
    have hn : ¬ n < xs.length := by omega
    simp only [Zq50_l0, ilt_nf hn, br_f]
    rw [List.drop_of_length_le (by omega)]
    simp
  | succ d ih =>
    intro n K hd hK
    obtain ⟨k, rfl⟩ := succ_of hK
    have hn : n < xs.length := by omega
    simp only [Zq50_l0, ilt_n hn, inb_n hn, br_t, chk_t]
    obtain ⟨y, r, e1, e2, e3⟩ := drop_split hn
    rw [wrap_succ (by omega), rdP_n hn, ih (n + 1) k (by omega) (by omega), hf _ (List.getElem_mem hn), bind_some', br_ite, e1, e2, e3, findAt_cons]
    by_cases h : g y = true
    · simp [h]
    · simp [h]
theorem ContainsFunc_LP_P2_eq {N : Nat} {xs : List (Int × Int)} {f : Int × Int → Option Bool} {g : Int × Int → Bool} (hf : ∀ x ∈ xs, f x = some (g x)) (hx : xs.length ≤ 1099511627776) (hN : xs.length < N) :
    Zq46 N xs f = some ((xs.any g, ()), ()) := by
  unfold Zq46 Zq50
  have := IndexFunc_LP_P2_l0_eq N (fun x => some ((x, ()), ())) (fun _ => some (((-1 : Int), ()), ())) xs f g hf hx xs.length 0 N (by omega) (by omega)
  simp only [Int.natCast_zero, List.drop_zero] at this
  rw [tLen_n, this]
  by_cases h : xs.any g = true
  · rw [if_pos h, bind_some', ile_d, findAt_ge]
  · rw [if_neg h, bind_some']
    simp only [Bool.not_eq_true] at h
    rw [h]
    rfl
theorem l1In_eq (N : Nat) (x a b : Int) : Zq75 N x a b = some ((decide (a ≤ x ∧ x ≤ b), ()), ()) := by
  unfold Zq75
  rw [br_ite, ile_d, ile_d]
  by_cases h : a ≤ x <;> by_cases h' : x ≤ b <;> simp [h, h']
theorem between_eq (N : Nat) (n low high : Int) : Zq28 N n low high = some ((decide (low ≤ n ∧ n ≤ high), ()), ()) := by
  unfold Zq28
  rw [br_ite, ile_d, ile_d]
  by_cases h : low ≤ n <;> by_cases h' : n ≤ high <;> simp [h, h']
def risingAt (lo hi : Int) (xs : List Int) (i : Nat) : Prop := (lo ≤ rdI xs i ∧ rdI xs i ≤ hi) ∧ (0 < i → rdI xs ((i - 1 : Nat) : Int) < rdI xs i)
def rising (lo hi : Int) (xs : List Int) : Prop := ∀ i, i < xs.length → risingAt lo hi xs i
theorem l1Rising_eq {N : Nat} {lo hi : Int} {xs : List Int} (hx : xs.length ≤ 1048576) (hN : 1048577 ≤ N) : Zq81 N xs lo hi = some ((decide (rising lo hi xs), ()), ()) := by
  unfold Zq81
  have := loop_all_if (P := rising lo hi xs) (L := fun K i => Zq81_l0 N (fun x => some ((x, ()), ())) (fun (_ : Unit) => some ((true, ()), ())) K xs lo hi i) (risingAt lo hi xs) Iff.rfl (kt := some ((true, ()), ())) (kf := some ((false, ()), ())) (fun K n hn => ?_) (fun K n hn hp => ?_) (fun K n hn hp => ?_) (show xs.length < N by omega)
  · rw [show ((0 : Nat) : Int) = 0 from rfl] at this
    rw [this]
    by_cases h : rising lo hi xs <;> simp [h]
  · simp only [Zq81_l0, ilt_lenf hn, br_f]
  · simp only [Zq81_l0, ilt_len hn, br_t, inb_n hn, chk_t, l1In_eq, bind_some']
    obtain ⟨h1, h2⟩ := hp
    rw [decide_eq_true h1, Bool.not_true, br_f]
    by_cases h0 : 0 < n
    · rw [ilt_0 h0, br_t, wrap_pred (by omega) h0, inb_n (by omega), chk_t, ile_f (by have := h2 h0; omega), br_f, wrap_succ (by omega)]
    · rw [ilt_0n h0, br_f, wrap_succ (by omega)]
  · simp only [Zq81_l0, ilt_len hn, br_t, inb_n hn, chk_t, l1In_eq, bind_some']
    by_cases h1 : lo ≤ rdI xs n ∧ rdI xs n ≤ hi
    · rw [decide_eq_true h1, Bool.not_true, br_f]
      have h0 : 0 < n := by
        rcases Nat.eq_zero_or_pos n with h0 | h0
        · exact absurd ⟨h1, fun h' => by omega⟩ hp
        · exact h0
      have h4 : ¬ rdI xs ((n - 1 : Nat) : Int) < rdI xs n := fun h' => hp ⟨h1, fun _ => h'⟩
      rw [ilt_0 h0, br_t, wrap_pred (by omega) h0, inb_n (by omega), chk_t, ile_t (by omega), br_t]
    · rw [decide_eq_false h1, Bool.not_false, br_t]
theorem isRising_eq {N : Nat} {m : Int} {xs : List Int} (hx : xs.length ≤ 1048576) (hm : 0 ≤ m ∧ m ≤ 4611686018427387904) (hN : 1048577 ≤ N) : Zq34 N xs m = some ((decide (rising 0 (m - 1) xs), ()), ()) := by
  unfold Zq34
  have := loop_all_if (P := rising 0 (m - 1) xs) (L := fun K i => Zq34_l0 N (fun x => some ((x, ()), ())) (fun (_ : Unit) => some ((true, ()), ())) K xs m xs (xs.length : Int) i) (risingAt 0 (m - 1) xs) Iff.rfl (kt := some ((true, ()), ())) (kf := some ((false, ()), ())) (fun K n hn => ?_) (fun K n hn hp => ?_) (fun K n hn hp => ?_) (show xs.length < N by omega)
  · rw [show ((0 : Nat) : Int) = 0 from rfl] at this
    rw [tLen_n, this]
    by_cases h : rising 0 (m - 1) xs <;> simp [h]
  · simp only [Zq34_l0, ilt_nf hn, br_f]
  · simp only [Zq34_l0, ilt_n hn, br_t, inb_n hn, chk_t, between_eq, bind_some', wrap_ok (show -9223372036854775808 ≤ m - 1 by omega) (show m - 1 < 9223372036854775808 by omega)]
    obtain ⟨h1, h2⟩ := hp
    rw [decide_eq_true h1, Bool.not_true, br_f]
    by_cases h0 : 0 < n
    · rw [ilt_0 h0, br_t, wrap_pred (by omega) h0, inb_n (by omega), chk_t, ile_f (by have := h2 h0; omega), br_f, wrap_succ (by omega)]
    · rw [ilt_0n h0, br_f, wrap_succ (by omega)]
  · simp only [Zq34_l0, ilt_n hn, br_t, inb_n hn, chk_t, between_eq, bind_some', wrap_ok (show -9223372036854775808 ≤ m - 1 by omega) (show m - 1 < 9223372036854775808 by omega)]
    by_cases h1 : 0 ≤ rdI xs n ∧ rdI xs n ≤ m - 1
    · rw [decide_eq_true h1, Bool.not_true, br_f]
      have h0 : 0 < n := by
        rcases Nat.eq_zero_or_pos n with h0 | h0
        · exact absurd ⟨h1, fun h' => by omega⟩ hp
        · exact h0
      have h4 : ¬ rdI xs ((n - 1 : Nat) : Int) < rdI xs n := fun h' => hp ⟨h1, fun _ => h'⟩
      rw [ilt_0 h0, br_t, wrap_pred (by omega) h0, inb_n (by omega), chk_t, ile_t (by omega), br_t]
    · rw [decide_eq_false h1, Bool.not_false, br_t]
theorem l1Most_eq (N : Nat) (a b : Int) : Zq77 N a b = some ((if b < a then a else b, ()), ()) := by
  unfold Zq77
  rw [br_ite, ilt_d]
  by_cases h : b < a <;> simp [h]
theorem l1Own_eq {N : Nat} {xs : List Int} (h : xs.length ≤ 1048576) : Zq78 N xs = some ((xs, ()), ()) := by
  unfold Zq78
  rw [room_ok (by simp; omega), chk_t]
  rfl
theorem l1Has_eq {N : Nat} {xs : List Int} {v : Int} (hx : xs.length ≤ 1048576) (hN : 1048577 ≤ N) : Zq74 N xs v = some ((decide (v ∈ xs), ()), ()) := by
  unfold Zq74
  have := loop_all_if (P := ∀ x ∈ xs, x ≠ v) (L := fun K i => Zq74_l0 N (fun x => some ((x, ()), ())) (fun (_ : Unit) => some ((false, ()), ())) K xs v i) (fun i => rdI xs i ≠ v) all_rdI (kt := some ((false, ()), ())) (kf := some ((true, ()), ())) (fun K n hn => ?_) (fun K n hn hp => ?_) (fun K n hn hp => ?_) (show xs.length < N by omega)
  · rw [show ((0 : Nat) : Int) = 0 from rfl] at this
    rw [this]
    by_cases h : v ∈ xs
    · rw [if_neg (fun h' => h' v h rfl), decide_eq_true h]
    · rw [if_pos (fun x hx (h' : x = v) => h (h' ▸ hx)), decide_eq_false h]
  · simp only [Zq74_l0, ilt_lenf hn, br_f]
  · simp only [Zq74_l0, ilt_len hn, br_t, inb_n hn, chk_t]
    rw [ieq_f hp, br_f, wrap_succ (by omega)]
  · simp only [Zq74_l0, ilt_len hn, br_t, inb_n hn, chk_t]
    rw [ieq_t (Decidable.not_not.1 hp), br_t]
def edgeLt (a b : Int × Int) : Prop := a.1 < b.1 ∨ a.1 = b.1 ∧ a.2 < b.2
def pairAt (m : Int) (es : List (Int × Int)) (i : Nat) : Prop := (0 ≤ (rdP es i).1 ∧ (rdP es i).1 < (rdP es i).2 ∧ (rdP es i).2 < m) ∧ (0 < i → edgeLt (rdP es ((i - 1 : Nat) : Int)) (rdP es i))
def goodG (g : Int × List (Int × Int)) : Prop := (0 ≤ g.1 ∧ g.1 ≤ 8) ∧ ∀ i, i < g.2.length → pairAt g.1 g.2 i
theorem goodG_edges {g : Int × List (Int × Int)} (h : goodG g) : ∀ e ∈ g.2, 0 ≤ e.1 ∧ e.1 < e.2 ∧ e.2 < g.1 :=
  all_rdP.2 fun i hi => (h.2 i hi).1
theorem l2Edge_eq (N : Nat) (a b : Int × Int) : Zq85 N a b = some ((decide (edgeLt a b), ()), ()) := by
  unfold Zq85 edgeLt
  by_cases h1 : a.1 < b.1
  · rw [ilt_t h1, br_t]; simp [h1]
  · rw [ilt_f h1, br_f]
    by_cases h2 : a.1 = b.1
    · rw [ieq_t h2, br_t, ilt_d]; simp [h2]
    · rw [ieq_f h2, br_f]; simp [h1, h2]
theorem compare_eq (N : Nat) (x y : Int) : Zq0 N x y = some ((if x < y then -1 else if y < x then 1 else 0, ()), ()) := by
  unfold Zq0 Zq2
  simp only [bind_some', ine_f (rfl : x = x), ine_f (rfl : y = y), br_f]
  by_cases h1 : x < y
  · rw [ilt_t h1, br_t, if_pos h1]
  · rw [ilt_f h1, br_f, if_neg h1]
    by_cases h2 : y < x
    · rw [ilt_t h2, br_t, if_pos h2]
    · rw [ilt_f h2, br_f, if_neg h2]
theorem Or2_eq {N : Nat} (hN : 1048577 ≤ N) (a b : Int) : Zq1 N [a, b] = some ((if a = 0 then b else a, ()), ()) := by
  obtain ⟨k, rfl⟩ : ∃ k, N = k + 3 := ⟨N - 3, by omega⟩
  unfold Zq1
  rw [show tLen [a, b] = 2 from rfl]
  simp only [Zq1_l0]
  rw [show inb [a, b] 0 = true from rfl, show rdI [a, b] 0 = a from rfl, show IntKind.i64.wrap (0 + 1) = 1 from rfl, show inb [a, b] 1 = true from rfl, show rdI [a, b] 1 = b from rfl, show IntKind.i64.wrap (1 + 1) = 2 from rfl, show ilt 0 2 = true from rfl, show ilt 1 2 = true from rfl, show ilt 2 2 = false from rfl, chk_t, chk_t, br_t, br_t, br_f]
  by_cases h : a = 0
  · rw [ine_f h, br_f, if_pos h]
    by_cases h' : b = 0
    · rw [ine_f h', br_f, h']
    · rw [ine_t h', br_t]
  · rw [ine_t h, br_t, if_neg h]
theorem comparePairs_eq {N : Nat} (hN : 1048577 ≤ N) (a b : Int × Int) : ∃ r : Int, Zq29 N a b = some ((r, ()), ()) ∧ (r < 0 ↔ edgeLt a b) ∧ (r = 0 ↔ a = b) := by
  obtain ⟨a1, a2⟩ := a
  obtain ⟨b1, b2⟩ := b
  unfold Zq29 edgeLt
  simp only [compare_eq, bind_some', Or2_eq hN]
  refine ⟨_, rfl, ?_, ?_⟩
  · by_cases h1 : a1 < b1
    · simp [h1]
    · by_cases h2 : b1 < a1
      · simp [h1, h2]; omega
      · have : a1 = b1 := by omega
        simp only [if_neg h1, if_neg h2, if_pos, this, Int.lt_irrefl, false_or, true_and]
        by_cases h3 : a2 < b2
        · simp [h3]
        · by_cases h4 : b2 < a2
          · simp [h3, h4]
          · simp [h3, h4]
  · rw [Prod.mk.injEq]
    by_cases h1 : a1 < b1
    · simp [h1]; omega
    · by_cases h2 : b1 < a1
      · simp [h1, h2]; omega
      · have : a1 = b1 := by omega
        simp only [if_neg h1, if_neg h2, if_pos, this, true_and]
        by_cases h3 : a2 < b2
        · simp [h3]; omega
        · by_cases h4 : b2 < a2
          · simp [h3, h4]; omega
          · simp [h3, h4]; omega
theorem l2Pairs_eq {N : Nat} {m : Int} {es : List (Int × Int)} (hm : 0 ≤ m ∧ m ≤ 8) (hx : es.length ≤ 1048576) (hN : 1048577 ≤ N) : Zq88 N es m = some ((decide (∀ i, i < es.length → pairAt m es i), ()), ()) := by
  unfold Zq88
  have := loop_all_if (P := ∀ i, i < es.length → pairAt m es i) (m := es.length) (L := fun K i => Zq88_l0 N (fun x => some ((x, ()), ())) (fun (_ : Unit) => some ((true, ()), ())) K es m i) (pairAt m es) Iff.rfl (kt := some ((true, ()), ())) (kf := some ((false, ()), ())) (fun K n hn => ?_) (fun K n hn hp => ?_) (fun K n hn hp => ?_) (show es.length < N by omega)
  · rw [show ((0 : Nat) : Int) = 0 from rfl] at this
    rw [this]
    by_cases h : ∀ i, i < es.length → pairAt m es i
    · rw [if_pos h, decide_eq_true h]
    · rw [if_neg h, decide_eq_false h]
  · simp only [Zq88_l0, ilt_lenf hn, br_f]
  · simp only [Zq88_l0, ilt_len hn, inb_n hn, br_t, chk_t, l1In_eq, l2Edge_eq, bind_some', wrap_ok (show -9223372036854775808 ≤ m - 1 by omega) (show m - 1 < 9223372036854775808 by omega)]
    obtain ⟨⟨p1, p2, p3⟩, p4⟩ := hp
    rw [decide_eq_true (show 0 ≤ (rdP es n).1 ∧ (rdP es n).1 ≤ m - 1 by omega), decide_eq_true (show 0 ≤ (rdP es n).2 ∧ (rdP es n).2 ≤ m - 1 by omega), Bool.not_true, br_f, br_f, ile_f (by omega), br_f]
    by_cases h0 : 0 < n
    · rw [ilt_0 h0, br_t, wrap_pred (by omega) h0, inb_n (by omega), chk_t, decide_eq_true (p4 h0), Bool.not_true, br_f, wrap_succ (by omega)]
    · rw [ilt_0n h0, br_f, wrap_succ (by omega)]
  · simp only [Zq88_l0, ilt_len hn, inb_n hn, br_t, chk_t, l1In_eq, l2Edge_eq, bind_some', wrap_ok (show -9223372036854775808 ≤ m - 1 by omega) (show m - 1 < 9223372036854775808 by omega)]
    by_cases q1 : 0 ≤ (rdP es n).1 ∧ (rdP es n).1 ≤ m - 1
    · rw [decide_eq_true q1, Bool.not_true, br_f]
      by_cases q2 : 0 ≤ (rdP es n).2 ∧ (rdP es n).2 ≤ m - 1
      · rw [decide_eq_true q2, Bool.not_true, br_f]
        by_cases q3 : (rdP es n).2 ≤ (rdP es n).1
        · rw [ile_t q3, br_t]
        · rw [ile_f q3, br_f]
          have h0 : 0 < n := by
            rcases Nat.eq_zero_or_pos n with h0 | h0
            · exact absurd ⟨⟨by omega, by omega, by omega⟩, fun h' => by omega⟩ hp
            · exact h0
          have h4 : ¬ edgeLt (rdP es ((n - 1 : Nat) : Int)) (rdP es n) := fun h' => hp ⟨⟨by omega, by omega, by omega⟩, fun _ => h'⟩
          rw [ilt_0 h0, br_t, wrap_pred (by omega) h0, inb_n (by omega), chk_t, decide_eq_false h4, Bool.not_false, br_t]
      · rw [decide_eq_false q2, Bool.not_false, br_t]
    · rw [decide_eq_false q1, Bool.not_false, br_t]
theorem isPairs_eq {N : Nat} {m : Int} {es : List (Int × Int)} (hm : 0 ≤ m ∧ m ≤ 8) (hx : es.length ≤ 1048576) (hN : 1048577 ≤ N) : Zq33 N es m = some ((decide (∀ i, i < es.length → pairAt m es i), ()), ()) := by
  unfold Zq33
  have := loop_all_if (P := ∀ i, i < es.length → pairAt m es i) (m := es.length) (L := fun K i => Zq33_l0 N (fun x => some ((x, ()), ())) (fun (_ : Unit) => some ((true, ()), ())) K es m es (es.length : Int) i) (pairAt m es) Iff.rfl (kt := some ((true, ()), ())) (kf := some ((false, ()), ())) (fun K n hn => ?_) (fun K n hn hp => ?_) (fun K n hn hp => ?_) (show es.length < N by omega)
  · rw [show ((0 : Nat) : Int) = 0 from rfl] at this
    rw [tLen_n, this]
    by_cases h : ∀ i, i < es.length → pairAt m es i
    · rw [if_pos h, decide_eq_true h]
    · rw [if_neg h, decide_eq_false h]
  · simp only [Zq33_l0, ilt_nf hn, br_f]
  · simp only [Zq33_l0, ilt_n hn, inb_n hn, br_t, chk_t]
    obtain ⟨⟨p1, p2, p3⟩, p4⟩ := hp
    rw [ilt_f (by omega), br_f, ile_f (by omega), br_f, ile_f (by omega), br_f]
    by_cases h0 : 0 < n
    · rw [ilt_0 h0, br_t, wrap_pred (by omega) h0, inb_n (by omega), chk_t]
      obtain ⟨r, r1, r2, _⟩ := comparePairs_eq hN (rdP es ((n - 1 : Nat) : Int)) ((rdP es n).1, (rdP es n).2)
      have := r2.2 (p4 h0)
      rw [r1]
      simp only [bind_some']
      rw [ile_f (by omega), br_f, wrap_succ (by omega)]
    · rw [ilt_0n h0, br_f, wrap_succ (by omega)]
  · simp only [Zq33_l0, ilt_n hn, inb_n hn, br_t, chk_t]
    by_cases q1 : (rdP es n).1 < 0
    · rw [ilt_t q1, br_t]
    · rw [ilt_f q1, br_f]
      by_cases q2 : (rdP es n).2 ≤ (rdP es n).1
      · rw [ile_t q2, br_t]
      · rw [ile_f q2, br_f]
        by_cases q3 : m ≤ (rdP es n).2
        · rw [ile_t q3, br_t]
        · rw [ile_f q3, br_f]
          have h0 : 0 < n := by
            rcases Nat.eq_zero_or_pos n with h0 | h0
            · exact absurd ⟨⟨by omega, by omega, by omega⟩, fun h' => by omega⟩ hp
            · exact h0
          have h4 : ¬ edgeLt (rdP es ((n - 1 : Nat) : Int)) (rdP es n) := fun h' => hp ⟨⟨by omega, by omega, by omega⟩, fun _ => h'⟩
          rw [ilt_0 h0, br_t, wrap_pred (by omega) h0, inb_n (by omega), chk_t]
          obtain ⟨r, r1, r2, _⟩ := comparePairs_eq hN (rdP es ((n - 1 : Nat) : Int)) ((rdP es n).1, (rdP es n).2)
          have : ¬ r < 0 := fun h => h4 (r2.1 h)
          rw [r1]
          simp only [bind_some']
          rw [ile_t (by omega), br_t]
theorem l2Good_eq {N : Nat} {g : Int × List (Int × Int)} (hx : g.2.length ≤ 1048576) (hN : 1048577 ≤ N) : Zq86 N g = some ((decide (goodG g), ()), ()) := by
  unfold Zq86
  rw [l1In_eq, bind_some']
  by_cases h : 0 ≤ g.1 ∧ g.1 ≤ 8
  · rw [decide_eq_true h, br_t, l2Pairs_eq h hx hN, bind_some']
    congr 3
    exact decide_eq_decide.2 ⟨fun h' => ⟨h, h'⟩, fun h' => h'.2⟩
  · rw [decide_eq_false h, br_f, decide_eq_false (show ¬ goodG g from fun h' => h h'.1)]
theorem IsGraph_eq {N : Nat} {g : Int × List (Int × Int)} (hx : g.2.length ≤ 1048576) (hN : 1048577 ≤ N) : Zq20 N g = some ((decide (goodG g), ()), ()) := by
  unfold Zq20
  rw [between_eq, bind_some']
  by_cases h : 0 ≤ g.1 ∧ g.1 ≤ 8
  · rw [decide_eq_true h, br_t, isPairs_eq h hx hN, bind_some']
    congr 3
    exact decide_eq_decide.2 ⟨fun h' => ⟨h, h'⟩, fun h' => h'.2⟩
  · rw [decide_eq_false h, br_f, decide_eq_false (show ¬ goodG g from fun h' => h h'.1)]
def nearG (es : List (Int × Int)) (a b : Int) : Prop := (a, b) ∈ es ∨ (b, a) ∈ es
theorem l2Near_eq {N : Nat} {g : Int × List (Int × Int)} {a b : Int} (hx : g.2.length ≤ 1048576) (hN : 1048577 ≤ N) : Zq87 N g a b = some ((decide (nearG g.2 a b), ()), ()) := by
  obtain ⟨m, es⟩ := g
  simp only at hx
  unfold Zq87
  have := loop_all_if (P := ∀ e ∈ es, ¬ (e = (a, b) ∨ e = (b, a))) (m := es.length) (L := fun K i => Zq87_l0 N (fun x => some ((x, ()), ())) (fun (_ : Unit) => some ((false, ()), ())) K a b i m es) (fun i => ¬ (rdP es i = (a, b) ∨ rdP es i = (b, a))) all_rdP (kt := some ((false, ()), ())) (kf := some ((true, ()), ())) (fun K n hn => ?_) (fun K n hn hp => ?_) (fun K n hn hp => ?_) (show es.length < N by omega)
  · rw [show ((0 : Nat) : Int) = 0 from rfl] at this
    rw [this]
    by_cases h : nearG es a b
    · rw [if_neg (fun h' => by
        rcases h with h | h
        · exact h' _ h (Or.inl rfl)
        · exact h' _ h (Or.inr rfl)), decide_eq_true h]
    · rw [if_pos (fun e he h' => by
        rcases h' with h' | h'
        · exact h (Or.inl (h' ▸ he))
        · exact h (Or.inr (h' ▸ he))), decide_eq_false h]
  · simp only [Zq87_l0, ilt_lenf hn, br_f]
  · simp only [Zq87_l0, ilt_len hn, inb_n hn, br_t, chk_t]
    rw [wrap_succ (by omega)]
    rw [show rdP es n = ((rdP es n).1, (rdP es n).2) from rfl, Prod.mk.injEq, Prod.mk.injEq] at hp
    by_cases q1 : (rdP es n).1 = a
    · rw [ieq_t q1, br_t, ieq_f (fun h => hp (Or.inl ⟨q1, h⟩)), br_f]
      by_cases q2 : (rdP es n).1 = b
      · rw [ieq_t q2, br_t, ieq_f (fun h => hp (Or.inr ⟨q2, h⟩)), br_f]
      · rw [ieq_f q2, br_f]
    · rw [ieq_f q1, br_f]
      by_cases q2 : (rdP es n).1 = b
      · rw [ieq_t q2, br_t, ieq_f (fun h => hp (Or.inr ⟨q2, h⟩)), br_f]
      · rw [ieq_f q2, br_f]
  · simp only [Zq87_l0, ilt_len hn, inb_n hn, br_t, chk_t]
    rw [Decidable.not_not, show rdP es n = ((rdP es n).1, (rdP es n).2) from rfl, Prod.mk.injEq, Prod.mk.injEq] at hp
    by_cases q0 : (rdP es n).1 = a ∧ (rdP es n).2 = b
    · rw [ieq_t q0.1, br_t, ieq_t q0.2, br_t]
    · have hp' := hp.resolve_left q0
      rw [ieq_t hp'.1, ieq_t hp'.2, br_t, br_t]
      by_cases q1 : (rdP es n).1 = a
      · rw [ieq_t q1, br_t, ieq_f (fun h => q0 ⟨q1, h⟩), br_f]
      · rw [ieq_f q1, br_f]
theorem ContainsP_eq {N : Nat} {xs : List (Int × Int)} {v : Int × Int} (hx : xs.length ≤ 1048576) (hN : 1048577 ≤ N) : Zq47 N xs v = some ((decide (v ∈ xs), ()), ()) := by
  obtain ⟨a, b⟩ := v
  have go : ∀ (d n : Nat) (K : Nat), n + d = xs.length → d < K → ∃ i : Int, Zq51_l0 N (fun x => some ((x, ()), ())) (fun (_ : Unit) => some ((-1, ()), ())) K xs (xs.length : Int) n a b = some ((i, ()), ()) ∧ decide (0 ≤ i) = decide ((a, b) ∈ xs.drop n) := by
    intro d
    induction d with
    | zero =>
      intro n K hd hK
      obtain ⟨k, rfl⟩ := succ_of hK
      have hn : ¬ n < xs.length := by omega
      simp only [Zq51_l0, ilt_nf hn, br_f]
      rw [List.drop_of_length_le (by omega)]
      exact ⟨-1, rfl, rfl⟩
    | succ d ih =>
      intro n K hd hK
      obtain ⟨k, rfl⟩ := succ_of hK
      have hn : n < xs.length := by omega
      simp only [Zq51_l0, ilt_n hn, br_t, inb_n hn, chk_t]
      obtain ⟨⟨y1, y2⟩, r, e1, e2, e3⟩ := drop_split hn
      rw [rdP_n hn, e1, e2]
      simp only
      by_cases h : a = y1 ∧ b = y2
      · rw [ieq_t h.1, ieq_t h.2, Bool.and_self, br_t]
        exact ⟨_, rfl, by simp [h.1, h.2]⟩
      · have hq : (ieq a y1 && ieq b y2) = false := by
          rw [ieq_d, ieq_d, ← Bool.decide_and]
          exact decide_eq_false h
        rw [hq, br_f, wrap_succ (by omega)]
        obtain ⟨i, h1, h2⟩ := ih (n + 1) k (by omega) (by omega)
        refine ⟨i, h1, ?_⟩
        rw [h2, e3]
        simp [h]
  unfold Zq47 Zq51
  obtain ⟨i, h1, h2⟩ := go xs.length 0 N (by omega) (by omega)
  simp only [Int.natCast_zero, List.drop_zero] at h1 h2
  rw [tLen_n]
  simp only [h1, bind_some']
  rw [ile_d, h2]
theorem Graph_has_eq {N : Nat} {g : Int × List (Int × Int)} {a b : Int} (hed : ∀ e ∈ g.2, e.1 < e.2) (hx : g.2.length ≤ 1048576) (hN : 1048577 ≤ N) : Zq7 N g a b = some ((decide (nearG g.2 a b), ()), ()) := by
  unfold Zq7 Zq36
  simp only [bind_some', ContainsP_eq hx hN]
  congr 3
  refine decide_eq_decide.2 ⟨fun h => ?_, fun h => ?_⟩
  · by_cases h1 : b < a
    · rw [if_pos h1, if_neg (by omega)] at h
      exact Or.inr h
    · rw [if_neg h1] at h
      by_cases h2 : b > a
      · rw [if_pos h2] at h
        exact Or.inl h
      · have : a = b := by omega
        rw [if_neg h2] at h
        exact Or.inl (by rw [← this]; exact h)
  · rcases h with h | h
    · have := hed _ h
      simp only at this
      rw [if_neg (by omega), if_pos (by omega)]
      exact h
    · have := hed _ h
      simp only at this
      rw [if_pos (by omega), if_neg (by omega)]
      exact h
theorem rdI_mid (q s : List Int) (x : Int) : rdI (q ++ x :: s) ((q.length : Nat) : Int) = x := by simp [rdI]
theorem l1Same_eq {N : Nat} {a b : List Int} (hx : a.length ≤ 1048576) (hN : 1048577 ≤ N) : Zq82 N a b = some ((decide (a = b), ()), ()) := by
  unfold Zq82
  rw [tLen_n, tLen_n]
  by_cases hl : a.length = b.length
  · rw [ine_f (by omega), br_f]
    have := loop_all_if (P := a = b) (m := a.length) (L := fun K i => Zq82_l0 N (fun x => some ((x, ()), ())) (fun (_ : Unit) => some ((true, ()), ())) K a b i) (fun i => rdI a i = rdI b i) ⟨fun h i _ => by rw [h], fun h => List.ext_getElem hl fun i h1 h2 => by have := h i h1; rwa [rdI_n h1, rdI_n h2] at this⟩ (kt := some ((true, ()), ())) (kf := some ((false, ()), ())) (fun K n hn => ?_) (fun K n hn hp => ?_) (fun K n hn hp => ?_) (show a.length < N by omega)
    · rw [show ((0 : Nat) : Int) = 0 from rfl] at this
      rw [this]
      by_cases h : a = b <;> simp [h]
    · simp only [Zq82_l0, ilt_lenf hn, br_f]
    · simp only [Zq82_l0, ilt_len hn, inb_n hn, inb_n (show n < b.length by omega), br_t, chk_t]
      rw [ine_f hp, br_f, wrap_succ (by omega)]
    · simp only [Zq82_l0, ilt_len hn, inb_n hn, inb_n (show n < b.length by omega), br_t, chk_t]
      rw [ine_t hp, br_t]
  · rw [ine_t (by omega), br_t]
    have : a ≠ b := fun h => hl (by rw [h])
    simp [this]
def putI (n : Int) : List Int → List Int
  | [] => [n]
  | y :: p => if y < n then y :: putI n p else if y = n then y :: p else n :: y :: p
theorem iter_app {p : Nat → Prop} [DecidablePred p] : ∀ (d n : Nat) (o : List Int), iter (fun n o => if p n then o ++ [(n : Int)] else o) d n o = o ++ ((List.range' n d).filter fun i => decide (p i)).map (fun i : Nat => (i : Int)) := by
  intro d
  induction d with
  | zero => intro n o; simp [iter]
  | succ d ih =>
    intro n o
    unfold iter
    rw [ih, List.range'_succ]
    by_cases h : p n <;> simp [h]
noncomputable def nbr (m : Nat) (es : List (Int × Int)) (x : Int) : List Int := ((List.range' 0 m).filter fun i : Nat => decide (nearG es x (i : Int))).map (fun i : Nat => (i : Int))
theorem mem_nbr {m : Nat} {es : List (Int × Int)} {x y : Int} : y ∈ nbr m es x ↔ ∃ i : Nat, i < m ∧ nearG es x i ∧ y = i := by
  unfold nbr
  rw [List.mem_map]
  constructor
  · rintro ⟨i, hi, rfl⟩
    obtain ⟨h1, h2⟩ := List.mem_filter.1 hi
    exact ⟨i, by simpa using List.mem_range'_1.1 h1, of_decide_eq_true h2, rfl⟩
  · rintro ⟨i, h1, h2, rfl⟩
    exact ⟨i, List.mem_filter.2 ⟨List.mem_range'_1.2 (by omega), decide_eq_true h2⟩, rfl⟩
theorem nbr_len (m : Nat) (es : List (Int × Int)) (x : Int) : (nbr m es x).length ≤ m := by
  unfold nbr
  rw [List.length_map]
  exact Nat.le_trans (List.length_filter_le ..) (by simp)
theorem near_ne {g : Int × List (Int × Int)} (hg : goodG g) {a : Int} : ¬ nearG g.2 a a := by
  rintro (h | h)
  · have := goodG_edges hg _ h
    simp only at this
    omega
  · have := goodG_edges hg _ h
    simp only at this
    omega
theorem neighbors_eq {N : Nat} {m : Nat} {es : List (Int × Int)} {x : Int} (hg : goodG ((m : Int), es)) (hx : es.length ≤ 1048576) (hN : 1048577 ≤ N) : Zq12 N ((m : Int), es) x = some ((nbr m es x, ()), ()) := by
  have hed : ∀ e ∈ es, e.1 < e.2 := fun e he => (goodG_edges hg e he).2.1
  have hm := hg.1
  simp only at hm
  unfold Zq12
  refine (loop_iter (L := fun K n o => Zq12_l0 N (fun o => some ((o, ()), ())) K x (m : Int) n (m : Int) es o) (k := fun o => some ((o, ()), ())) (Inv := fun n o => o.length ≤ n) (step := fun n o => if nearG es x (n : Int) then o ++ [(n : Int)] else o) (fun K n s hn _ => ?_) (fun K n s hn hs => ?_) (fun n s hn h => ?_) (s := []) (m := m) (K := N) (by omega) (Nat.zero_le _)).trans ?_
  · simp only [Zq12_l0, ilt_nf hn, br_f]
  · simp only [Zq12_l0, ilt_n hn, br_t, Graph_has_eq (g := ((m : Int), es)) hed hx hN, bind_some']
    rw [wrap_succ (by omega), room_ok (by simp; omega), chk_t]
    by_cases h : nearG es x (n : Int)
    · have hne : (n : Int) ≠ x := fun e => near_ne hg (a := x) (by rw [e] at h; exact h)
      rw [ine_t hne, br_t, decide_eq_true h, br_t, if_pos h]
      rfl
    · rw [if_neg h, decide_eq_false h, br_f, br_same]
  · by_cases hc : nearG es x (n : Int)
    · rw [if_pos hc]; simp; omega
    · rw [if_neg hc]; omega
  · rw [iter_app]
    rfl
theorem wrap64 {n : Nat} (h : n < 18446744073709551616) : IntKind.u64.wrap (n : Int) = (n : Int) := by
  unfold IntKind.wrap
  simp only [IntKind.bits, IntKind.signed, Bool.false_and]
  have : (n : Int) % (2 ^ 64 : Int) = n := Int.emod_eq_of_lt (by omega) (by omega)
  rw [this]
  rfl
theorem ofInt64 {n : Nat} (h : n < 18446744073709551616) : (BitVec.ofInt 64 (n : Int)).toNat = n := by
  rw [BitVec.toNat_ofInt]
  omega
theorem orN {a b : Nat} (ha : a < 4294967296) (hb : b < 4294967296) : bitop .or .u64 (a : Int) (b : Int) = ((a ||| b : Nat) : Int) := by
  show IntKind.u64.wrap (((BitVec.ofInt 64 (a : Int) ||| BitVec.ofInt 64 (b : Int)).toNat : Nat) : Int) = _
  rw [BitVec.toNat_or, ofInt64 (by omega), ofInt64 (by omega)]
  have : a ||| b < 2 ^ 32 := Nat.or_lt_two_pow ha hb
  exact wrap64 (by omega)
theorem andN {a b : Nat} (ha : a < 4294967296) (hb : b < 4294967296) : bitop .and .u64 (a : Int) (b : Int) = ((a &&& b : Nat) : Int) := by
  show IntKind.u64.wrap (((BitVec.ofInt 64 (a : Int) &&& BitVec.ofInt 64 (b : Int)).toNat : Nat) : Int) = _
  rw [BitVec.toNat_and, ofInt64 (by omega), ofInt64 (by omega)]
  have : a &&& b < 2 ^ 32 := Nat.and_lt_two_pow _ hb
  exact wrap64 (by omega)
theorem shl8 : ∀ n : Nat, n < 9 → shlI .u64 1 (n : Int) = ((2 ^ n : Nat) : Int)
  | 0, _ => by kernel_rfl
  | 1, _ => by kernel_rfl
  | 2, _ => by kernel_rfl
  | 3, _ => by kernel_rfl
  | 4, _ => by kernel_rfl
  | 5, _ => by kernel_rfl
  | 6, _ => by kernel_rfl
  | 7, _ => by kernel_rfl
  | 8, _ => by kernel_rfl
  | n + 9, h => by omega
theorem bit8 {a c : Nat} (ha : a < 256) (hc : c < 8) : ieq (bitop .and .u64 (shrI .u64 (a : Int) (c : Int)) 1) 1 = a.testBit c := by
  have hk : ((List.range 256).all fun a => (List.range 8).all fun c => ieq (bitop .and .u64 (shrI .u64 (a : Int) (c : Int)) 1) 1 == a.testBit c) = true := by kernel_rfl
  exact eq_of_beq (List.all_eq_true.1 (List.all_eq_true.1 hk a (List.mem_range.2 ha)) c (List.mem_range.2 hc))
theorem bagOf_eq {N : Nat} {xs : List Int} (hx : ∀ y ∈ xs, 0 ≤ y ∧ y < 8) (hl : xs.length ≤ 1048576) (hN : 1048577 ≤ N) : ∃ a : Nat, Zq25 N xs = some (((a : Int), ()), ()) ∧ a < 256 ∧ ∀ c, a.testBit c = true ↔ (c : Int) ∈ xs := by
  have key := loop_list (xs := xs) (L := fun K n s => Zq25_l0 N (fun out => some ((out, ()), ())) K s xs (xs.length : Int) n) (k := fun s => some ((s, ()), ())) (fun (s : Int) y => bitop .or .u64 s (shlI .u64 1 y))
    (fun n s => ∃ a : Nat, s = a ∧ a < 256 ∧ ∀ c, a.testBit c = true ↔ (c : Int) ∈ xs.take n) (fun K n s hn _ => ?_) (fun K n s hn _ => ?_) (fun n s hn h => ?_) (s := 0) (K := N) (by omega) ⟨0, rfl, by omega, fun c => by simp⟩
  · obtain ⟨h1, a, h2, h3, h4⟩ := key
    refine ⟨a, ?_, h3, fun c => by rw [h4 c, List.take_length]⟩
    unfold Zq25
    rw [← h2, tLen_n]
    exact h1
  · simp only [Zq25_l0, ilt_nf hn, br_f]
  · have hy := hx _ (List.getElem_mem hn)
    simp only [Zq25_l0, ilt_n hn, br_t, inb_n hn, chk_t]
    rw [rdI_n hn, ile_t (by omega), chk_t, wrap_succ (by omega)]
  · obtain ⟨a, h2, h3, h4⟩ := h
    have hy := hx _ (List.getElem_mem hn)
    obtain ⟨ny, ey⟩ : ∃ q : Nat, xs[n] = q := ⟨xs[n].toNat, by omega⟩
    have hny : ny < 8 := by omega
    have hp : 2 ^ ny < 256 := Nat.pow_lt_pow_right (n := 8) (by omega) hny
    refine ⟨a ||| 2 ^ ny, ?_, Nat.or_lt_two_pow (n := 8) h3 hp, fun c => ?_⟩
    · rw [h2, ey, shl8 ny (by omega), orN (by omega) (by omega)]
    · rw [Nat.testBit_or, Bool.or_eq_true, h4 c, Nat.testBit_two_pow, decide_eq_true_eq, List.take_add_one, List.getElem?_eq_getElem hn]
      simp only [Option.toList_some, List.mem_append, List.mem_singleton]
      constructor
      · rintro (h | h)
        · exact .inl h
        · exact .inr (by rw [ey, h])
      · rintro (h | h)
        · exact .inl h
        · rw [ey] at h
          exact .inr (by omega)
theorem bagList_eq {N : Nat} {a : Nat} (ha : a < 256) (hN : 1048577 ≤ N) : Zq27 N (a : Int) = some ((((List.range' 0 8).filter fun c => decide (a.testBit c = true)).map (fun c : Nat => (c : Int)), ()), ()) := by
  unfold Zq27
  refine (loop_iter (L := fun K n o => Zq27_l0 N (fun o => some ((o, ()), ())) K (a : Int) n o) (k := fun o => some ((o, ()), ())) (Inv := fun n o => o.length ≤ n) (step := fun n o => if a.testBit n = true then o ++ [(n : Int)] else o) (fun K n s hn _ => ?_) (fun K n s hn hs => ?_) (fun n s hn h => ?_) (s := []) (m := 8) (K := N) (by omega) (Nat.zero_le _)).trans ?_
  · simp only [Zq27_l0]
    rw [ilt_f (by omega), br_f]
  · simp only [Zq27_l0]
    rw [ilt_t (by omega), br_t, ile_t (by omega), chk_t, bit8 ha hn, wrap_succ (by omega), room_ok (by simp; omega), chk_t, br_ite]
    by_cases h : a.testBit n = true
    · rw [if_pos h, if_pos h]
      rfl
    · rw [if_neg h, if_neg h]
  · by_cases hc : a.testBit n = true
    · rw [if_pos hc]; simp; omega
    · rw [if_neg hc]; omega
  · rw [iter_app]
    rfl
theorem all8 : ∀ m : Nat, m ≤ 8 → IntKind.u64.wrap (shlI .u64 1 (m : Int) - 1) = ((2 ^ m - 1 : Nat) : Int)
  | 0, _ => by kernel_rfl
  | 1, _ => by kernel_rfl
  | 2, _ => by kernel_rfl
  | 3, _ => by kernel_rfl
  | 4, _ => by kernel_rfl
  | 5, _ => by kernel_rfl
  | 6, _ => by kernel_rfl
  | 7, _ => by kernel_rfl
  | 8, _ => by kernel_rfl
  | n + 9, h => by omega
theorem nodup_le : ∀ {a b : List Int}, a.Nodup → (∀ x ∈ a, x ∈ b) → a.length ≤ b.length := by
  intro a
  induction a with
  | nil => intro b _ _; exact Nat.zero_le _
  | cons x a ih =>
    intro b hn hs
    obtain ⟨h1, h2⟩ := List.nodup_cons.1 hn
    have hx := hs x (List.mem_cons_self ..)
    have := ih (b := b.erase x) h2 fun y hy => (List.mem_erase_of_ne (fun (e : y = x) => h1 (e ▸ hy))).2 (hs y (List.mem_cons_of_mem _ hy))
    rw [List.length_erase_of_mem hx] at this
    have := List.length_pos_of_mem hx
    rw [List.length_cons]
    omega
def strict (xs : List Int) : Prop := xs.Pairwise (· < ·)
theorem putI_mem (n z : Int) : ∀ p : List Int, z ∈ putI n p ↔ z = n ∨ z ∈ p := by
  intro p
  induction p with
  | nil => simp [putI]
  | cons y p ih =>
    unfold putI
    by_cases h : y < n
    · rw [if_pos h, List.mem_cons, ih, List.mem_cons]
      constructor
      · rintro (h | h | h)
        · exact .inr (.inl h)
        · exact .inl h
        · exact .inr (.inr h)
      · rintro (h | h | h)
        · exact .inr (.inl h)
        · exact .inl h
        · exact .inr (.inr h)
    · by_cases h' : y = n
      · rw [if_neg h, if_pos h', List.mem_cons, h']
        constructor
        · exact .inr
        · rintro (h | h)
          · exact .inl h
          · exact h
      · rw [if_neg h, if_neg h', List.mem_cons]
theorem putI_strict {n : Int} : ∀ {p : List Int}, strict p → strict (putI n p) := by
  intro p
  induction p with
  | nil => intro _; exact List.pairwise_singleton ..
  | cons y p ih =>
    intro h
    obtain ⟨h1, h2⟩ := List.pairwise_cons.1 h
    unfold putI
    by_cases hy : y < n
    · rw [if_pos hy]
      refine List.pairwise_cons.2 ⟨fun z hz => ?_, ih h2⟩
      rcases (putI_mem n z p).1 hz with rfl | hz
      · exact hy
      · exact h1 z hz
    · rw [if_neg hy]
      by_cases hy' : y = n
      · rw [if_pos hy']; exact h
      · rw [if_neg hy']
        refine List.pairwise_cons.2 ⟨fun z hz => ?_, h⟩
        rcases List.mem_cons.1 hz with rfl | hz
        · omega
        · have := h1 z hz
          omega
theorem nearG_symm {es : List (Int × Int)} {a b : Int} : nearG es a b ↔ nearG es b a := ⟨fun h => h.elim .inr .inl, fun h => h.elim .inr .inl⟩
theorem rising_in {lo hi : Int} {xs : List Int} (h : rising lo hi xs) : ∀ x ∈ xs, lo ≤ x ∧ x ≤ hi := all_rdI.2 fun i hi => (h i hi).1
def InN (n : Nat) (x : Int) : Prop := 0 ≤ x ∧ x < (n : Int)
theorem nat_of {n : Nat} {x : Int} (h : InN n x) : ∃ i : Nat, i < n ∧ x = (i : Int) := by
  obtain ⟨h1, h2⟩ := h
  exact ⟨x.toNat, by omega, by omega⟩
theorem in_nat {n i : Nat} (h : i < n) : InN n (i : Int) := ⟨by omega, by omega⟩
theorem rising_strict {lo hi : Int} : ∀ {L : List Int}, rising lo hi L → strict L := by
  intro L
  induction L with
  | nil => intro _; exact List.Pairwise.nil
  | cons x L ih =>
    intro h
    have h' : rising lo hi L := by
      intro i hi'
      have := h (i + 1) (by simp; omega)
      obtain ⟨h1, h2⟩ := this
      have e : ∀ k : Nat, rdI (x :: L) ((k + 1 : Nat) : Int) = rdI L (k : Int) := by intro k; simp [rdI]
      rw [e] at h1 h2
      refine ⟨h1, fun h0 => ?_⟩
      have := h2 (by omega)
      rw [show ((i + 1 - 1 : Nat) : Int) = ((i - 1 + 1 : Nat) : Int) by omega, e] at this
      exact this
    have hs := ih h'
    refine List.pairwise_cons.2 ⟨fun y hy => ?_, hs⟩
    cases L with
    | nil => exact absurd hy (by simp)
    | cons z L =>
      have h1 := (h 1 (by simp)).2 (by omega)
      have hxz : x < z := by simpa [rdI] using h1
      rcases List.mem_cons.1 hy with rfl | hy
      · exact hxz
      · have := (List.pairwise_cons.1 hs).1 y hy
        omega
theorem sum_le {α : Type} {f : α → Nat} {b : Nat} : ∀ {xs : List α}, (∀ x ∈ xs, f x ≤ b) → (xs.map f).sum ≤ xs.length * b := by
  intro xs
  induction xs with
  | nil => intro _; simp
  | cons x xs ih =>
    intro h
    have h1 := h x (List.mem_cons_self ..)
    have h2 := ih fun y hy => h y (List.mem_cons_of_mem _ hy)
    rw [List.map_cons, List.sum_cons, List.length_cons, Nat.add_mul]
    omega
def lexC : List Int → List Int → Int
  | [], [] => 0
  | [], _ :: _ => -1
  | _ :: _, [] => 1
  | x :: a, y :: b => if x < y then -1 else if y < x then 1 else lexC a b
theorem lexC_anti : ∀ (a b : List Int), lexC b a = - lexC a b := by
  intro a
  induction a with
  | nil => intro b; cases b <;> rfl
  | cons x a ih =>
    intro b
    cases b with
    | nil => rfl
    | cons y b =>
      simp only [lexC]
      by_cases h1 : x < y
      · simp [h1, show ¬ y < x by omega]
      · by_cases h2 : y < x
        · simp [h1, h2]
        · simp [h1, h2, ih]
theorem lexC_self (a : List Int) : lexC a a = 0 := by have := lexC_anti a a; omega
theorem Compare_lex {N : Nat} {a b : List Int} (ha : a.length ≤ 1048576) (hb : b.length ≤ 1048576) (hN : 1048577 ≤ N) : Zq45 N a b = some ((lexC a b, ()), ()) := by
  unfold Zq45
  have go : ∀ (d n K : Nat), n + d = a.length → d < K → n ≤ b.length → lexC a b = lexC (a.drop n) (b.drop n) → Zq45_l0 N (fun x => some ((x, ()), ())) (fun s11 s21 => (br (ilt (tLen s11) (tLen s21)) (some (((-1), ()), ())) (some ((0, ()), ())))) K a b a (a.length : Int) n = some ((lexC a b, ()), ()) := by
    intro d
    induction d with
    | zero =>
      intro n K hd hK hn h
      obtain ⟨k, rfl⟩ := succ_of hK
      simp only [Zq45_l0, ilt_nf (show ¬ n < a.length by omega), br_f]
      rw [tLen_n, tLen_n, h, List.drop_of_length_le (show a.length ≤ n by omega)]
      by_cases hlt : a.length < b.length
      · rw [ilt_n hlt, br_t, drop_cons (show n < b.length by omega)]; rfl
      · rw [ilt_nf hlt, br_f, List.drop_of_length_le (show b.length ≤ n by omega)]; rfl
    | succ d ih =>
      intro n K hd hK hn h
      obtain ⟨k, rfl⟩ := succ_of hK
      have hna : n < a.length := by omega
      simp only [Zq45_l0, ilt_n hna, br_t, inb_n hna, chk_t]
      rw [drop_cons hna] at h
      by_cases hnb : n < b.length
      · rw [tLen_n, ile_f (by omega), br_f, inb_n hnb, chk_t, compare_eq, bind_some', rdI_n hna, rdI_n hnb]
        rw [drop_cons hnb] at h
        simp only [lexC] at h
        simp only []
        by_cases h1 : a[n] < b[n]
        · rw [if_pos h1] at h ⊢
          rw [ine_t (by omega), br_t, h]
        · rw [if_neg h1] at h ⊢
          by_cases h2 : b[n] < a[n]
          · rw [if_pos h2] at h ⊢
            rw [ine_t (by omega), br_t, h]
          · rw [if_neg h2] at h ⊢
            rw [ine_f rfl, br_f, wrap_succ (by omega)]
            exact ih (n + 1) k (by omega) (by omega) (by omega) h
      · rw [tLen_n, ile_t (by omega), br_t, h, List.drop_of_length_le (show b.length ≤ n by omega)]
        rfl
  exact go a.length 0 N (by omega) (by omega) (Nat.zero_le _) rfl
def lexSorted (xs : List (List Int)) : Prop := xs.Pairwise fun a b => lexC a b < 0
theorem lexC_trans : ∀ {a b c : List Int}, lexC a b < 0 → lexC b c < 0 → lexC a c < 0 := by
  intro a
  induction a with
  | nil =>
    intro b c h1 h2
    cases b with
    | nil => simp [lexC] at h1
    | cons y b =>
      cases c with
      | nil => simp [lexC] at h2
      | cons z c => simp [lexC]
  | cons x a ih =>
    intro b c h1 h2
    cases b with
    | nil => simp [lexC] at h1
    | cons y b =>
      cases c with
      | nil => simp [lexC] at h2
      | cons z c =>
        simp only [lexC] at h1 h2 ⊢
        by_cases p1 : x < y
        · by_cases p2 : y < z
          · rw [if_pos (show x < z by omega)]; decide
          · rw [if_neg p2] at h2
            by_cases p3 : z < y
            · rw [if_pos p3] at h2; omega
            · rw [if_pos (show x < z by omega)]; decide
        · rw [if_neg p1] at h1
          by_cases p2 : y < x
          · rw [if_pos p2] at h1; omega
          · rw [if_neg p2] at h1
            have e : x = y := by omega
            subst e
            by_cases p3 : x < z
            · rw [if_pos p3]; decide
            · rw [if_neg p3] at h2 ⊢
              by_cases p4 : z < x
              · rw [if_pos p4] at h2; omega
              · rw [if_neg p4] at h2 ⊢
                exact ih h1 h2
theorem lexC_eq : ∀ {a b : List Int}, lexC a b = 0 → a = b := by
  intro a
  induction a with
  | nil => intro b h; cases b with
    | nil => rfl
    | cons y b => simp [lexC] at h
  | cons x a ih =>
    intro b h
    cases b with
    | nil => simp [lexC] at h
    | cons y b =>
      simp only [lexC] at h
      by_cases p1 : x < y
      · rw [if_pos p1] at h; omega
      · rw [if_neg p1] at h
        by_cases p2 : y < x
        · rw [if_pos p2] at h; omega
        · rw [if_neg p2] at h
          rw [ih h, show x = y by omega]
theorem lexC_flip {a b : List Int} (h1 : ¬ lexC a b < 0) (h2 : a ≠ b) : lexC b a < 0 := by
  have := lexC_anti a b
  have h3 : lexC a b ≠ 0 := fun e => h2 (lexC_eq e)
  omega
theorem lex_nodup {xs : List (List Int)} (h : lexSorted xs) : xs.Nodup := h.imp fun hab e => by rw [e, lexC_self] at hab; omega
theorem l2Before_eq {N : Nat} {a b : List Int} (ha : a.length ≤ 1048576) (hb : b.length ≤ 1048576) (hN : 1048577 ≤ N) : Zq83 N a b = some ((decide (lexC a b < 0), ()), ()) := by
  unfold Zq83
  have go : ∀ (d n K : Nat), n + d = a.length → d < K → n ≤ b.length → lexC a b = lexC (a.drop n) (b.drop n) → Zq83_l0 N (fun x => some ((x, ()), ())) (fun a1 b1 => some (((ilt (tLen a1) (tLen b1)), ()), ())) K a b (n : Int) = some ((decide (lexC a b < 0), ()), ()) := by
    intro d
    induction d with
    | zero =>
      intro n K hd hK hn h
      obtain ⟨k, rfl⟩ := succ_of hK
      simp only [Zq83_l0, ilt_lenf (show ¬ n < a.length by omega), br_f]
      congr 3
      rw [tLen_n, tLen_n, h, List.drop_of_length_le (show a.length ≤ n by omega)]
      by_cases hlt : a.length < b.length
      · rw [ilt_n hlt, drop_cons (show n < b.length by omega)]; rfl
      · rw [ilt_nf hlt, List.drop_of_length_le (show b.length ≤ n by omega)]; rfl
    | succ d ih =>
      intro n K hd hK hn h
      obtain ⟨k, rfl⟩ := succ_of hK
      have hna : n < a.length := by omega
      simp only [Zq83_l0, ilt_len hna, br_t]
      by_cases hnb : n < b.length
      · simp only [ilt_len hnb, br_t, inb_n hna, inb_n hnb, chk_t, rdI_n hna, rdI_n hnb]
        rw [drop_cons hna, drop_cons hnb] at h
        simp only [lexC] at h
        by_cases he : a[n] = b[n]
        · rw [ine_f he, br_f, wrap_succ (by omega)]
          refine ih (n + 1) k (by omega) (by omega) (by omega) ?_
          rw [h, if_neg (by omega), if_neg (by omega)]
        · rw [ine_t he, br_t]
          congr 3
          rw [h]
          by_cases hlt : a[n] < b[n]
          · rw [if_pos hlt, ilt_t hlt]; rfl
          · rw [if_neg hlt, if_pos (by omega), ilt_f hlt]; rfl
      · simp only [ilt_lenf hnb, br_f]
        congr 3
        rw [tLen_n, tLen_n, h, drop_cons hna, List.drop_of_length_le (show b.length ≤ n by omega), ilt_nf (by omega)]
        rfl
  exact go a.length 0 N (by omega) (by omega) (Nat.zero_le _) rfl
theorem l2Sorted_in {R : Type} {N : Nat} {xs o : List (List Int)} {i : Nat} {kk : List (List Int) → Int → Int → List (List Int) → Option R} (hi : i < xs.length) (hxl : ∀ x ∈ xs, x.length ≤ 1048576) (hol : ∀ x ∈ o, x.length ≤ 1048576) (ho : lexSorted o) (hoL : o.length ≤ 1048576) (hN : 1048577 ≤ N) :
    ∃ k : Nat, k ≤ o.length ∧ (∀ j (h : j < o.length), j < k → ¬ lexC xs[i] o[j] < 0) ∧ (∀ j (h : j < o.length), k ≤ j → lexC xs[i] o[j] < 0) ∧ Zq91_l0_0 N kk N xs (i : Int) (tLen o) o = kk xs (i : Int) (k : Int) o := by
  have go : ∀ (k K : Nat), k < K → k ≤ o.length → (∀ j (h : j < o.length), k ≤ j → lexC xs[i] o[j] < 0) →
      ∃ k2 : Nat, k2 ≤ o.length ∧ (∀ j (h : j < o.length), j < k2 → ¬ lexC xs[i] o[j] < 0) ∧ (∀ j (h : j < o.length), k2 ≤ j → lexC xs[i] o[j] < 0) ∧ Zq91_l0_0 N kk K xs (i : Int) ((k : Nat) : Int) o = kk xs (i : Int) (k2 : Int) o := by
    intro k
    induction k with
    | zero =>
      intro K hK hk h
      obtain ⟨K, rfl⟩ := succ_of hK
      refine ⟨0, hk, fun j h1 h2 => absurd h2 (Nat.not_lt_zero j), h, ?_⟩
      simp only [Zq91_l0_0, Int.natCast_zero]
      rw [ilt_f (by decide), br_f]
    | succ k ih =>
      intro K hK hk h
      obtain ⟨K, rfl⟩ := succ_of hK
      have hko : k < o.length := by omega
      simp only [Zq91_l0_0]
      rw [ilt_t (by omega), br_t, inb_n hi, chk_t, wrap_pred (by omega) (by omega), show k + 1 - 1 = k by omega, inb_n hko, chk_t, rdL_n hi, rdL_n hko, l2Before_eq (hxl _ (List.getElem_mem hi)) (hol _ (List.getElem_mem hko)) hN, bind_some']
      by_cases hc : lexC xs[i] o[k] < 0
      · simp only []
        rw [decide_eq_true hc, br_t]
        exact ih K (by omega) (by omega) fun j hj hkj => by
          by_cases he : j = k
          · subst he; exact hc
          · exact h j hj (by omega)
      · simp only []
        rw [decide_eq_false hc, br_f]
        refine ⟨k + 1, hk, fun j hj hjk => ?_, h, rfl⟩
        by_cases he : j = k
        · subst he; exact hc
        · have := List.pairwise_iff_getElem.1 ho j k hj hko (by omega)
          exact fun h2 => hc (lexC_trans h2 this)
  obtain ⟨k2, h1, h2, h3, h4⟩ := go o.length N (by omega) (Nat.le_refl _) fun j hj h => by omega
  exact ⟨k2, h1, h2, h3, h4⟩
theorem put_row {o : List (List Int)} {x : List Int} {k : Nat} (ho : lexSorted o) (hk : k ≤ o.length) (h1 : ∀ j (h : j < o.length), j < k → ¬ lexC x o[j] < 0) (h2 : ∀ j (h : j < o.length), k ≤ j → lexC x o[j] < 0) (hne : ∀ j (h : j < o.length), j < k → o[j] ≠ x) :
    lexSorted (o.take k ++ x :: o.drop k) ∧ ∀ s, s ∈ o.take k ++ x :: o.drop k ↔ s ∈ o ∨ s = x := by
  constructor
  · refine List.pairwise_append.2 ⟨ho.sublist (List.take_sublist ..), List.pairwise_cons.2 ⟨fun y hy => ?_, ho.sublist (List.drop_sublist ..)⟩, fun a ha b hb => ?_⟩
    · obtain ⟨j, hj, rfl⟩ := List.getElem_of_mem hy
      rw [List.getElem_drop]
      exact h2 _ (by simp at hj; omega) (by omega)
    · obtain ⟨j, hj, rfl⟩ := List.getElem_of_mem ha
      have hj' : j < k ∧ j < o.length := by simp at hj; omega
      rw [List.getElem_take]
      have hax : lexC o[j] x < 0 := lexC_flip (h1 j hj'.2 hj'.1) (fun e => hne j hj'.2 hj'.1 e.symm)
      rcases List.mem_cons.1 hb with rfl | hb
      · exact hax
      · obtain ⟨l, hl, rfl⟩ := List.getElem_of_mem hb
        rw [List.getElem_drop]
        exact List.pairwise_iff_getElem.1 ho _ _ hj'.2 (by simp at hl; omega) (by omega)
  · intro s
    rw [List.mem_append, List.mem_cons]
    have := List.take_append_drop k o
    constructor
    · rintro (h | h | h)
      · exact .inl (List.mem_of_mem_take h)
      · exact .inr h
      · exact .inl (List.mem_of_mem_drop h)
    · rintro (h | h)
      · rw [← this, List.mem_append] at h
        rcases h with h | h
        · exact .inl h
        · exact .inr (.inr h)
      · exact .inr (.inl h)
theorem l1Own_ro {N : Nat} {xs : List Int} (h : xs.length ≤ 1048576) : Zq79 N xs = some ((xs, ()), ()) := by
  unfold Zq79
  rw [room_ok (by simp; omega), chk_t]
  rfl
theorem l2Sorted_eq {N : Nat} {xs : List (List Int)} (hx : xs.length ≤ 1048576) (hl : ∀ x ∈ xs, x.length ≤ 1048576) (hN : 1048577 ≤ N) : ∃ ys, Zq91 N xs = some ((ys, ()), ()) ∧ lexSorted ys ∧ ∀ s, s ∈ ys ↔ s ∈ xs := by
  unfold Zq91
  have go : ∀ (d i K : Nat) (o : List (List Int)), i + d = xs.length → d < K → o.length ≤ i → lexSorted o → (∀ s, s ∈ o ↔ s ∈ xs.take i) →
      ∃ ys, Zq91_l0 N (fun o2 => some ((o2, ()), ())) K xs (i : Int) o = some ((ys, ()), ()) ∧ lexSorted ys ∧ ∀ s, s ∈ ys ↔ s ∈ xs := by
    intro d
    induction d with
    | zero =>
      intro i K o hd hK ho hs hm
      obtain ⟨K, rfl⟩ := succ_of hK
      simp only [Zq91_l0, ilt_lenf (show ¬ i < xs.length by omega), br_f]
      refine ⟨o, rfl, hs, fun s => ?_⟩
      rw [hm s, List.take_of_length_le (by omega)]
    | succ d ih =>
      intro i K o hd hK ho hs hm
      obtain ⟨K, rfl⟩ := succ_of hK
      have hi : i < xs.length := by omega
      have hol : ∀ x ∈ o, x.length ≤ 1048576 := fun x hx => hl x (List.mem_of_mem_take ((hm x).1 hx))
      have htk : xs.take (i + 1) = xs.take i ++ [xs[i]] := by rw [List.take_add_one, List.getElem?_eq_getElem hi]; rfl
      simp only [Zq91_l0, ilt_len hi, br_t]
      obtain ⟨k, k1, k2, k3, k4⟩ := l2Sorted_in (N := N) (kk := fun states4 i3 kv1 o3 => (br (ieq kv1 0)
        ((chk (ile 0 0 && ile 0 kv1 && ile kv1 (tLen o3))
          (chk (room (α := (List Int)) (β := (List Int)) [] (tCut o3 0 kv1))
          (chk (inb states4 i3)
          ((Zq79 N (rdL states4 i3)).bind fun r =>
          (chk (room (tApp [] (tCut o3 0 kv1)) [r.1.1])
            (chk (ile 0 kv1 && ile kv1 (tLen o3) && ile (tLen o3) (tLen o3))
            (chk (room (tApp (tApp [] (tCut o3 0 kv1)) [r.1.1]) (tCut o3 kv1 (tLen o3)))
            (Zq91_l0 N (fun o2 => some ((o2, ()), ())) K states4 (IntKind.i64.wrap (i3 + 1)) (tApp (tApp (tApp [] (tCut o3 0 kv1)) [r.1.1]) (tCut o3 kv1 (tLen o3))))))))))))
        ((chk (inb o3 (IntKind.i64.wrap (kv1 - 1)))
          (chk (inb states4 i3)
          ((Zq82 N (rdL o3 (IntKind.i64.wrap (kv1 - 1))) (rdL states4 i3)).bind fun r1 =>
          (br (!r1.1.1)
            ((chk (ile 0 0 && ile 0 kv1 && ile kv1 (tLen o3))
              (chk (room (α := (List Int)) (β := (List Int)) [] (tCut o3 0 kv1))
              (chk (inb states4 i3)
              ((Zq79 N (rdL states4 i3)).bind fun r2 =>
              (chk (room (tApp [] (tCut o3 0 kv1)) [r2.1.1])
                (chk (ile 0 kv1 && ile kv1 (tLen o3) && ile (tLen o3) (tLen o3))
                (chk (room (tApp (tApp [] (tCut o3 0 kv1)) [r2.1.1]) (tCut o3 kv1 (tLen o3)))
                (Zq91_l0 N (fun o2 => some ((o2, ()), ())) K states4 (IntKind.i64.wrap (i3 + 1)) (tApp (tApp (tApp [] (tCut o3 0 kv1)) [r2.1.1]) (tCut o3 kv1 (tLen o3))))))))))))
            (Zq91_l0 N (fun o2 => some ((o2, ()), ())) K states4 (IntKind.i64.wrap (i3 + 1)) o3)))))))) hi hl hol hs (by omega) hN
      rw [k4]
      have hcut0 : tCut o 0 (k : Int) = o.take k := by have := tCut_n o 0 k; simpa using this
      have hcutk : tCut o (k : Int) (tLen o) = o.drop k := by rw [tLen_n, tCut_n, List.take_of_length_le (Nat.le_refl _)]
      have h1 : (ile 0 0 && ile 0 (k : Int) && ile (k : Int) (tLen o)) = true := by rw [ile_t (Int.le_refl _), ile_t (by omega), tLen_n, ile_t (by omega)]; rfl
      have h2 : (ile 0 (k : Int) && ile (k : Int) (tLen o) && ile (tLen o) (tLen o)) = true := by rw [ile_t (by omega), tLen_n, ile_t (by omega), ile_t (Int.le_refl _)]; rfl
      have hxi := hl _ (List.getElem_mem hi)
      have hput : ∀ (hne : ∀ j (h : j < o.length), j < k → o[j] ≠ xs[i]), ∃ ys, Zq91_l0 N (fun o2 => some ((o2, ()), ())) K xs (IntKind.i64.wrap ((i : Int) + 1)) (tApp (tApp (tApp [] (o.take k)) [xs[i]]) (o.drop k)) = some ((ys, ()), ()) ∧ lexSorted ys ∧ ∀ s, s ∈ ys ↔ s ∈ xs := by
        intro hne
        obtain ⟨p1, p2⟩ := put_row hs k1 k2 k3 hne
        have e : tApp (tApp (tApp [] (o.take k)) [xs[i]]) (o.drop k) = o.take k ++ xs[i] :: o.drop k := by simp [tApp]
        rw [e, wrap_succ (by omega)]
        refine ih (i + 1) K _ (by omega) (by omega) (by simp; omega) p1 fun s => ?_
        rw [p2 s, hm s, htk, List.mem_append, List.mem_singleton]
      have r1 : room (α := List Int) (β := List Int) [] (o.take k) = true := room_ok (by rw [List.length_take, List.length_nil]; omega)
      have r2 : room (tApp [] (o.take k)) [xs[i]] = true := room_ok (by simp only [tApp, List.nil_append, List.length_take, List.length_singleton]; omega)
      have r3 : room (tApp (tApp [] (o.take k)) [xs[i]]) (o.drop k) = true := room_ok (by simp only [tApp, List.nil_append, List.length_append, List.length_take, List.length_drop, List.length_singleton]; omega)
      by_cases hk0 : k = 0
      · subst hk0
        have e0 : ieq ((0 : Nat) : Int) 0 = true := ieq_t rfl
        rw [e0, br_t, h1, chk_t, hcut0, r1, chk_t, inb_n hi, chk_t, rdL_n hi, l1Own_ro hxi, bind_some', h2, hcutk, r2, chk_t, chk_t, r3, chk_t]
        exact hput fun j h h0 => absurd h0 (Nat.not_lt_zero j)
      · have hk' : k - 1 < o.length := by omega
        rw [ieq_f (by omega), br_f, wrap_pred (by omega) (by omega), inb_n hk', chk_t, inb_n hi, chk_t, rdL_n hk', rdL_n hi, l1Same_eq (hol _ (List.getElem_mem hk')) hN, bind_some']
        by_cases he : o[k - 1] = xs[i]
        · simp only [decide_eq_true he, Bool.not_true, br_f]
          rw [wrap_succ (by omega)]
          refine ih (i + 1) K o (by omega) (by omega) (by omega) hs fun s => ?_
          rw [hm s, htk, List.mem_append, List.mem_singleton]
          constructor
          · exact .inl
          · rintro (h | h)
            · exact h
            · rw [h, ← he, ← hm]
              exact List.getElem_mem hk'
        · simp only [decide_eq_false he, Bool.not_false, br_t]
          rw [h1, chk_t, hcut0, r1, chk_t, l1Own_ro hxi, bind_some', h2, hcutk, r2, chk_t, chk_t, r3, chk_t]
          refine hput fun j h hj e => ?_
          by_cases hj1 : j = k - 1
          · subst hj1; exact he e
          · have := List.pairwise_iff_getElem.1 hs j (k - 1) h hk' (by omega)
            rw [e] at this
            exact k2 (k - 1) hk' (by omega) this
  have := go xs.length 0 N [] (by omega) (by omega) (by simp) List.Pairwise.nil (by simp)
  exact this
theorem SortFunc_rows {N : Nat} {xs ys : List (List Int)} (hx : xs.length ≤ 1048576) (hl : ∀ x ∈ xs, x.length ≤ 1048576) (hn : xs.Nodup) (hs : lexSorted ys) (hm : ∀ s, s ∈ ys ↔ s ∈ xs) (hN : 1048577 ≤ N) :
    Zq53 N xs () = some ((), (ys, ())) := by
  have hc : ∀ a ∈ xs, ∀ b ∈ xs, (Zq45 N a b).map (fun z => z.1.1) = some (lexC a b) := fun a ha b hb => by rw [Compare_lex (hl a ha) (hl b hb) hN]; rfl
  have hv : ∀ a ∈ xs, ∀ b ∈ xs, cmpV (fun a b => (Zq45 N a b).map fun z => z.1.1) a b = lexC a b := fun a ha b hb => by
    show ((Zq45 N a b).map fun z => z.1.1).getD 0 = _
    rw [hc a ha b hb]
    rfl
  unfold Zq53
  refine sortF_eq ⟨⟨by omega, fun a ha b hb => ⟨_, hc a ha b hb⟩, fun a ha => ?_, fun a ha b hb c hc' h1 h2 => ?_, fun a ha b hb c hc' h1 h2 => ?_, fun a ha b hb h1 h2 => ?_⟩, (List.perm_ext_iff_of_nodup (lex_nodup hs) hn).2 hm, ?_⟩
  · rw [hv a ha a ha, lexC_self]; decide
  · rw [hv a ha b hb] at h1
    rw [hv b hb c hc'] at h2
    rw [hv a ha c hc']
    exact lexC_trans h1 h2
  · rw [hv a ha b hb] at h1
    rw [hv b hb c hc'] at h2
    rw [hv a ha c hc']
    intro h3
    by_cases e : a = b
    · exact h2 (e ▸ h3)
    · exact h2 (lexC_trans (lexC_flip h1 e) h3)
  · rw [hv a ha b hb] at h1
    rw [hv b hb a ha] at h2
    have := lexC_anti a b
    exact lexC_eq (by omega)
  · refine hs.imp_of_mem fun {a b} ha hb hab => ?_
    rw [hv b ((hm b).1 hb) a ((hm a).1 ha)]
    have := lexC_anti a b
    omega
noncomputable def rowSteps (p : List Int → List Int → Bool) (xs : List (List Int)) (i : Nat) : List (Int × Int) := ((List.range' (i + 1) (xs.length - (i + 1))).filter fun j : Nat => p (rdL xs (i : Int)) (rdL xs (j : Int))).map fun j : Nat => ((i : Int), (j : Int))
noncomputable def stepsL (p : List Int → List Int → Bool) (xs : List (List Int)) : List (Int × Int) := (List.range' 0 xs.length).flatMap (rowSteps p xs)
theorem rowSteps_len (p : List Int → List Int → Bool) (xs : List (List Int)) (i : Nat) : (rowSteps p xs i).length ≤ xs.length := by
  unfold rowSteps
  rw [List.length_map]
  exact Nat.le_trans (List.length_filter_le ..) (by simp)
theorem stepsL_len (p : List Int → List Int → Bool) (xs : List (List Int)) : (stepsL p xs).length ≤ xs.length * xs.length := by
  unfold stepsL
  rw [List.length_flatMap]
  have := sum_le (f := fun i => (rowSteps p xs i).length) (b := xs.length) (xs := List.range' 0 xs.length) fun i _ => rowSteps_len p xs i
  simpa using this
theorem nodup_leL : ∀ {a b : List (List Int)}, a.Nodup → (∀ x ∈ a, x ∈ b) → a.length ≤ b.length := by
  intro a
  induction a with
  | nil => intro b _ _; exact Nat.zero_le _
  | cons x a ih =>
    intro b hn hs
    obtain ⟨h1, h2⟩ := List.nodup_cons.1 hn
    have hx := hs x (List.mem_cons_self ..)
    have := ih (b := b.erase x) h2 fun y hy => (List.mem_erase_of_ne (fun (e : y = x) => h1 (e ▸ hy))).2 (hs y (List.mem_cons_of_mem _ hy))
    rw [List.length_erase_of_mem hx] at this
    have := List.length_pos_of_mem hx
    rw [List.length_cons]
    omega
def okSt (n : Nat) (st : List (Int × Int)) : Prop := (st.Pairwise fun a b => a.1 < b.1 ∨ (a.1 = b.1 ∧ a.2 < b.2)) ∧ ∀ e ∈ st, 0 ≤ e.1 ∧ e.1 < e.2 ∧ e.2 < (n : Int)
theorem stepsL_ok {p : List Int → List Int → Bool} {xs : List (List Int)} : okSt xs.length (stepsL p xs) := by
  have hin : ∀ i, i < xs.length → ∀ e ∈ rowSteps p xs i, e.1 = (i : Int) ∧ e.1 < e.2 ∧ e.2 < (xs.length : Int) := by
    intro i hi e he
    unfold rowSteps at he
    obtain ⟨j, hj, rfl⟩ := List.mem_map.1 he
    have := List.mem_range'_1.1 (List.mem_filter.1 hj).1
    refine ⟨rfl, ?_, ?_⟩
    · show (i : Int) < (j : Int)
      omega
    · show (j : Int) < _
      omega
  constructor
  · unfold stepsL
    rw [List.pairwise_flatMap]
    refine ⟨fun i hi => ?_, ?_⟩
    · unfold rowSteps
      refine List.pairwise_map.2 (List.Pairwise.filter _ ?_)
      refine (List.pairwise_lt_range' (step := 1) (by omega)).imp fun {a b} hab => .inr ⟨rfl, ?_⟩
      show (a : Int) < (b : Int)
      omega
    · refine List.Pairwise.imp_of_mem ?_ (List.pairwise_lt_range' (step := 1) (by omega))
      intro a b ha hb hab x hx y hy
      have ha := List.mem_range'_1.1 ha
      have hb := List.mem_range'_1.1 hb
      have h1 := hin a (by omega) x hx
      have h2 := hin b (by omega) y hy
      omega
  · intro e he
    unfold stepsL at he
    obtain ⟨i, hi, he⟩ := List.mem_flatMap.1 he
    have hi := List.mem_range'_1.1 hi
    have := hin i (by omega) e he
    omega
theorem lessN {a b : Nat} (ha : a < 256) (hb : b < 256) : ∃ c : Nat, bitop .andNot .u64 (a : Int) (b : Int) = (c : Int) ∧ c < 256 ∧ ∀ i, c.testBit i = (a.testBit i && !b.testBit i) := by
  have e1 := ofInt64 (n := a) (by omega)
  have e2 := ofInt64 (n := b) (by omega)
  have key : ∀ i, (BitVec.ofInt 64 (a : Int) &&& ~~~(BitVec.ofInt 64 (b : Int))).toNat.testBit i = (a.testBit i && !b.testBit i) := by
    intro i
    rw [BitVec.testBit_toNat, BitVec.getLsbD_and, BitVec.getLsbD_not, ← BitVec.testBit_toNat, ← BitVec.testBit_toNat, e1, e2]
    by_cases hi : i < 64
    · rw [decide_eq_true hi, Bool.true_and]
    · have : a.testBit i = false := Nat.testBit_lt_two_pow (Nat.lt_of_lt_of_le ha (Nat.pow_le_pow_right (n := 2) (i := 8) (by omega) (by omega)))
      rw [this]
      rfl
  have hlt : (BitVec.ofInt 64 (a : Int) &&& ~~~(BitVec.ofInt 64 (b : Int))).toNat < 2 ^ 8 := by
    refine Nat.lt_pow_two_of_testBit _ fun i hi => ?_
    have : a.testBit i = false := Nat.testBit_lt_two_pow (Nat.lt_of_lt_of_le ha (Nat.pow_le_pow_right (n := 2) (i := 8) (by omega) hi))
    rw [key i, this]
    rfl
  refine ⟨_, ?_, hlt, key⟩
  show IntKind.u64.wrap (((BitVec.ofInt 64 (a : Int) &&& ~~~(BitVec.ofInt 64 (b : Int))).toNat : Nat) : Int) = _
  exact wrap64 (by omega)
end Go.Proofs.YtffeokcchabclaaGreat
