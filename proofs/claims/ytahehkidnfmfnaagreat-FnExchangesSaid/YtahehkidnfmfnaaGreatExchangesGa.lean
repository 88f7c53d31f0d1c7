/- Statements on data alone. -/
import Derived.Test.YtahehkidnfmfnaaGreatPvPure
import Derived.Test.YtahehkidnfmfnaaGreatExchangesFf
set_option linter.all false
set_option linter.all false
namespace Go.Proofs.YtahehkidnfmfnaaGreat
open Go Go.PV Classical
theorem all_rdI {xs : List Int} {p : Int → Prop} : (∀ x ∈ xs, p x) ↔ ∀ i : Nat, i < xs.length → p (rdI xs i) := by
 constructor
 ·intro h i hi
  rw [rdI_n hi]
  exact h _ (List.getElem_mem hi)
 ·intro h x hx
  obtain ⟨i, hi, rfl⟩ := List.mem_iff_getElem.1 hx
  have := h i hi
  rwa [rdI_n hi] at this
theorem all_rdP {xs : List (Int × Int)} {p : Int × Int → Prop} : (∀ x ∈ xs, p x) ↔ ∀ i : Nat, i < xs.length → p (rdP xs i) := by
 constructor
 ·intro h i hi
  rw [rdP_n hi]
  exact h _ (List.getElem_mem hi)
 ·intro h x hx
  obtain ⟨i, hi, rfl⟩ := List.mem_iff_getElem.1 hx
  have := h i hi
  rwa [rdP_n hi] at this
theorem not_any {α : Type} {xs : List α} {f : α → Bool} : (!(xs.any f)) = decide (∀ x ∈ xs, f x = false) := by
 induction xs with
 | nil => simp
 | cons x xs ih =>
  rw [List.any_cons, Bool.not_or, ih]
  by_cases h : f x = true <;> simp [h]
def findAt {α : Type} (f : α → Bool) : List α → Nat → Int
 | [], _ => -1
 | x :: xs, n => if f x = true then (n : Int) else findAt f xs (n + 1)
theorem findAt_cons {α : Type} (f : α → Bool) (x : α) (xs : List α) (n : Nat) : findAt f (x :: xs) n = if f x = true then (n : Int) else findAt f xs (n + 1) := rfl
theorem findAt_ge {α : Type} (f : α → Bool) : ∀ (xs : List α) (n : Nat), decide (0 ≤ findAt f xs n) = xs.any f := by
 intro xs
 induction xs with
 | nil => intro n; rfl
 | cons x xs ih =>
  intro n
  unfold findAt
  by_cases h : f x = true
  ·rw [if_pos h]
   simp [h]
  ·rw [if_neg h, ih]
   simp [h]
theorem IndexFunc_LI_int_l0_eq {R : Type} (N : Nat) (k0 : Int → Option R) (k1 : Unit → Option R) (xs : List (Int)) (f : Int → Option Bool) (g : Int → Bool) (hf : ∀ x ∈ xs, f x = some (g x)) (hx : xs.length ≤ 1099511627776) : ∀ (d n : Nat) (K : Nat), n + d = xs.length → d < K →
  Zq70_l0 N k0 k1 K xs f (xs.length : Int) n = if (xs.drop n).any g = true then k0 (findAt g (xs.drop n) n) else k1 () := by
 intro d
 induction d with
 | zero =>
  intro n K hd hK
  obtain ⟨k, rfl⟩ := succ_of hK
  have hn : ¬ n < xs.length := by omega
  simp only [Zq70_l0, ilt_nf hn, br_f]
  rw [List.drop_of_length_le (by omega)]
  simp
 | succ d ih =>
  intro n K hd hK
  obtain ⟨k, rfl⟩ := succ_of hK
  have hn : n < xs.length := by omega
  simp only [Zq70_l0, ilt_n hn, inb_n hn, br_t, chk_t]
  obtain ⟨y, r, e1, e2, e3⟩ := drop_split hn
  rw [wrap_succ (by omega), rdI_n hn, ih (n + 1) k (by omega) (by omega), hf _ (List.getElem_mem hn), bind_some', br_ite, e1, e2, e3, findAt_cons]
  by_cases h : g y = true
  ·simp [h]
  ·simp [h]
theorem ContainsFunc_LI_int_eq {N : Nat} {xs : List (Int)} {f : Int → Option Bool} {g : Int → Bool} (hf : ∀ x ∈ xs, f x = some (g x)) (hx : xs.length ≤ 1099511627776) (hN : xs.length < N) :
  Zq66 N xs f = some ((xs.any g, ()), ()) := by
 unfold Zq66 Zq70
 have := IndexFunc_LI_int_l0_eq N (fun x => some ((x, ()), ())) (fun _ => some (((-1 : Int), ()), ())) xs f g hf hx xs.length 0 N (by omega) (by omega)
 simp only [Int.natCast_zero, List.drop_zero] at this
 rw [tLen_n, this]
 by_cases h : xs.any g = true
 ·rw [if_pos h, bind_some', ile_d, findAt_ge]
 ·rw [if_neg h, bind_some']
  simp only [Bool.not_eq_true] at h
  rw [h]
  rfl
theorem IndexFunc_LP_P2_l0_eq {R : Type} (N : Nat) (k0 : Int → Option R) (k1 : Unit → Option R) (xs : List (Int × Int)) (f : Int × Int → Option Bool) (g : Int × Int → Bool) (hf : ∀ x ∈ xs, f x = some (g x)) (hx : xs.length ≤ 1099511627776) : ∀ (d n : Nat) (K : Nat), n + d = xs.length → d < K →
  Zq71_l0 N k0 k1 K xs f (xs.length : Int) n = if (xs.drop n).any g = true then k0 (findAt g (xs.drop n) n) else k1 () := by
 intro d
 induction d with
 | zero =>
  intro n K hd hK
  obtain ⟨k, rfl⟩ := succ_of hK
  have hn : ¬ n < xs.length := by omega
  simp only [Zq71_l0, ilt_nf hn, br_f]
  rw [List.drop_of_length_le (by omega)]
  simp
 | succ d ih =>
  intro n K hd hK
  obtain ⟨k, rfl⟩ := succ_of hK
  have hn : n < xs.length := by omega
  simp only [Zq71_l0, ilt_n hn, inb_n hn, br_t, chk_t]
  obtain ⟨y, r, e1, e2, e3⟩ := drop_split hn
  rw [wrap_succ (by omega), rdP_n hn, ih (n + 1) k (by omega) (by omega), hf _ (List.getElem_mem hn), bind_some', br_ite, e1, e2, e3, findAt_cons]
  by_cases h : g y = true
  ·simp [h]
  ·simp [h]
theorem ContainsFunc_LP_P2_eq {N : Nat} {xs : List (Int × Int)} {f : Int × Int → Option Bool} {g : Int × Int → Bool} (hf : ∀ x ∈ xs, f x = some (g x)) (hx : xs.length ≤ 1099511627776) (hN : xs.length < N) :
  Zq67 N xs f = some ((xs.any g, ()), ()) := by
 unfold Zq67 Zq71
 have := IndexFunc_LP_P2_l0_eq N (fun x => some ((x, ()), ())) (fun _ => some (((-1 : Int), ()), ())) xs f g hf hx xs.length 0 N (by omega) (by omega)
 simp only [Int.natCast_zero, List.drop_zero] at this
 rw [tLen_n, this]
 by_cases h : xs.any g = true
 ·rw [if_pos h, bind_some', ile_d, findAt_ge]
 ·rw [if_neg h, bind_some']
  simp only [Bool.not_eq_true] at h
  rw [h]
  rfl
theorem l1In_eq (N : Nat) (x a b : Int) : Zq96 N x a b = some ((decide (a ≤ x ∧ x ≤ b), ()), ()) := by
 unfold Zq96
 rw [br_ite, ile_d, ile_d]
 by_cases h : a ≤ x <;> by_cases h' : x ≤ b <;> simp [h, h']
theorem between_eq (N : Nat) (n low high : Int) : Zq34 N n low high = some ((decide (low ≤ n ∧ n ≤ high), ()), ()) := by
 unfold Zq34
 rw [br_ite, ile_d, ile_d]
 by_cases h : low ≤ n <;> by_cases h' : n ≤ high <;> simp [h, h']
def risingAt (lo hi : Int) (xs : List Int) (i : Nat) : Prop := (lo ≤ rdI xs i ∧ rdI xs i ≤ hi) ∧ (0 < i → rdI xs ((i - 1 : Nat) : Int) < rdI xs i)
def rising (lo hi : Int) (xs : List Int) : Prop := ∀ i, i < xs.length → risingAt lo hi xs i
theorem l1Rising_eq {N : Nat} {lo hi : Int} {xs : List Int} (hx : xs.length ≤ 1048576) (hN : 1048577 ≤ N) : Zq102 N xs lo hi = some ((decide (rising lo hi xs), ()), ()) := by
 unfold Zq102
 have := loop_all_if (P := rising lo hi xs) (L := fun K i => Zq102_l0 N (fun x => some ((x, ()), ())) (fun (_ : Unit) => some ((true, ()), ())) K xs lo hi i) (risingAt lo hi xs) Iff.rfl (kt := some ((true, ()), ())) (kf := some ((false, ()), ())) (fun K n hn => ?_) (fun K n hn hp => ?_) (fun K n hn hp => ?_) (show xs.length < N by omega)
 ·rw [show ((0 : Nat) : Int) = 0 from rfl] at this
  rw [this]
  by_cases h : rising lo hi xs <;> simp [h]
 ·simp only [Zq102_l0, ilt_lenf hn, br_f]
 ·simp only [Zq102_l0, ilt_len hn, br_t, inb_n hn, chk_t, l1In_eq, bind_some']
  obtain ⟨h1, h2⟩ := hp
  rw [decide_eq_true h1, Bool.not_true, br_f]
  by_cases h0 : 0 < n
  ·rw [ilt_0 h0, br_t, wrap_pred (by omega) h0, inb_n (by omega), chk_t, ile_f (by have := h2 h0; omega), br_f, wrap_succ (by omega)]
  ·rw [ilt_0n h0, br_f, wrap_succ (by omega)]
 ·simp only [Zq102_l0, ilt_len hn, br_t, inb_n hn, chk_t, l1In_eq, bind_some']
  by_cases h1 : lo ≤ rdI xs n ∧ rdI xs n ≤ hi
  ·rw [decide_eq_true h1, Bool.not_true, br_f]
   have h0 : 0 < n := by
    rcases Nat.eq_zero_or_pos n with h0 | h0
    ·exact absurd ⟨h1, fun h' => by omega⟩ hp
    ·exact h0
   have h4 : ¬ rdI xs ((n - 1 : Nat) : Int) < rdI xs n := fun h' => hp ⟨h1, fun _ => h'⟩
   rw [ilt_0 h0, br_t, wrap_pred (by omega) h0, inb_n (by omega), chk_t, ile_t (by omega), br_t]
  ·rw [decide_eq_false h1, Bool.not_false, br_t]
theorem isRising_eq {N : Nat} {m : Int} {xs : List Int} (hx : xs.length ≤ 1048576) (hm : 0 ≤ m ∧ m ≤ 4611686018427387904) (hN : 1048577 ≤ N) : Zq42 N xs m = some ((decide (rising 0 (m - 1) xs), ()), ()) := by
 unfold Zq42
 have := loop_all_if (P := rising 0 (m - 1) xs) (L := fun K i => Zq42_l0 N (fun x => some ((x, ()), ())) (fun (_ : Unit) => some ((true, ()), ())) K xs m xs (xs.length : Int) i) (risingAt 0 (m - 1) xs) Iff.rfl (kt := some ((true, ()), ())) (kf := some ((false, ()), ())) (fun K n hn => ?_) (fun K n hn hp => ?_) (fun K n hn hp => ?_) (show xs.length < N by omega)
 ·rw [show ((0 : Nat) : Int) = 0 from rfl] at this
  rw [tLen_n, this]
  by_cases h : rising 0 (m - 1) xs <;> simp [h]
 ·simp only [Zq42_l0, ilt_nf hn, br_f]
 ·simp only [Zq42_l0, ilt_n hn, br_t, inb_n hn, chk_t, between_eq, bind_some', wrap_ok (show -9223372036854775808 ≤ m - 1 by omega) (show m - 1 < 9223372036854775808 by omega)]
  obtain ⟨h1, h2⟩ := hp
  rw [decide_eq_true h1, Bool.not_true, br_f]
  by_cases h0 : 0 < n
  ·rw [ilt_0 h0, br_t, wrap_pred (by omega) h0, inb_n (by omega), chk_t, ile_f (by have := h2 h0; omega), br_f, wrap_succ (by omega)]
  ·rw [ilt_0n h0, br_f, wrap_succ (by omega)]
 ·simp only [Zq42_l0, ilt_n hn, br_t, inb_n hn, chk_t, between_eq, bind_some', wrap_ok (show -9223372036854775808 ≤ m - 1 by omega) (show m - 1 < 9223372036854775808 by omega)]
  by_cases h1 : 0 ≤ rdI xs n ∧ rdI xs n ≤ m - 1
  ·rw [decide_eq_true h1, Bool.not_true, br_f]
   have h0 : 0 < n := by
    rcases Nat.eq_zero_or_pos n with h0 | h0
    ·exact absurd ⟨h1, fun h' => by omega⟩ hp
    ·exact h0
   have h4 : ¬ rdI xs ((n - 1 : Nat) : Int) < rdI xs n := fun h' => hp ⟨h1, fun _ => h'⟩
   rw [ilt_0 h0, br_t, wrap_pred (by omega) h0, inb_n (by omega), chk_t, ile_t (by omega), br_t]
  ·rw [decide_eq_false h1, Bool.not_false, br_t]
theorem l1Most_eq (N : Nat) (a b : Int) : Zq98 N a b = some ((if b < a then a else b, ()), ()) := by
 unfold Zq98
 rw [br_ite, ilt_d]
 by_cases h : b < a <;> simp [h]
theorem foldl_snoc {α : Type} : ∀ (xs o : List α), xs.foldl (fun o x => o ++ [x]) o = o ++ xs := by
 intro xs
 induction xs with
 | nil => intro o; simp
 | cons x xs ih => intro o; rw [List.foldl_cons, ih]; simp
theorem l1Own_eq {N : Nat} {xs : List Int} (h : xs.length ≤ 1048576) : Zq99 N xs = some ((xs, ()), ()) := by
 unfold Zq99
 rw [room_ok (by simp; omega), chk_t]
 rfl
theorem Clone_eq {N : Nat} {xs : List Int} (h : xs.length ≤ 1048576) : Zq62 N xs = some ((xs, ()), ()) := by
 unfold Zq62
 rw [room_ok (by simp; omega), chk_t, br_ite, ieq_d, tLen_n]
 by_cases h0 : xs = []
 ·subst h0
  simp only [tApp_d, List.append_nil, amb_same]
  simp
 ·rw [if_neg (by simpa using h0)]
  rfl
theorem copyLists_eq {N : Nat} {xs : List (List Int)} (h : xs.length ≤ 1048576) (hs : ∀ x ∈ xs, x.length ≤ 1048576) (hN : 1048577 ≤ N) : Zq36 N xs = some ((xs, ()), ()) := by
 unfold Zq36
 refine (loop_list (xs := xs) (L := fun K n o => Zq36_l0 N (fun o => some ((o, ()), ())) K xs (xs.length : Int) n o) (k := fun o => some ((o, ()), ())) (fun o x => o ++ [x]) (fun n o => o.length = n) (fun K n s hn _ => ?_) (fun K n s hn hs' => ?_) (fun n s hn h => ?_) (s := []) (K := N) (by omega) rfl).1.trans ?_
 ·simp only [Zq36_l0, ilt_nf hn, br_f]
 ·simp only [Zq36_l0, ilt_n hn, br_t, inb_n hn, chk_t]
  rw [rdL_n hn, Clone_eq (hs _ (List.getElem_mem hn)), bind_some', room_ok (by simp; omega), chk_t, wrap_succ (by omega)]
  rfl
 ·simp; omega
 ·rw [foldl_snoc, List.nil_append]
theorem l1Has_eq {N : Nat} {xs : List Int} {v : Int} (hx : xs.length ≤ 1048576) (hN : 1048577 ≤ N) : Zq95 N xs v = some ((decide (v ∈ xs), ()), ()) := by
 unfold Zq95
 have := loop_all_if (P := ∀ x ∈ xs, x ≠ v) (L := fun K i => Zq95_l0 N (fun x => some ((x, ()), ())) (fun (_ : Unit) => some ((false, ()), ())) K xs v i) (fun i => rdI xs i ≠ v) all_rdI (kt := some ((false, ()), ())) (kf := some ((true, ()), ())) (fun K n hn => ?_) (fun K n hn hp => ?_) (fun K n hn hp => ?_) (show xs.length < N by omega)
 ·rw [show ((0 : Nat) : Int) = 0 from rfl] at this
  rw [this]
  by_cases h : v ∈ xs
  ·rw [if_neg (fun h' => h' v h rfl), decide_eq_true h]
  ·rw [if_pos (fun x hx (h' : x = v) => h (h' ▸ hx)), decide_eq_false h]
 ·simp only [Zq95_l0, ilt_lenf hn, br_f]
 ·simp only [Zq95_l0, ilt_len hn, br_t, inb_n hn, chk_t]
  rw [ieq_f hp, br_f, wrap_succ (by omega)]
 ·simp only [Zq95_l0, ilt_len hn, br_t, inb_n hn, chk_t]
  rw [ieq_t (Decidable.not_not.1 hp), br_t]
def edgeLt (a b : Int × Int) : Prop := a.1 < b.1 ∨ a.1 = b.1 ∧ a.2 < b.2
def pairAt (m : Int) (es : List (Int × Int)) (i : Nat) : Prop := (0 ≤ (rdP es i).1 ∧ (rdP es i).1 < (rdP es i).2 ∧ (rdP es i).2 < m) ∧ (0 < i → edgeLt (rdP es ((i - 1 : Nat) : Int)) (rdP es i))
def goodG (g : Int × List (Int × Int)) : Prop := (0 ≤ g.1 ∧ g.1 ≤ 8) ∧ ∀ i, i < g.2.length → pairAt g.1 g.2 i
theorem goodG_edges {g : Int × List (Int × Int)} (h : goodG g) : ∀ e ∈ g.2, 0 ≤ e.1 ∧ e.1 < e.2 ∧ e.2 < g.1 :=
 all_rdP.2 fun i hi => (h.2 i hi).1
theorem l2Edge_eq (N : Nat) (a b : Int × Int) : Zq106 N a b = some ((decide (edgeLt a b), ()), ()) := by
 unfold Zq106 edgeLt
 by_cases h1 : a.1 < b.1
 ·rw [ilt_t h1, br_t]; simp [h1]
 ·rw [ilt_f h1, br_f]
  by_cases h2 : a.1 = b.1
  ·rw [ieq_t h2, br_t, ilt_d]; simp [h2]
  ·rw [ieq_f h2, br_f]; simp [h1, h2]
theorem compare_eq (N : Nat) (x y : Int) : Zq0 N x y = some ((if x < y then -1 else if y < x then 1 else 0, ()), ()) := by
 unfold Zq0 Zq2
 simp only [bind_some', ine_f (rfl : x = x), ine_f (rfl : y = y), br_f]
 by_cases h1 : x < y
 ·rw [ilt_t h1, br_t, if_pos h1]
 ·rw [ilt_f h1, br_f, if_neg h1]
  by_cases h2 : y < x
  ·rw [ilt_t h2, br_t, if_pos h2]
  ·rw [ilt_f h2, br_f, if_neg h2]
theorem Or2_eq {N : Nat} (hN : 1048577 ≤ N) (a b : Int) : Zq1 N [a, b] = some ((if a = 0 then b else a, ()), ()) := by
 obtain ⟨k, rfl⟩ : ∃ k, N = k + 3 := ⟨N - 3, by omega⟩
 unfold Zq1
 rw [show tLen [a, b] = 2 from rfl]
 simp only [Zq1_l0]
 rw [show inb [a, b] 0 = true from rfl, show rdI [a, b] 0 = a from rfl, show IntKind.i64.wrap (0 + 1) = 1 from rfl, show inb [a, b] 1 = true from rfl, show rdI [a, b] 1 = b from rfl, show IntKind.i64.wrap (1 + 1) = 2 from rfl, show ilt 0 2 = true from rfl, show ilt 1 2 = true from rfl, show ilt 2 2 = false from rfl, chk_t, chk_t, br_t, br_t, br_f]
 by_cases h : a = 0
 ·rw [ine_f h, br_f, if_pos h]
  by_cases h' : b = 0
  ·rw [ine_f h', br_f, h']
  ·rw [ine_t h', br_t]
 ·rw [ine_t h, br_t, if_neg h]
theorem comparePairs_eq {N : Nat} (hN : 1048577 ≤ N) (a b : Int × Int) : ∃ r : Int, Zq35 N a b = some ((r, ()), ()) ∧ (r < 0 ↔ edgeLt a b) ∧ (r = 0 ↔ a = b) := by
 obtain ⟨a1, a2⟩ := a
 obtain ⟨b1, b2⟩ := b
 unfold Zq35 edgeLt
 simp only [compare_eq, bind_some', Or2_eq hN]
 refine ⟨_, rfl, ?_, ?_⟩
 ·by_cases h1 : a1 < b1
  ·simp [h1]
  ·by_cases h2 : b1 < a1
   ·simp [h1, h2]; omega
   ·have : a1 = b1 := by omega
    simp only [if_neg h1, if_neg h2, if_pos, this, Int.lt_irrefl, false_or, true_and]
    by_cases h3 : a2 < b2
    ·simp [h3]
    ·by_cases h4 : b2 < a2
     ·simp [h3, h4]
     ·simp [h3, h4]
 ·rw [Prod.mk.injEq]
  by_cases h1 : a1 < b1
  ·simp [h1]; omega
  ·by_cases h2 : b1 < a1
   ·simp [h1, h2]; omega
   ·have : a1 = b1 := by omega
    simp only [if_neg h1, if_neg h2, if_pos, this, true_and]
    by_cases h3 : a2 < b2
    ·simp [h3]; omega
    ·by_cases h4 : b2 < a2
     ·simp [h3, h4]; omega
     ·simp [h3, h4]; omega
theorem l2Pairs_big {N : Nat} {m : Int} {es : List (Int × Int)} (hm : 0 ≤ m ∧ m ≤ 1048576) (hx : es.length ≤ 1048576) (hN : 1048577 ≤ N) : Zq111 N es m = some ((decide (∀ i, i < es.length → pairAt m es i), ()), ()) := by
 unfold Zq111
 have := loop_all_if (P := ∀ i, i < es.length → pairAt m es i) (m := es.length) (L := fun K i => Zq111_l0 N (fun x => some ((x, ()), ())) (fun (_ : Unit) => some ((true, ()), ())) K es m i) (pairAt m es) Iff.rfl (kt := some ((true, ()), ())) (kf := some ((false, ()), ())) (fun K n hn => ?_) (fun K n hn hp => ?_) (fun K n hn hp => ?_) (show es.length < N by omega)
 ·rw [show ((0 : Nat) : Int) = 0 from rfl] at this
  rw [this]
  by_cases h : ∀ i, i < es.length → pairAt m es i
  ·rw [if_pos h, decide_eq_true h]
  ·rw [if_neg h, decide_eq_false h]
 ·simp only [Zq111_l0, ilt_lenf hn, br_f]
 ·simp only [Zq111_l0, ilt_len hn, inb_n hn, br_t, chk_t, l1In_eq, l2Edge_eq, bind_some', wrap_ok (show -9223372036854775808 ≤ m - 1 by omega) (show m - 1 < 9223372036854775808 by omega)]
  obtain ⟨⟨p1, p2, p3⟩, p4⟩ := hp
  rw [decide_eq_true (show 0 ≤ (rdP es n).1 ∧ (rdP es n).1 ≤ m - 1 by omega), decide_eq_true (show 0 ≤ (rdP es n).2 ∧ (rdP es n).2 ≤ m - 1 by omega), Bool.not_true, br_f, br_f, ile_f (by omega), br_f]
  by_cases h0 : 0 < n
  ·rw [ilt_0 h0, br_t, wrap_pred (by omega) h0, inb_n (by omega), chk_t, decide_eq_true (p4 h0), Bool.not_true, br_f, wrap_succ (by omega)]
  ·rw [ilt_0n h0, br_f, wrap_succ (by omega)]
 ·simp only [Zq111_l0, ilt_len hn, inb_n hn, br_t, chk_t, l1In_eq, l2Edge_eq, bind_some', wrap_ok (show -9223372036854775808 ≤ m - 1 by omega) (show m - 1 < 9223372036854775808 by omega)]
  by_cases q1 : 0 ≤ (rdP es n).1 ∧ (rdP es n).1 ≤ m - 1
  ·rw [decide_eq_true q1, Bool.not_true, br_f]
   by_cases q2 : 0 ≤ (rdP es n).2 ∧ (rdP es n).2 ≤ m - 1
   ·rw [decide_eq_true q2, Bool.not_true, br_f]
    by_cases q3 : (rdP es n).2 ≤ (rdP es n).1
    ·rw [ile_t q3, br_t]
    ·rw [ile_f q3, br_f]
     have h0 : 0 < n := by
      rcases Nat.eq_zero_or_pos n with h0 | h0
      ·exact absurd ⟨⟨by omega, by omega, by omega⟩, fun h' => by omega⟩ hp
      ·exact h0
     have h4 : ¬ edgeLt (rdP es ((n - 1 : Nat) : Int)) (rdP es n) := fun h' => hp ⟨⟨by omega, by omega, by omega⟩, fun _ => h'⟩
     rw [ilt_0 h0, br_t, wrap_pred (by omega) h0, inb_n (by omega), chk_t, decide_eq_false h4, Bool.not_false, br_t]
   ·rw [decide_eq_false q2, Bool.not_false, br_t]
  ·rw [decide_eq_false q1, Bool.not_false, br_t]
theorem l2Pairs_eq {N : Nat} {m : Int} {es : List (Int × Int)} (hm : 0 ≤ m ∧ m ≤ 8) (hx : es.length ≤ 1048576) (hN : 1048577 ≤ N) : Zq111 N es m = some ((decide (∀ i, i < es.length → pairAt m es i), ()), ()) := l2Pairs_big ⟨hm.1, by omega⟩ hx hN
theorem isPairs_eq {N : Nat} {m : Int} {es : List (Int × Int)} (hm : 0 ≤ m ∧ m ≤ 8) (hx : es.length ≤ 1048576) (hN : 1048577 ≤ N) : Zq41 N es m = some ((decide (∀ i, i < es.length → pairAt m es i), ()), ()) := by
 unfold Zq41
 have := loop_all_if (P := ∀ i, i < es.length → pairAt m es i) (m := es.length) (L := fun K i => Zq41_l0 N (fun x => some ((x, ()), ())) (fun (_ : Unit) => some ((true, ()), ())) K es m es (es.length : Int) i) (pairAt m es) Iff.rfl (kt := some ((true, ()), ())) (kf := some ((false, ()), ())) (fun K n hn => ?_) (fun K n hn hp => ?_) (fun K n hn hp => ?_) (show es.length < N by omega)
 ·rw [show ((0 : Nat) : Int) = 0 from rfl] at this
  rw [tLen_n, this]
  by_cases h : ∀ i, i < es.length → pairAt m es i
  ·rw [if_pos h, decide_eq_true h]
  ·rw [if_neg h, decide_eq_false h]
 ·simp only [Zq41_l0, ilt_nf hn, br_f]
 ·simp only [Zq41_l0, ilt_n hn, inb_n hn, br_t, chk_t]
  obtain ⟨⟨p1, p2, p3⟩, p4⟩ := hp
  rw [ilt_f (by omega), br_f, ile_f (by omega), br_f, ile_f (by omega), br_f]
  by_cases h0 : 0 < n
  ·rw [ilt_0 h0, br_t, wrap_pred (by omega) h0, inb_n (by omega), chk_t]
   obtain ⟨r, r1, r2, _⟩ := comparePairs_eq hN (rdP es ((n - 1 : Nat) : Int)) ((rdP es n).1, (rdP es n).2)
   have := r2.2 (p4 h0)
   rw [r1]
   simp only [bind_some']
   rw [ile_f (by omega), br_f, wrap_succ (by omega)]
  ·rw [ilt_0n h0, br_f, wrap_succ (by omega)]
 ·simp only [Zq41_l0, ilt_n hn, inb_n hn, br_t, chk_t]
  by_cases q1 : (rdP es n).1 < 0
  ·rw [ilt_t q1, br_t]
  ·rw [ilt_f q1, br_f]
   by_cases q2 : (rdP es n).2 ≤ (rdP es n).1
   ·rw [ile_t q2, br_t]
   ·rw [ile_f q2, br_f]
    by_cases q3 : m ≤ (rdP es n).2
    ·rw [ile_t q3, br_t]
    ·rw [ile_f q3, br_f]
     have h0 : 0 < n := by
      rcases Nat.eq_zero_or_pos n with h0 | h0
      ·exact absurd ⟨⟨by omega, by omega, by omega⟩, fun h' => by omega⟩ hp
      ·exact h0
     have h4 : ¬ edgeLt (rdP es ((n - 1 : Nat) : Int)) (rdP es n) := fun h' => hp ⟨⟨by omega, by omega, by omega⟩, fun _ => h'⟩
     rw [ilt_0 h0, br_t, wrap_pred (by omega) h0, inb_n (by omega), chk_t]
     obtain ⟨r, r1, r2, _⟩ := comparePairs_eq hN (rdP es ((n - 1 : Nat) : Int)) ((rdP es n).1, (rdP es n).2)
     have : ¬ r < 0 := fun h => h4 (r2.1 h)
     rw [r1]
     simp only [bind_some']
     rw [ile_t (by omega), br_t]
theorem l2Good_eq {N : Nat} {g : Int × List (Int × Int)} (hx : g.2.length ≤ 1048576) (hN : 1048577 ≤ N) : Zq107 N g = some ((decide (goodG g), ()), ()) := by
 unfold Zq107
 rw [l1In_eq, bind_some']
 by_cases h : 0 ≤ g.1 ∧ g.1 ≤ 8
 ·rw [decide_eq_true h, br_t, l2Pairs_eq h hx hN, bind_some']
  congr 3
  exact decide_eq_decide.2 ⟨fun h' => ⟨h, h'⟩, fun h' => h'.2⟩
 ·rw [decide_eq_false h, br_f, decide_eq_false (show ¬ goodG g from fun h' => h h'.1)]
theorem IsGraph_eq {N : Nat} {g : Int × List (Int × Int)} (hx : g.2.length ≤ 1048576) (hN : 1048577 ≤ N) : Zq19 N g = some ((decide (goodG g), ()), ()) := by
 unfold Zq19
 rw [between_eq, bind_some']
 by_cases h : 0 ≤ g.1 ∧ g.1 ≤ 8
 ·rw [decide_eq_true h, br_t, isPairs_eq h hx hN, bind_some']
  congr 3
  exact decide_eq_decide.2 ⟨fun h' => ⟨h, h'⟩, fun h' => h'.2⟩
 ·rw [decide_eq_false h, br_f, decide_eq_false (show ¬ goodG g from fun h' => h h'.1)]
def nearG (es : List (Int × Int)) (a b : Int) : Prop := (a, b) ∈ es ∨ (b, a) ∈ es
theorem l2Near_eq {N : Nat} {g : Int × List (Int × Int)} {a b : Int} (hx : g.2.length ≤ 1048576) (hN : 1048577 ≤ N) : Zq110 N g a b = some ((decide (nearG g.2 a b), ()), ()) := by
 obtain ⟨m, es⟩ := g
 simp only at hx
 unfold Zq110
 have := loop_all_if (P := ∀ e ∈ es, ¬ (e = (a, b) ∨ e = (b, a))) (m := es.length) (L := fun K i => Zq110_l0 N (fun x => some ((x, ()), ())) (fun (_ : Unit) => some ((false, ()), ())) K a b i m es) (fun i => ¬ (rdP es i = (a, b) ∨ rdP es i = (b, a))) all_rdP (kt := some ((false, ()), ())) (kf := some ((true, ()), ())) (fun K n hn => ?_) (fun K n hn hp => ?_) (fun K n hn hp => ?_) (show es.length < N by omega)
 ·rw [show ((0 : Nat) : Int) = 0 from rfl] at this
  rw [this]
  by_cases h : nearG es a b
  ·rw [if_neg (fun h' => by
    rcases h with h | h
    ·exact h' _ h (Or.inl rfl)
    ·exact h' _ h (Or.inr rfl)), decide_eq_true h]
  ·rw [if_pos (fun e he h' => by
    rcases h' with h' | h'
    ·exact h (Or.inl (h' ▸ he))
    ·exact h (Or.inr (h' ▸ he))), decide_eq_false h]
 ·simp only [Zq110_l0, ilt_lenf hn, br_f]
 ·simp only [Zq110_l0, ilt_len hn, inb_n hn, br_t, chk_t]
  rw [wrap_succ (by omega)]
  rw [show rdP es n = ((rdP es n).1, (rdP es n).2) from rfl, Prod.mk.injEq, Prod.mk.injEq] at hp
  by_cases q1 : (rdP es n).1 = a
  ·rw [ieq_t q1, br_t, ieq_f (fun h => hp (Or.inl ⟨q1, h⟩)), br_f]
   by_cases q2 : (rdP es n).1 = b
   ·rw [ieq_t q2, br_t, ieq_f (fun h => hp (Or.inr ⟨q2, h⟩)), br_f]
   ·rw [ieq_f q2, br_f]
  ·rw [ieq_f q1, br_f]
   by_cases q2 : (rdP es n).1 = b
   ·rw [ieq_t q2, br_t, ieq_f (fun h => hp (Or.inr ⟨q2, h⟩)), br_f]
   ·rw [ieq_f q2, br_f]
 ·simp only [Zq110_l0, ilt_len hn, inb_n hn, br_t, chk_t]
  rw [Decidable.not_not, show rdP es n = ((rdP es n).1, (rdP es n).2) from rfl, Prod.mk.injEq, Prod.mk.injEq] at hp
  by_cases q0 : (rdP es n).1 = a ∧ (rdP es n).2 = b
  ·rw [ieq_t q0.1, br_t, ieq_t q0.2, br_t]
  ·have hp' := hp.resolve_left q0
   rw [ieq_t hp'.1, ieq_t hp'.2, br_t, br_t]
   by_cases q1 : (rdP es n).1 = a
   ·rw [ieq_t q1, br_t, ieq_f (fun h => q0 ⟨q1, h⟩), br_f]
   ·rw [ieq_f q1, br_f]
theorem ContainsP_eq {N : Nat} {xs : List (Int × Int)} {v : Int × Int} (hx : xs.length ≤ 1048576) (hN : 1048577 ≤ N) : Zq68 N xs v = some ((decide (v ∈ xs), ()), ()) := by
 obtain ⟨a, b⟩ := v
 have go : ∀ (d n : Nat) (K : Nat), n + d = xs.length → d < K → ∃ i : Int, Zq72_l0 N (fun x => some ((x, ()), ())) (fun (_ : Unit) => some ((-1, ()), ())) K xs (xs.length : Int) n a b = some ((i, ()), ()) ∧ decide (0 ≤ i) = decide ((a, b) ∈ xs.drop n) := by
  intro d
  induction d with
  | zero =>
   intro n K hd hK
   obtain ⟨k, rfl⟩ := succ_of hK
   have hn : ¬ n < xs.length := by omega
   simp only [Zq72_l0, ilt_nf hn, br_f]
   rw [List.drop_of_length_le (by omega)]
   exact ⟨-1, rfl, rfl⟩
  | succ d ih =>
   intro n K hd hK
   obtain ⟨k, rfl⟩ := succ_of hK
   have hn : n < xs.length := by omega
   simp only [Zq72_l0, ilt_n hn, br_t, inb_n hn, chk_t]
   obtain ⟨⟨y1, y2⟩, r, e1, e2, e3⟩ := drop_split hn
   rw [rdP_n hn, e1, e2]
   simp only
   by_cases h : a = y1 ∧ b = y2
   ·rw [ieq_t h.1, ieq_t h.2, Bool.and_self, br_t]
    exact ⟨_, rfl, by simp [h.1, h.2]⟩
   ·have hq : (ieq a y1 && ieq b y2) = false := by
     rw [ieq_d, ieq_d, ← Bool.decide_and]
     exact decide_eq_false h
    rw [hq, br_f, wrap_succ (by omega)]
    obtain ⟨i, h1, h2⟩ := ih (n + 1) k (by omega) (by omega)
    refine ⟨i, h1, ?_⟩
    rw [h2, e3]
    simp [h]
 unfold Zq68 Zq72
 obtain ⟨i, h1, h2⟩ := go xs.length 0 N (by omega) (by omega)
 simp only [Int.natCast_zero, List.drop_zero] at h1 h2
 rw [tLen_n]
 simp only [h1, bind_some']
 rw [ile_d, h2]
theorem Graph_has_eq {N : Nat} {g : Int × List (Int × Int)} {a b : Int} (hed : ∀ e ∈ g.2, e.1 < e.2) (hx : g.2.length ≤ 1048576) (hN : 1048577 ≤ N) : Zq9 N g a b = some ((decide (nearG g.2 a b), ()), ()) := by
 unfold Zq9 Zq48
 simp only [bind_some', ContainsP_eq hx hN]
 congr 3
 refine decide_eq_decide.2 ⟨fun h => ?_, fun h => ?_⟩
 ·by_cases h1 : b < a
  ·rw [if_pos h1, if_neg (by omega)] at h
   exact Or.inr h
  ·rw [if_neg h1] at h
   by_cases h2 : b > a
   ·rw [if_pos h2] at h
    exact Or.inl h
   ·have : a = b := by omega
    rw [if_neg h2] at h
    exact Or.inl (by rw [← this]; exact h)
 ·rcases h with h | h
  ·have := hed _ h
   simp only at this
   rw [if_neg (by omega), if_pos (by omega)]
   exact h
  ·have := hed _ h
   simp only at this
   rw [if_pos (by omega), if_neg (by omega)]
   exact h
def asc (xs : List Int) : Prop := xs.Pairwise (· ≤ ·)
theorem rdI_mid (q s : List Int) (x : Int) : rdI (q ++ x :: s) ((q.length : Nat) : Int) = x := by simp [rdI]
theorem asc_perm : ∀ {a b : List Int}, asc a → asc b → a.Perm b → a = b := by
 intro a
 induction a with
 | nil => intro b _ _ hp; exact (List.nil_perm.1 hp).symm
 | cons x a ih =>
  intro b ha hb hp
  cases b with
  | nil => exact absurd (List.perm_nil.1 hp) (by simp)
  | cons y b =>
   obtain ⟨a1, a2⟩ := List.pairwise_cons.1 ha
   obtain ⟨b1, b2⟩ := List.pairwise_cons.1 hb
   have e : x = y := by
    have h1 : x ∈ y :: b := hp.mem_iff.1 (List.mem_cons_self ..)
    have h2 : y ∈ x :: a := hp.mem_iff.2 (List.mem_cons_self ..)
    rcases List.mem_cons.1 h1 with h1 | h1
    ·exact h1
    ·rcases List.mem_cons.1 h2 with h2 | h2
     ·exact h2.symm
     ·have := a1 y h2
      have := b1 x h1
      omega
   subst e
   rw [ih a2 b2 (List.Perm.cons_inv hp)]
theorem mergeI_asc (xs : List Int) : asc (mergeI xs) := by
 have := List.pairwise_mergeSort (le := fun x y : Int => decide (x ≤ y)) (fun a b c h1 h2 => by simp at *; omega) (fun a b => by simp; omega) xs
 exact this.imp fun h => by simpa using h
theorem mergeI_perm (xs : List Int) : (mergeI xs).Perm xs := List.mergeSort_perm ..
theorem Sort_any {N : Nat} {xs : List Int} (hx : xs.length < 4611686018427387904) : Zq76 N xs = some ((), (mergeI xs, ())) := by
 unfold Zq76 sortIF
 rw [if_pos hx]
theorem Sort_asc {N : Nat} {xs : List Int} (h : asc xs) (hx : xs.length < 1024) (hN : 1048577 ≤ N) : Zq76 N xs = some ((), (xs, ())) := by
 rw [Sort_any (by omega)]
 congr 3
 exact asc_perm (mergeI_asc xs) h (mergeI_perm xs)
theorem Equal_eq {N : Nat} {a b : List Int} (hx : a.length ≤ 1048576) (hN : 1048577 ≤ N) : Zq69 N a b = some ((decide (a = b), ()), ()) := by
 unfold Zq69
 rw [tLen_n, tLen_n]
 by_cases hl : a.length = b.length
 ·rw [ine_f (by omega), br_f]
  have := loop_all_if (P := a = b) (m := a.length) (L := fun K i => Zq69_l0 N (fun x => some ((x, ()), ())) (fun (_ : Unit) => some ((true, ()), ())) K a b (a.length : Int) i) (fun i => rdI a i = rdI b i) ⟨fun h i _ => by rw [h], fun h => List.ext_getElem hl fun i h1 h2 => by have := h i h1; rwa [rdI_n h1, rdI_n h2] at this⟩ (kt := some ((true, ()), ())) (kf := some ((false, ()), ())) (fun K n hn => ?_) (fun K n hn hp => ?_) (fun K n hn hp => ?_) (show a.length < N by omega)
  ·rw [show ((0 : Nat) : Int) = 0 from rfl] at this
   rw [this]
   by_cases h : a = b <;> simp [h]
  ·simp only [Zq69_l0, ilt_nf hn, br_f]
  ·simp only [Zq69_l0, ilt_n hn, inb_n hn, inb_n (show n < b.length by omega), br_t, chk_t]
   rw [ine_f hp, br_f, wrap_succ (by omega)]
  ·simp only [Zq69_l0, ilt_n hn, inb_n hn, inb_n (show n < b.length by omega), br_t, chk_t]
   rw [ine_t hp, br_t]
 ·rw [ine_t (by omega), br_t]
  have : a ≠ b := fun h => hl (by rw [h])
  simp [this]
theorem l1Same_eq {N : Nat} {a b : List Int} (hx : a.length ≤ 1048576) (hN : 1048577 ≤ N) : Zq103 N a b = some ((decide (a = b), ()), ()) := by
 unfold Zq103
 rw [tLen_n, tLen_n]
 by_cases hl : a.length = b.length
 ·rw [ine_f (by omega), br_f]
  have := loop_all_if (P := a = b) (m := a.length) (L := fun K i => Zq103_l0 N (fun x => some ((x, ()), ())) (fun (_ : Unit) => some ((true, ()), ())) K a b i) (fun i => rdI a i = rdI b i) ⟨fun h i _ => by rw [h], fun h => List.ext_getElem hl fun i h1 h2 => by have := h i h1; rwa [rdI_n h1, rdI_n h2] at this⟩ (kt := some ((true, ()), ())) (kf := some ((false, ()), ())) (fun K n hn => ?_) (fun K n hn hp => ?_) (fun K n hn hp => ?_) (show a.length < N by omega)
  ·rw [show ((0 : Nat) : Int) = 0 from rfl] at this
   rw [this]
   by_cases h : a = b <;> simp [h]
  ·simp only [Zq103_l0, ilt_lenf hn, br_f]
  ·simp only [Zq103_l0, ilt_len hn, inb_n hn, inb_n (show n < b.length by omega), br_t, chk_t]
   rw [ine_f hp, br_f, wrap_succ (by omega)]
  ·simp only [Zq103_l0, ilt_len hn, inb_n hn, inb_n (show n < b.length by omega), br_t, chk_t]
   rw [ine_t hp, br_t]
 ·rw [ine_t (by omega), br_t]
  have : a ≠ b := fun h => hl (by rw [h])
  simp [this]
def putI (n : Int) : List Int → List Int
 | [] => [n]
 | y :: p => if y < n then y :: putI n p else if y = n then y :: p else n :: y :: p
theorem iter_app {p : Nat → Prop} [DecidablePred p] : ∀ (d n : Nat) (o : List Int), iter (fun n o => if p n then o ++ [(n : Int)] else o) d n o = o ++ ((List.range' n d).filter fun i => decide (p i)).map (fun i : Nat => (i : Int)) := by
 intro d
 induction d with
 | zero => intro n o; simp [iter]
 | succ d ih =>
  intro n o
  unfold iter
  rw [ih, List.range'_succ]
  by_cases h : p n <;> simp [h]
noncomputable def nbr (m : Nat) (es : List (Int × Int)) (x : Int) : List Int := ((List.range' 0 m).filter fun i : Nat => decide (nearG es x (i : Int))).map (fun i : Nat => (i : Int))
theorem mem_nbr {m : Nat} {es : List (Int × Int)} {x y : Int} : y ∈ nbr m es x ↔ ∃ i : Nat, i < m ∧ nearG es x i ∧ y = i := by
 unfold nbr
 rw [List.mem_map]
 constructor
 ·rintro ⟨i, hi, rfl⟩
  obtain ⟨h1, h2⟩ := List.mem_filter.1 hi
  exact ⟨i, by simpa using List.mem_range'_1.1 h1, of_decide_eq_true h2, rfl⟩
 ·rintro ⟨i, h1, h2, rfl⟩
  exact ⟨i, List.mem_filter.2 ⟨List.mem_range'_1.2 (by omega), decide_eq_true h2⟩, rfl⟩
theorem nbr_len (m : Nat) (es : List (Int × Int)) (x : Int) : (nbr m es x).length ≤ m := by
 unfold nbr
 rw [List.length_map]
 exact Nat.le_trans (List.length_filter_le ..) (by simp)
theorem near_ne {g : Int × List (Int × Int)} (hg : goodG g) {a : Int} : ¬ nearG g.2 a a := by
 rintro (h | h)
 ·have := goodG_edges hg _ h
  simp only at this
  omega
 ·have := goodG_edges hg _ h
  simp only at this
  omega
theorem neighbors_eq {N : Nat} {m : Nat} {es : List (Int × Int)} {x : Int} (hg : goodG ((m : Int), es)) (hx : es.length ≤ 1048576) (hN : 1048577 ≤ N) : Zq14 N ((m : Int), es) x = some ((nbr m es x, ()), ()) := by
 have hed : ∀ e ∈ es, e.1 < e.2 := fun e he => (goodG_edges hg e he).2.1
 have hm := hg.1
 simp only at hm
 unfold Zq14
 refine (loop_iter (L := fun K n o => Zq14_l0 N (fun o => some ((o, ()), ())) K x (m : Int) n (m : Int) es o) (k := fun o => some ((o, ()), ())) (Inv := fun n o => o.length ≤ n) (step := fun n o => if nearG es x (n : Int) then o ++ [(n : Int)] else o) (fun K n s hn _ => ?_) (fun K n s hn hs => ?_) (fun n s hn h => ?_) (s := []) (m := m) (K := N) (by omega) (Nat.zero_le _)).trans ?_
 ·simp only [Zq14_l0, ilt_nf hn, br_f]
 ·simp only [Zq14_l0, ilt_n hn, br_t, Graph_has_eq (g := ((m : Int), es)) hed hx hN, bind_some']
  rw [wrap_succ (by omega), room_ok (by simp; omega), chk_t]
  by_cases h : nearG es x (n : Int)
  ·have hne : (n : Int) ≠ x := fun e => near_ne hg (a := x) (by rw [e] at h; exact h)
   rw [ine_t hne, br_t, decide_eq_true h, br_t, if_pos h]
   rfl
  ·rw [if_neg h, decide_eq_false h, br_f, br_same]
 ·by_cases hc : nearG es x (n : Int)
  ·rw [if_pos hc]; simp; omega
  ·rw [if_neg hc]; omega
 ·rw [iter_app]
  rfl
theorem rdI_set {cs : List Int} {x : Nat} (hx : x < cs.length) (v y : Int) (hy : 0 ≤ y) : rdI (tSet cs (x : Int) v) y = if y = x then v else rdI cs y := by
 obtain ⟨n, rfl⟩ : ∃ n : Nat, y = n := ⟨y.toNat, by omega⟩
 rw [tSet_n]
 unfold rdI
 rw [Int.toNat_natCast, List.getD, List.getD, List.getElem?_set]
 by_cases h : x = n
 ·subst h
  simp [hx]
 ·have : ¬ ((n : Int) = (x : Int)) := by omega
  simp [h, this]
theorem wrap64 {n : Nat} (h : n < 18446744073709551616) : IntKind.u64.wrap (n : Int) = (n : Int) := by
 unfold IntKind.wrap
 simp only [IntKind.bits, IntKind.signed, Bool.false_and]
 have : (n : Int) % (2 ^ 64 : Int) = n := Int.emod_eq_of_lt (by omega) (by omega)
 rw [this]
 rfl
theorem ofInt64 {n : Nat} (h : n < 18446744073709551616) : (BitVec.ofInt 64 (n : Int)).toNat = n := by
 rw [BitVec.toNat_ofInt]
 omega
theorem orN {a b : Nat} (ha : a < 4294967296) (hb : b < 4294967296) : bitop .or .u64 (a : Int) (b : Int) = ((a ||| b : Nat) : Int) := by
 show IntKind.u64.wrap (((BitVec.ofInt 64 (a : Int) ||| BitVec.ofInt 64 (b : Int)).toNat : Nat) : Int) = _
 rw [BitVec.toNat_or, ofInt64 (by omega), ofInt64 (by omega)]
 have : a ||| b < 2 ^ 32 := Nat.or_lt_two_pow ha hb
 exact wrap64 (by omega)
theorem andN {a b : Nat} (ha : a < 4294967296) (hb : b < 4294967296) : bitop .and .u64 (a : Int) (b : Int) = ((a &&& b : Nat) : Int) := by
 show IntKind.u64.wrap (((BitVec.ofInt 64 (a : Int) &&& BitVec.ofInt 64 (b : Int)).toNat : Nat) : Int) = _
 rw [BitVec.toNat_and, ofInt64 (by omega), ofInt64 (by omega)]
 have : a &&& b < 2 ^ 32 := Nat.and_lt_two_pow _ hb
 exact wrap64 (by omega)
theorem shl8 : ∀ n : Nat, n < 9 → shlI .u64 1 (n : Int) = ((2 ^ n : Nat) : Int)
 | 0, _ => by kernel_rfl
 | 1, _ => by kernel_rfl
 | 2, _ => by kernel_rfl
 | 3, _ => by kernel_rfl
 | 4, _ => by kernel_rfl
 | 5, _ => by kernel_rfl
 | 6, _ => by kernel_rfl
 | 7, _ => by kernel_rfl
 | 8, _ => by kernel_rfl
 | n + 9, h => by omega
theorem bit8 {a c : Nat} (ha : a < 256) (hc : c < 8) : ieq (bitop .and .u64 (shrI .u64 (a : Int) (c : Int)) 1) 1 = a.testBit c := by
 have hk : ((List.range 256).all fun a => (List.range 8).all fun c => ieq (bitop .and .u64 (shrI .u64 (a : Int) (c : Int)) 1) 1 == a.testBit c) = true := by kernel_rfl
 exact eq_of_beq (List.all_eq_true.1 (List.all_eq_true.1 hk a (List.mem_range.2 ha)) c (List.mem_range.2 hc))
noncomputable def pcC (s : Nat) : Bool := match Zq60 0 (s : Int) with
 | some r => r.1.1 == (((List.range 8).filter fun c => s.testBit c).length : Int)
 | none => false
theorem pc256 {s : Nat} (hs : s < 256) (N : Nat) : Zq33 N (s : Int) = some (((((List.range 8).filter fun c => s.testBit c).length : Int), ()), ()) := by
 have hc : ((List.range 256).all pcC) = true := by kernel_rfl
 have h2 : pcC s = true := List.all_eq_true.1 hc s (List.mem_range.2 hs)
 have h3 : (((Zq60 0 (s : Int)).get rfl).1.1 == (((List.range 8).filter fun c => s.testBit c).length : Int)) = true := h2
 have h4 := eq_of_beq h3
 unfold Zq33 Zq59
 show some ((((Zq60 0 (s : Int)).get rfl).1.1, ()), ()) = _
 rw [h4]
theorem bagOf_eq {N : Nat} {xs : List Int} (hx : ∀ y ∈ xs, 0 ≤ y ∧ y < 8) (hl : xs.length ≤ 1048576) (hN : 1048577 ≤ N) : ∃ a : Nat, Zq30 N xs = some (((a : Int), ()), ()) ∧ a < 256 ∧ ∀ c, a.testBit c = true ↔ (c : Int) ∈ xs := by
 have key := loop_list (xs := xs) (L := fun K n s => Zq30_l0 N (fun out => some ((out, ()), ())) K s xs (xs.length : Int) n) (k := fun s => some ((s, ()), ())) (fun (s : Int) y => bitop .or .u64 s (shlI .u64 1 y))
  (fun n s => ∃ a : Nat, s = a ∧ a < 256 ∧ ∀ c, a.testBit c = true ↔ (c : Int) ∈ xs.take n) (fun K n s hn _ => ?_) (fun K n s hn _ => ?_) (fun n s hn h => ?_) (s := 0) (K := N) (by omega) ⟨0, rfl, by omega, fun c => by simp⟩
 ·obtain ⟨h1, a, h2, h3, h4⟩ := key
  refine ⟨a, ?_, h3, fun c => by rw [h4 c, List.take_length]⟩
  unfold Zq30
  rw [← h2, tLen_n]
  exact h1
 ·simp only [Zq30_l0, ilt_nf hn, br_f]
 ·have hy := hx _ (List.getElem_mem hn)
  simp only [Zq30_l0, ilt_n hn, br_t, inb_n hn, chk_t]
  rw [rdI_n hn, ile_t (by omega), chk_t, wrap_succ (by omega)]
 ·obtain ⟨a, h2, h3, h4⟩ := h
  have hy := hx _ (List.getElem_mem hn)
  obtain ⟨ny, ey⟩ : ∃ q : Nat, xs[n] = q := ⟨xs[n].toNat, by omega⟩
  have hny : ny < 8 := by omega
  have hp : 2 ^ ny < 256 := Nat.pow_lt_pow_right (n := 8) (by omega) hny
  refine ⟨a ||| 2 ^ ny, ?_, Nat.or_lt_two_pow (n := 8) h3 hp, fun c => ?_⟩
  ·rw [h2, ey, shl8 ny (by omega), orN (by omega) (by omega)]
  ·rw [Nat.testBit_or, Bool.or_eq_true, h4 c, Nat.testBit_two_pow, decide_eq_true_eq, List.take_add_one, List.getElem?_eq_getElem hn]
   simp only [Option.toList_some, List.mem_append, List.mem_singleton]
   constructor
   ·rintro (h | h)
    ·exact .inl h
    ·exact .inr (by rw [ey, h])
   ·rintro (h | h)
    ·exact .inl h
    ·rw [ey] at h
     exact .inr (by omega)
theorem bagList_eq {N : Nat} {a : Nat} (ha : a < 256) (hN : 1048577 ≤ N) : Zq32 N (a : Int) = some ((((List.range' 0 8).filter fun c => decide (a.testBit c = true)).map (fun c : Nat => (c : Int)), ()), ()) := by
 unfold Zq32
 refine (loop_iter (L := fun K n o => Zq32_l0 N (fun o => some ((o, ()), ())) K (a : Int) n o) (k := fun o => some ((o, ()), ())) (Inv := fun n o => o.length ≤ n) (step := fun n o => if a.testBit n = true then o ++ [(n : Int)] else o) (fun K n s hn _ => ?_) (fun K n s hn hs => ?_) (fun n s hn h => ?_) (s := []) (m := 8) (K := N) (by omega) (Nat.zero_le _)).trans ?_
 ·simp only [Zq32_l0]
  rw [ilt_f (by omega), br_f]
 ·simp only [Zq32_l0]
  rw [ilt_t (by omega), br_t, ile_t (by omega), chk_t, bit8 ha hn, wrap_succ (by omega), room_ok (by simp; omega), chk_t, br_ite]
  by_cases h : a.testBit n = true
  ·rw [if_pos h, if_pos h]
   rfl
  ·rw [if_neg h, if_neg h]
 ·by_cases hc : a.testBit n = true
  ·rw [if_pos hc]; simp; omega
  ·rw [if_neg hc]; omega
 ·rw [iter_app]
  rfl
theorem all8 : ∀ m : Nat, m ≤ 8 → IntKind.u64.wrap (shlI .u64 1 (m : Int) - 1) = ((2 ^ m - 1 : Nat) : Int)
 | 0, _ => by kernel_rfl
 | 1, _ => by kernel_rfl
 | 2, _ => by kernel_rfl
 | 3, _ => by kernel_rfl
 | 4, _ => by kernel_rfl
 | 5, _ => by kernel_rfl
 | 6, _ => by kernel_rfl
 | 7, _ => by kernel_rfl
 | 8, _ => by kernel_rfl
 | n + 9, h => by omega
theorem nodup_le : ∀ {a b : List Int}, a.Nodup → (∀ x ∈ a, x ∈ b) → a.length ≤ b.length := by
 intro a
 induction a with
 | nil => intro b _ _; exact Nat.zero_le _
 | cons x a ih =>
  intro b hn hs
  obtain ⟨h1, h2⟩ := List.nodup_cons.1 hn
  have hx := hs x (List.mem_cons_self ..)
  have := ih (b := b.erase x) h2 fun y hy => (List.mem_erase_of_ne (fun (e : y = x) => h1 (e ▸ hy))).2 (hs y (List.mem_cons_of_mem _ hy))
  rw [List.length_erase_of_mem hx] at this
  have := List.length_pos_of_mem hx
  rw [List.length_cons]
  omega
def strict (xs : List Int) : Prop := xs.Pairwise (· < ·)
theorem putI_mem (n z : Int) : ∀ p : List Int, z ∈ putI n p ↔ z = n ∨ z ∈ p := by
 intro p
 induction p with
 | nil => simp [putI]
 | cons y p ih =>
  unfold putI
  by_cases h : y < n
  ·rw [if_pos h, List.mem_cons, ih, List.mem_cons]
   constructor
   ·rintro (h | h | h)
    ·exact .inr (.inl h)
    ·exact .inl h
    ·exact .inr (.inr h)
   ·rintro (h | h | h)
    ·exact .inr (.inl h)
    ·exact .inl h
    ·exact .inr (.inr h)
  ·by_cases h' : y = n
   ·rw [if_neg h, if_pos h', List.mem_cons, h']
    constructor
    ·exact .inr
    ·rintro (h | h)
     ·exact .inl h
     ·exact h
   ·rw [if_neg h, if_neg h', List.mem_cons]
theorem putI_strict {n : Int} : ∀ {p : List Int}, strict p → strict (putI n p) := by
 intro p
 induction p with
 | nil => intro _; exact List.pairwise_singleton ..
 | cons y p ih =>
  intro h
  obtain ⟨h1, h2⟩ := List.pairwise_cons.1 h
  unfold putI
  by_cases hy : y < n
  ·rw [if_pos hy]
   refine List.pairwise_cons.2 ⟨fun z hz => ?_, ih h2⟩
   rcases (putI_mem n z p).1 hz with rfl | hz
   ·exact hy
   ·exact h1 z hz
  ·rw [if_neg hy]
   by_cases hy' : y = n
   ·rw [if_pos hy']; exact h
   ·rw [if_neg hy']
    refine List.pairwise_cons.2 ⟨fun z hz => ?_, h⟩
    rcases List.mem_cons.1 hz with rfl | hz
    ·omega
    ·have := h1 z hz
     omega
theorem strict_nodup {xs : List Int} (h : strict xs) : xs.Nodup := h.imp fun hab e => by omega
def inM (m : Nat) (o : List Int) : Prop := o.Nodup ∧ ∀ z ∈ o, 0 ≤ z ∧ z < (m : Int)
theorem inM_len {m : Nat} {o : List Int} (h : inM m o) : o.length ≤ m := by
 have := nodup_le (b := (List.range m).map fun i : Nat => (i : Int)) h.1 fun z hz => by
  have := h.2 z hz
  exact List.mem_map.2 ⟨z.toNat, List.mem_range.2 (by omega), by omega⟩
 simpa using this
theorem nearG_symm {es : List (Int × Int)} {a b : Int} : nearG es a b ↔ nearG es b a := ⟨fun h => h.elim .inr .inl, fun h => h.elim .inr .inl⟩
theorem rising_in {lo hi : Int} {xs : List Int} (h : rising lo hi xs) : ∀ x ∈ xs, lo ≤ x ∧ x ≤ hi := all_rdI.2 fun i hi => (h i hi).1
def InN (n : Nat) (x : Int) : Prop := 0 ≤ x ∧ x < (n : Int)
theorem nat_of {n : Nat} {x : Int} (h : InN n x) : ∃ i : Nat, i < n ∧ x = (i : Int) := by
 obtain ⟨h1, h2⟩ := h
 exact ⟨x.toNat, by omega, by omega⟩
theorem in_nat {n i : Nat} (h : i < n) : InN n (i : Int) := ⟨by omega, by omega⟩
inductive Wk (lists : List (List Int)) (x : Int) : Int → Prop
 | base : Wk lists x x
 | step {y z : Int} : Wk lists x y → z ∈ rdL lists y → Wk lists x z
def SpI (lists : List (List Int)) (m : Nat) (x : Int) (o q : List Int) : Prop :=
 o.length = m ∧ inM m q ∧ (∀ y, InN m y → (0 ≤ rdI o y ↔ y ∈ q)) ∧ (∀ y, InN m y → rdI o y < (q.length : Int)) ∧ ∀ y ∈ q, Wk lists x y
noncomputable def spF (u : Int) (s : List Int × List Int) (z : Int) : List Int × List Int := if rdI s.1 z < 0 then (tSet s.1 z (rdI s.1 u + 1), s.2 ++ [z]) else s
theorem spF_ok {lists : List (List Int)} {m : Nat} {x u z : Int} {s : List Int × List Int} (h : SpI lists m x s.1 s.2) (hu : u ∈ s.2) (hz : InN m z) (hr : z ∈ rdL lists u) : SpI lists m x (spF u s z).1 (spF u s z).2 ∧ (∃ t, (spF u s z).2 = s.2 ++ t) ∧ z ∈ (spF u s z).2 := by
 obtain ⟨h1, h2, h3, h4, h5⟩ := h
 unfold spF
 by_cases hc : rdI s.1 z < 0
 ·rw [if_pos hc]
  obtain ⟨i, hi, rfl⟩ := nat_of hz
  have hzq : ¬ (i : Int) ∈ s.2 := fun h => by have := (h3 _ hz).2 h; omega
  have hum : InN m u := h2.2 u hu
  have hu0 := (h3 u hum).2 hu
  have hu1 := h4 u hum
  refine ⟨⟨by simp only [tSet_n, List.length_set]; exact h1, ⟨?_, ?_⟩, ?_, ?_, ?_⟩, ⟨_, rfl⟩, by simp⟩
  ·refine List.nodup_append.2 ⟨h2.1, by simp, ?_⟩
   intro a ha b hb
   simp at hb
   rw [hb]
   exact fun e => hzq (e ▸ ha)
  ·intro y hy
   rcases List.mem_append.1 hy with h | h
   ·exact h2.2 y h
   ·simp at h; rw [h]; exact hz
  ·intro y hy
   simp only []
   rw [rdI_set (by omega) _ y hy.1, List.mem_append, List.mem_singleton]
   by_cases hyi : y = i
   ·rw [if_pos hyi]
    exact ⟨fun _ => .inr hyi, fun _ => by omega⟩
   ·rw [if_neg hyi, h3 y hy]
    exact ⟨.inl, fun h => h.elim _root_.id fun h => absurd h hyi⟩
  ·intro y hy
   simp only []
   rw [rdI_set (by omega) _ y hy.1, List.length_append, List.length_singleton]
   by_cases hyi : y = i
   ·rw [if_pos hyi]; omega
   ·rw [if_neg hyi]
    have := h4 y hy
    omega
  ·intro y hy
   rcases List.mem_append.1 hy with h | h
   ·exact h5 y h
   ·simp at h; rw [h]; exact .step (h5 u hu) hr
 ·rw [if_neg hc]
  exact ⟨⟨h1, h2, h3, h4, h5⟩, ⟨[], by simp⟩, (h3 z hz).1 (by omega)⟩
theorem rising_strict {lo hi : Int} : ∀ {L : List Int}, rising lo hi L → strict L := by
 intro L
 induction L with
 | nil => intro _; exact List.Pairwise.nil
 | cons x L ih =>
  intro h
  have h' : rising lo hi L := by
   intro i hi'
   have := h (i + 1) (by simp; omega)
   obtain ⟨h1, h2⟩ := this
   have e : ∀ k : Nat, rdI (x :: L) ((k + 1 : Nat) : Int) = rdI L (k : Int) := by intro k; simp [rdI]
   rw [e] at h1 h2
   refine ⟨h1, fun h0 => ?_⟩
   have := h2 (by omega)
   rw [show ((i + 1 - 1 : Nat) : Int) = ((i - 1 + 1 : Nat) : Int) by omega, e] at this
   exact this
  have hs := ih h'
  refine List.pairwise_cons.2 ⟨fun y hy => ?_, hs⟩
  cases L with
  | nil => exact absurd hy (by simp)
  | cons z L =>
   have h1 := (h 1 (by simp)).2 (by omega)
   have hxz : x < z := by simpa [rdI] using h1
   rcases List.mem_cons.1 hy with rfl | hy
   ·exact hxz
   ·have := (List.pairwise_cons.1 hs).1 y hy
    omega
structure Bfs (lists : List (List Int)) (m : Nat) (x : Int) (n : Nat) (o q : List Int) : Prop where
 spi : SpI lists m x o q
 xin : x ∈ q
 zero : rdI o x = 0
 srt : q.Pairwise fun a b => rdI o a ≤ rdI o b
 pre : ∀ y ∈ q, y = x ∨ ∃ u ∈ q, y ∈ rdL lists u ∧ rdI o y = rdI o u + 1
 clo : ∀ i : Nat, i < n → ∀ z ∈ rdL lists (rdI q i), z ∈ q ∧ rdI o z ≤ rdI o (rdI q i) + 1
 bnd : n < q.length → ∀ y ∈ q, rdI o y ≤ rdI o (rdI q n) + 1
theorem spF_keep {lists : List (List Int)} {m : Nat} {x u z : Int} {s : List Int × List Int} (h : SpI lists m x s.1 s.2) (hz : InN m z) : ∀ y ∈ s.2, rdI (spF u s z).1 y = rdI s.1 y := by
 intro y hy
 unfold spF
 by_cases hc : rdI s.1 z < 0
 ·rw [if_pos hc]
  obtain ⟨i, hi, rfl⟩ := nat_of hz
  have hyn : y ≠ (i : Int) := by
   rintro rfl
   have := (h.2.2.1 _ hz).2 hy
   omega
  simp only []
  rw [rdI_set (by rw [h.1]; exact hi) _ y (h.2.1.2 y hy).1, if_neg hyn]
 ·rw [if_neg hc]
theorem spF_new {u z : Int} {s : List Int × List Int} {m : Nat} (hl : s.1.length = m) (hz : InN m z) (hc : rdI s.1 z < 0) : rdI (spF u s z).1 z = rdI s.1 u + 1 ∧ (spF u s z).2 = s.2 ++ [z] := by
 unfold spF
 rw [if_pos hc]
 obtain ⟨i, hi, rfl⟩ := nat_of hz
 simp only []
 rw [rdI_set (by omega) _ _ hz.1, if_pos rfl]
 exact ⟨rfl, trivial⟩
theorem bfs_step {lists : List (List Int)} {m n : Nat} {x z : Int} {s : List Int × List Int} (h : Bfs lists m x n s.1 s.2) (hn : n < s.2.length) (hz : InN m z) (hr : z ∈ rdL lists (rdI s.2 n)) :
  Bfs lists m x n (spF (rdI s.2 n) s z).1 (spF (rdI s.2 n) s z).2 ∧ (∃ t, (spF (rdI s.2 n) s z).2 = s.2 ++ t) ∧ z ∈ (spF (rdI s.2 n) s z).2 ∧ rdI (spF (rdI s.2 n) s z).1 z ≤ rdI s.1 (rdI s.2 n) + 1 := by
 have hu : rdI s.2 n ∈ s.2 := by rw [rdI_n hn]; exact List.getElem_mem hn
 obtain ⟨f1, ⟨t, f2⟩, f3⟩ := spF_ok h.spi hu hz hr
 have hk := spF_keep (u := rdI s.2 n) h.spi hz
 have hget : ∀ i : Nat, i < s.2.length → rdI (spF (rdI s.2 n) s z).2 i = rdI s.2 i := by
  intro i hi
  rw [f2, rdI_n (by simp; omega), rdI_n hi, List.getElem_append_left hi]
 by_cases hc : rdI s.1 z < 0
 ·obtain ⟨g1, g2⟩ := spF_new (u := rdI s.2 n) h.spi.1 hz hc
  have hmem : ∀ y, y ∈ (spF (rdI s.2 n) s z).2 ↔ y ∈ s.2 ∨ y = z := by intro y; rw [g2]; simp
  refine ⟨⟨f1, (hmem _).2 (.inl h.xin), by rw [hk _ h.xin]; exact h.zero, ?_, ?_, ?_, ?_⟩, ⟨t, f2⟩, f3, by rw [g1]; exact Int.le_refl _⟩
  ·rw [g2]
   refine List.pairwise_append.2 ⟨?_, List.pairwise_singleton .., ?_⟩
   ·refine List.Pairwise.imp_of_mem (fun {a b} ha hb hab => ?_) h.srt
    rw [hk a ha, hk b hb]
    exact hab
   ·intro a ha b hb
    simp at hb
    subst hb
    rw [g1, hk a ha]
    exact h.bnd hn a ha
  ·intro y hy
   rcases (hmem y).1 hy with hy | rfl
   ·rcases h.pre y hy with rfl | ⟨u, hu1, hu2, hu3⟩
    ·exact .inl rfl
    ·exact .inr ⟨u, (hmem u).2 (.inl hu1), hu2, by rw [hk y hy, hk u hu1]; exact hu3⟩
   ·exact .inr ⟨_, (hmem _).2 (.inl hu), hr, by rw [g1, hk _ hu]⟩
  ·intro i hi y hy
   rw [hget i (by omega)] at hy ⊢
   obtain ⟨c1, c2⟩ := h.clo i hi y hy
   have : rdI s.2 i ∈ s.2 := by rw [rdI_n (by omega)]; exact List.getElem_mem _
   exact ⟨(hmem y).2 (.inl c1), by rw [hk _ c1, hk _ this]; exact c2⟩
  ·intro _ y hy
   rw [hget n hn, hk _ hu]
   rcases (hmem y).1 hy with hy | rfl
   ·rw [hk y hy]; exact h.bnd hn y hy
   ·rw [g1]; exact Int.le_refl _
 ·have e : spF (rdI s.2 n) s z = s := by unfold spF; rw [if_neg hc]
  rw [e] at f3 ⊢
  exact ⟨h, ⟨[], by simp⟩, f3, h.bnd hn z f3⟩
noncomputable def bfsR (lists : List (List Int)) : Nat → Nat → List Int → List Int → List Int
 | 0, _, o, _ => o
 | d + 1, n, o, q => if n < q.length then
   bfsR lists d (n + 1) ((rdL lists (rdI q n)).foldl (spF (rdI q n)) (o, q)).1 ((rdL lists (rdI q n)).foldl (spF (rdI q n)) (o, q)).2 else o
def okLists (lists : List (List Int)) (m : Nat) : Prop := lists.length = m ∧ ∀ l ∈ lists, l.length ≤ 1048576 ∧ ∀ z ∈ l, InN m z
theorem okL_row {lists : List (List Int)} {m : Nat} (h : okLists lists m) {u : Int} (hu : InN m u) : (rdL lists u).length ≤ 1048576 ∧ ∀ z ∈ rdL lists u, InN m z := by
 obtain ⟨i, hi, rfl⟩ := nat_of hu
 rw [rdL_n (by rw [h.1]; exact hi)]
 exact h.2 _ (List.getElem_mem _)
theorem bfs_round {lists : List (List Int)} {m n : Nat} {x : Int} (hl : okLists lists m) {o q : List Int} (h : Bfs lists m x n o q) (hn : n < q.length) : ∀ (row : List Int) (s : List Int × List Int), (∀ z ∈ row, z ∈ rdL lists (rdI q n)) → Bfs lists m x n s.1 s.2 → (∃ t, s.2 = q ++ t) → rdI s.1 (rdI q n) = rdI o (rdI q n) →
  Bfs lists m x n (row.foldl (spF (rdI q n)) s).1 (row.foldl (spF (rdI q n)) s).2 ∧ (∃ t, (row.foldl (spF (rdI q n)) s).2 = q ++ t) ∧ rdI (row.foldl (spF (rdI q n)) s).1 (rdI q n) = rdI o (rdI q n) ∧
   (∀ y ∈ s.2, y ∈ (row.foldl (spF (rdI q n)) s).2 ∧ rdI (row.foldl (spF (rdI q n)) s).1 y = rdI s.1 y) ∧ ∀ z ∈ row, z ∈ (row.foldl (spF (rdI q n)) s).2 ∧ rdI (row.foldl (spF (rdI q n)) s).1 z ≤ rdI o (rdI q n) + 1 := by
 intro row
 induction row with
 | nil => intro s _ h1 h2 h3; exact ⟨h1, h2, h3, fun y hy => ⟨hy, rfl⟩, by simp⟩
 | cons z row ih =>
  intro s hrow h1 h2 h3
  obtain ⟨t, ht⟩ := h2
  have hu : rdI q n ∈ q := by rw [rdI_n hn]; exact List.getElem_mem hn
  have hum := h.spi.2.1.2 _ hu
  have hz := (okL_row hl (show InN m (rdI q n) from hum)).2 z (hrow z (List.mem_cons_self ..))
  have hsn : rdI s.2 n = rdI q n := by rw [ht, rdI_n (by simp; omega), rdI_n hn, List.getElem_append_left hn]
  have hus : rdI q n ∈ s.2 := by rw [ht]; exact List.mem_append_left _ hu
  have hstep := bfs_step (n := n) (z := z) h1 (by rw [ht]; simp; omega) hz (by rw [hsn]; exact hrow z (List.mem_cons_self ..))
  rw [hsn] at hstep
  obtain ⟨g1, ⟨t', g2⟩, g3, g4⟩ := hstep
  have hk := spF_keep (u := rdI q n) h1.spi hz
  obtain ⟨i1, i2, i3, i4, i5⟩ := ih (spF (rdI q n) s z) (fun z' hz' => hrow z' (List.mem_cons_of_mem _ hz')) g1 ⟨t ++ t', by rw [g2, ht, List.append_assoc]⟩ (by rw [hk _ hus, h3])
  rw [List.foldl_cons]
  refine ⟨i1, i2, i3, fun y hy => ?_, fun y hy => ?_⟩
  ·have hy' : y ∈ (spF (rdI q n) s z).2 := by rw [g2]; exact List.mem_append_left _ hy
   obtain ⟨j1, j2⟩ := i4 y hy'
   exact ⟨j1, by rw [j2, hk y hy]⟩
  ·rcases List.mem_cons.1 hy with rfl | hy
   ·obtain ⟨j1, j2⟩ := i4 y g3
    rw [j2]
    exact ⟨j1, by rw [← h3]; exact g4⟩
   ·exact i5 y hy
theorem bfs_next {lists : List (List Int)} {m n : Nat} {x : Int} (hl : okLists lists m) {o q : List Int} (h : Bfs lists m x n o q) (hn : n < q.length) :
  Bfs lists m x (n + 1) ((rdL lists (rdI q n)).foldl (spF (rdI q n)) (o, q)).1 ((rdL lists (rdI q n)).foldl (spF (rdI q n)) (o, q)).2 ∧ ∃ t, ((rdL lists (rdI q n)).foldl (spF (rdI q n)) (o, q)).2 = q ++ t := by
 obtain ⟨h1, ⟨t, h2⟩, h3, h4, h5⟩ := bfs_round hl h hn (rdL lists (rdI q n)) (o, q) (fun _ h => h) h ⟨[], by simp⟩ rfl
 refine ⟨⟨h1.spi, h1.xin, h1.zero, h1.srt, h1.pre, fun i hi z hz => ?_, fun hn' y hy => ?_⟩, t, h2⟩
 ·have hget : rdI ((rdL lists (rdI q n)).foldl (spF (rdI q n)) (o, q)).2 i = rdI q i := by
   rw [h2, rdI_n (by simp; omega), rdI_n (by omega), List.getElem_append_left (by omega)]
  by_cases hin : i = n
  ·subst hin
   rw [hget] at hz ⊢
   obtain ⟨g1, g2⟩ := h5 z hz
   exact ⟨g1, by rw [h3]; exact g2⟩
  ·exact h1.clo i (by omega) z hz
 ·have hb := h1.bnd (by rw [h2]; simp; omega) y hy
  have hs := List.pairwise_iff_getElem.1 h1.srt n (n + 1) (by omega) hn' (by omega)
  have e1 := rdI_n (xs := ((rdL lists (rdI q n)).foldl (spF (rdI q n)) (o, q)).2) (n := n) (by omega)
  have e2 := rdI_n hn'
  rw [e1] at hb
  rw [e2]
  omega
theorem bfsR_ok {lists : List (List Int)} {m : Nat} {x : Int} (hl : okLists lists m) : ∀ (d n : Nat) (o q : List Int), n + d = m → n ≤ q.length → Bfs lists m x n o q → ∃ q', Bfs lists m x q'.length (bfsR lists d n o q) q' := by
 intro d
 induction d with
 | zero =>
  intro n o q hd hn h
  have := inM_len h.spi.2.1
  exact ⟨q, by rw [show q.length = n by omega]; exact h⟩
 | succ d ih =>
  intro n o q hd hn h
  unfold bfsR
  by_cases hq : n < q.length
  ·rw [if_pos hq]
   obtain ⟨h1, t, h2⟩ := bfs_next hl h hq
   exact ih (n + 1) _ _ (by omega) (by rw [h2]; simp; omega) h1
  ·rw [if_neg hq]
   exact ⟨q, by rw [show q.length = n by omega]; exact h⟩
noncomputable def bfsD (lists : List (List Int)) (m : Nat) (x : Int) : List Int := bfsR lists m 0 (tSet (List.replicate m (-1)) x 0) [x]
theorem bfs_init {lists : List (List Int)} {m : Nat} {x : Int} (hx : InN m x) : Bfs lists m x 0 (tSet (List.replicate m (-1)) x 0) [x] := by
 obtain ⟨i, hi, rfl⟩ := nat_of hx
 have hrep : ∀ y, InN m y → rdI (List.replicate m (-1 : Int)) y = -1 := by
  intro y hy
  obtain ⟨k, hk, rfl⟩ := nat_of hy
  rw [rdI_n (by simp; exact hk)]
  simp
 have hv : ∀ y, InN m y → rdI (tSet (List.replicate m (-1)) (i : Int) 0) y = if y = i then 0 else -1 := by
  intro y hy
  rw [rdI_set (by simp; exact hi) _ y hy.1]
  by_cases hyi : y = i
  ·rw [if_pos hyi, if_pos hyi]
  ·rw [if_neg hyi, if_neg hyi, hrep y hy]
 refine ⟨⟨by rw [tSet_n]; simp, ⟨by simp, fun z hz => by simp at hz; rw [hz]; exact hx⟩, fun y hy => ?_, fun y hy => ?_, fun y hy => by simp at hy; rw [hy]; exact .base⟩, by simp, ?_, List.pairwise_singleton .., fun y hy => .inl (by simpa using hy), fun i hi => absurd hi (Nat.not_lt_zero i), fun _ y hy => ?_⟩
 ·rw [hv y hy]
  by_cases hyi : y = i <;> simp [hyi]
 ·rw [hv y hy]
  by_cases hyi : y = i <;> simp [hyi]
 ·rw [hv _ hx, if_pos rfl]
 ·simp at hy
  have e0 : rdI [(i : Int)] ((0 : Nat) : Int) = i := by simp [rdI]
  rw [hy, e0, hv _ hx, if_pos rfl]
  omega
inductive Wl (lists : List (List Int)) (x : Int) : Nat → Int → Prop
 | base : Wl lists x 0 x
 | step {k : Nat} {y z : Int} : Wl lists x k y → z ∈ rdL lists y → Wl lists x (k + 1) z
theorem bfsD_spec {lists : List (List Int)} {m : Nat} {x : Int} (hl : okLists lists m) (hx : InN m x) :
  (bfsD lists m x).length = m ∧ rdI (bfsD lists m x) x = 0 ∧ (∀ y, InN m y → rdI (bfsD lists m x) y < m) ∧ (∀ y, InN m y → rdI (bfsD lists m x) y = 0 → y = x) ∧
   (∀ y, InN m y → 0 ≤ rdI (bfsD lists m x) y → Wl lists x (rdI (bfsD lists m x) y).toNat y) ∧ ∀ k y, Wl lists x k y → InN m y ∧ 0 ≤ rdI (bfsD lists m x) y ∧ rdI (bfsD lists m x) y ≤ k := by
 obtain ⟨q, h⟩ := bfsR_ok (x := x) hl m 0 _ [x] (by omega) (by simp) (bfs_init hx)
 have hqm := inM_len h.spi.2.1
 have e : bfsR lists m 0 (tSet (List.replicate m (-1)) x 0) [x] = bfsD lists m x := rfl
 rw [e] at h
 refine ⟨h.spi.1, h.zero, fun y hy => by have := h.spi.2.2.2.1 y hy; omega, fun y hy h0 => ?_, fun y hy h0 => ?_, fun k y hw => ?_⟩
 ·have hyq := (h.spi.2.2.1 y hy).1 (by omega)
  rcases h.pre y hyq with h1 | ⟨u, hu1, _, hu3⟩
  ·exact h1
  ·have := (h.spi.2.2.1 u (h.spi.2.1.2 u hu1)).2 hu1
   omega
 ·have key : ∀ (k : Nat) (y : Int), InN m y → rdI (bfsD lists m x) y = k → Wl lists x k y := by
   intro k
   induction k with
   | zero =>
    intro y hy hk
    have hyq := (h.spi.2.2.1 y hy).1 (by omega)
    rcases h.pre y hyq with h1 | ⟨u, hu1, _, hu3⟩
    ·rw [h1]; exact .base
    ·have := (h.spi.2.2.1 u (h.spi.2.1.2 u hu1)).2 hu1
     omega
   | succ k ih =>
    intro y hy hk
    have hyq := (h.spi.2.2.1 y hy).1 (by omega)
    rcases h.pre y hyq with h1 | ⟨u, hu1, hu2, hu3⟩
    ·rw [h1, h.zero] at hk; omega
    ·exact .step (ih u (h.spi.2.1.2 u hu1) (by omega)) hu2
  exact key _ y hy (by omega)
 ·have key : y ∈ q ∧ rdI (bfsD lists m x) y ≤ k := by
   induction hw with
   | base => exact ⟨h.xin, by rw [h.zero]; exact Int.le_refl _⟩
   | @step k y z _ hz ih =>
    obtain ⟨i, hi, rfl⟩ := List.getElem_of_mem ih.1
    have := h.clo i hi z (by rw [rdI_n hi]; exact hz)
    rw [rdI_n hi] at this
    exact ⟨this.1, by omega⟩
  exact ⟨h.spi.2.1.2 y key.1, (h.spi.2.2.1 y (h.spi.2.1.2 y key.1)).2 key.1, key.2⟩
theorem l2Spread_bfs {N : Nat} {lists : List (List Int)} {m : Nat} {x : Int} (hl : okLists lists m) (hm : m ≤ 1048575) (hx : InN m x) (hN : 1048577 ≤ N) : Zq115 N lists x = some ((bfsD lists m x, ()), ()) := by
 have go : ∀ (d n K : Nat) (o q : List Int), n + d = m → d < K → n ≤ q.length → Bfs lists m x n o q →
   Zq115_l1 N (fun o1 => some ((o1, ()), ())) K lists n o q = some ((bfsR lists d n o q, ()), ()) := by
  intro d
  induction d with
  | zero =>
   intro n K o q hd hK hn hs
   obtain ⟨k, rfl⟩ := succ_of hK
   have hqm := inM_len hs.spi.2.1
   simp only [Zq115_l1, ilt_lenf (show ¬ n < q.length by omega), br_f]
   rfl
  | succ d ih =>
   intro n K o q hd hK hn hs
   obtain ⟨k, rfl⟩ := succ_of hK
   have hqm := inM_len hs.spi.2.1
   unfold bfsR
   by_cases hnq : n < q.length
   ·have huq : rdI q n ∈ q := by rw [rdI_n hnq]; exact List.getElem_mem hnq
    have hum := hs.spi.2.1.2 _ huq
    obtain ⟨hr1, hr2⟩ := okL_row hl (show InN m (rdI q n) from hum)
    simp only [Zq115_l1, ilt_len hnq, br_t, inb_n hnq, chk_t]
    rw [inb_i hum.1 (by rw [hl.1]; exact hum.2), chk_t, if_pos hnq]
    have key := loop_list (xs := rdL lists (rdI q n)) (L := fun K' i (s : List Int × List Int) => Zq115_l1_0 N (fun x4 x5 o3 o4 => Zq115_l1 N (fun o1 => some ((o1, ()), ())) k x4 (IntKind.i64.wrap (x5 + 1)) o3 o4) K' lists n (rdL lists (rdI q n)) i s.1 s.2)
     (k := fun s => Zq115_l1 N (fun o1 => some ((o1, ()), ())) k lists (IntKind.i64.wrap ((n : Int) + 1)) s.1 s.2) (spF (rdI q n)) (fun i s => Bfs lists m x n s.1 s.2 ∧ ∃ t, s.2 = q ++ t) (fun K' i s hi _ => ?_) (fun K' i s hi hI => ?_) (fun i s hi hI => ?_) (s := (o, q)) (K := N) (by omega) ⟨hs, [], by simp⟩
    ·simp only [Int.natCast_zero] at key
     rw [key.1, wrap_succ (by omega)]
     obtain ⟨h1, t, h2⟩ := bfs_next hl hs hnq
     exact ih (n + 1) k _ _ (by omega) (by omega) (by rw [h2]; simp; omega) h1
    ·simp only [Zq115_l1_0, ilt_lenf hi, br_f]
    ·obtain ⟨hI1, ⟨t, ht⟩⟩ := hI
     have hz := hr2 _ (List.getElem_mem hi)
     have hsl := inM_len hI1.spi.2.1
     have hns : n < s.2.length := by rw [ht]; simp; omega
     have hrn : rdI s.2 n = rdI q n := by rw [ht, rdI_n (by simp; omega), rdI_n hnq, List.getElem_append_left hnq]
     have hus : rdI q n ∈ s.2 := by rw [ht]; exact List.mem_append_left _ huq
     have hval := (hI1.spi.2.2.1 _ hum).2 hus
     have hval2 := hI1.spi.2.2.2.1 _ hum
     have hlen := hI1.spi.1
     simp only [Zq115_l1_0, ilt_len hi, br_t, inb_n hi, chk_t, rdI_n hi]
     rw [inb_i hz.1 (by have := hz.2; omega), chk_t]
     unfold spF
     by_cases hcc : rdI s.1 (rdL lists (rdI q n))[i] < 0
     ·rw [ilt_t hcc, br_t, if_pos hcc, inb_n hns, chk_t, hrn, inb_i hum.1 (by rw [hlen]; exact hum.2), chk_t, chk_t, room_ok (by simp; omega), chk_t, wrap_succ (by omega), wrap_ok (by omega) (by omega), tApp_d]
     ·rw [ilt_f hcc, br_f, if_neg hcc, wrap_succ (by omega)]
    ·obtain ⟨hI1, ⟨t, ht⟩⟩ := hI
     have hns : n < s.2.length := by rw [ht]; simp; omega
     have hrn : rdI s.2 n = rdI q n := by rw [ht, rdI_n (by simp; omega), rdI_n hnq, List.getElem_append_left hnq]
     have := bfs_step hI1 hns (hr2 _ (List.getElem_mem hi)) (by rw [hrn]; exact List.getElem_mem hi)
     rw [hrn] at this
     obtain ⟨g1, ⟨t', g2⟩, _⟩ := this
     exact ⟨g1, t ++ t', by rw [g2, ht, List.append_assoc]⟩
   ·simp only [Zq115_l1, ilt_lenf hnq, br_f]
    rw [if_neg hnq]
 have fill : ∀ (d n K : Nat) (k0 : List (List Int) → Int → List Int → Option ((List Int × Unit) × Unit)), n + d = m → d < K →
   Zq115_l0 N k0 K lists x n (List.replicate n (-1) ++ List.replicate d 0) = k0 lists x (List.replicate m (-1)) := by
  intro d
  induction d with
  | zero =>
   intro n K k0 hd hK
   obtain ⟨k, rfl⟩ := succ_of hK
   have hln : (List.replicate n (-1 : Int) ++ List.replicate 0 0).length = n := by simp
   simp only [Zq115_l0, ilt_lenf (show ¬ n < (List.replicate n (-1 : Int) ++ List.replicate 0 0).length by omega), br_f]
   have : n = m := by omega
   subst this
   simp
  | succ d ih =>
   intro n K k0 hd hK
   obtain ⟨k, rfl⟩ := succ_of hK
   have hn : n < (List.replicate n (-1 : Int) ++ List.replicate (d + 1) 0).length := by simp
   simp only [Zq115_l0, ilt_len hn, br_t, inb_n hn, chk_t]
   rw [wrap_succ (by omega), ← ih (n + 1) k k0 (by omega) (by omega), tSet_n]
   congr 1
   rw [List.replicate_succ' (n := n), List.replicate_succ, List.set_append_right _ _ (by simp)]
   simp
 unfold Zq115
 rw [tLen_n, hl.1, ile_t (by omega), ile_t (Int.le_refl _), fits_ok (by omega)]
 simp only [Bool.and_self, chk_t]
 have hf := fill m 0 N (fun x x1 o => (chk (inb o x1) (Zq115_l1 N (fun o1 => some ((o1, ()), ())) N x 0 (tSet o x1 0) [x1]))) (by omega) (by omega)
 rw [tRep_n]
 simp only [Int.natCast_zero, List.replicate_zero, List.nil_append] at hf
 rw [hf, inb_i hx.1 (by simp; exact hx.2), chk_t]
 exact go m 0 N _ _ (by omega) (by omega) (by simp) (bfs_init hx)
end Go.Proofs.YtahehkidnfmfnaaGreat
