/- Statements on data alone. -/
import Derived.Test.YtkffaahlpdlkoaaGreatPvPure
import Derived.Test.YtkffaahlpdlkoaaGreatRecolouringFe
set_option linter.all false
set_option linter.all false
namespace Go.Proofs.YtkffaahlpdlkoaaGreat
open Go Go.PV Classical
theorem all_rdI {xs : List Int} {p : Int → Prop} : (∀ x ∈ xs, p x) ↔ ∀ i : Nat, i < xs.length → p (rdI xs i) := by
  constructor
  · intro h i hi
    rw [rdI_n hi]
    exact h _ (List.getElem_mem hi)
  · intro h x hx
    obtain ⟨i, hi, rfl⟩ := List.mem_iff_getElem.1 hx
    have := h i hi
    rwa [rdI_n hi] at this
theorem all_rdP {xs : List (Int × Int)} {p : Int × Int → Prop} : (∀ x ∈ xs, p x) ↔ ∀ i : Nat, i < xs.length → p (rdP xs i) := by
  constructor
  · intro h i hi
    rw [rdP_n hi]
    exact h _ (List.getElem_mem hi)
  · intro h x hx
    obtain ⟨i, hi, rfl⟩ := List.mem_iff_getElem.1 hx
    have := h i hi
    rwa [rdP_n hi] at this
theorem not_any {α : Type} {xs : List α} {f : α → Bool} : (!(xs.any f)) = decide (∀ x ∈ xs, f x = false) := by
  induction xs with
  | nil => simp
  | cons x xs ih =>
    rw [List.any_cons, Bool.not_or, ih]
    by_cases h : f x = true <;> simp [h]
def findAt {α : Type} (f : α → Bool) : List α → Nat → Int
  | [], _ => -1
  | x :: xs, n => if f x = true then (n : Int) else findAt f xs (n + 1)
theorem findAt_cons {α : Type} (f : α → Bool) (x : α) (xs : List α) (n : Nat) : findAt f (x :: xs) n = if f x = true then (n : Int) else findAt f xs (n + 1) := rfl
theorem findAt_ge {α : Type} (f : α → Bool) : ∀ (xs : List α) (n : Nat), decide (0 ≤ findAt f xs n) = xs.any f := by
  intro xs
  induction xs with
  | nil => intro n; rfl
  | cons x xs ih =>
    intro n
    unfold findAt
    by_cases h : f x = true
    · rw [if_pos h]
      simp [h]
    · rw [if_neg h, ih]
      simp [h]
theorem IndexFunc_LI_int_l0_eq {R : Type} (N : Nat) (k0 : Int → Option R) (k1 : Unit → Option R) (xs : List (Int)) (f : Int → Option Bool) (g : Int → Bool) (hf : ∀ x ∈ xs, f x = some (g x)) (hx : xs.length ≤ 1099511627776) : ∀ (d n : Nat) (K : Nat), n + d = xs.length → d < K →
    Zq65_l0 N k0 k1 K xs f (xs.length : Int) n = if (xs.drop n).any g = true then k0 (findAt g (xs.drop n) n) else k1 () := by
  intro d
  induction d with
  | zero =>
    intro n K hd hK
    obtain ⟨k, rfl⟩ := succ_of hK
    have hn : ¬ n < xs.length := by omega
    simp only [Zq65_l0, ilt_nf hn, br_f]
    rw [List.drop_of_length_le (by omega)]
    simp
  | succ d ih =>
    intro n K hd hK
    obtain ⟨k, rfl⟩ := succ_of hK
    have hn : n < xs.length := by omega
    simp only [Zq65_l0, ilt_n hn, inb_n hn, br_t, chk_t]
    obtain ⟨y, r, e1, e2, e3⟩ := drop_split hn
    rw [wrap_succ (by omega), rdI_n hn, ih (n + 1) k (by omega) (by omega), hf _ (List.getElem_mem hn), bind_some', br_ite, e1, e2, e3, findAt_cons]
    by_cases h : g y = true
    · simp [h]
    · simp [h]
theorem ContainsFunc_LI_int_eq {N : Nat} {xs : List (Int)} {f : Int → Option Bool} {g : Int → Bool} (hf : ∀ x ∈ xs, f x = some (g x)) (hx : xs.length ≤ 1099511627776) (hN : xs.length < N) :
    Zq59 N xs f = some ((xs.any g, ()), ()) := by
  unfold Zq59 Zq65
  have := IndexFunc_LI_int_l0_eq N (fun x => some ((x, ()), ())) (fun _ => some (((-1 : Int), ()), ())) xs f g hf hx xs.length 0 N (by omega) (by omega)
  simp only [Int.natCast_zero, List.drop_zero] at this
  rw [tLen_n, this]
  by_cases h : xs.any g = true
  · rw [if_pos h, bind_some', ile_d, findAt_ge]
  · rw [if_neg h, bind_some']
    simp only [Bool.not_eq_true] at h
    rw [h]
    rfl
theorem IndexFunc_LLI_LI_l0_eq {R : Type} (N : Nat) (k0 : Int → Option R) (k1 : Unit → Option R) (xs : List (List Int)) (f : List Int → Option Bool) (g : List Int → Bool) (hf : ∀ x ∈ xs, f x = some (g x)) (hx : xs.length ≤ 1099511627776) : ∀ (d n : Nat) (K : Nat), n + d = xs.length → d < K →
    Zq66_l0 N k0 k1 K xs f (xs.length : Int) n = if (xs.drop n).any g = true then k0 (findAt g (xs.drop n) n) else k1 () := by
  intro d
  induction d with
  | zero =>
    intro n K hd hK
    obtain ⟨k, rfl⟩ := succ_of hK
    have hn : ¬ n < xs.length := by omega
    simp only [Zq66_l0, ilt_nf hn, br_f]
    rw [List.drop_of_length_le (by omega)]
    simp
  | succ d ih =>
    intro n K hd hK
    obtain ⟨k, rfl⟩ := succ_of hK
    have hn : n < xs.length := by omega
    simp only [Zq66_l0, ilt_n hn, inb_n hn, br_t, chk_t]
    obtain ⟨y, r, e1, e2, e3⟩ := drop_split hn
    rw [wrap_succ (by omega), rdL_n hn, ih (n + 1) k (by omega) (by omega), hf _ (List.getElem_mem hn), bind_some', br_ite, e1, e2, e3, findAt_cons]
    by_cases h : g y = true
    · simp [h]
    · simp [h]
theorem ContainsFunc_LLI_LI_eq {N : Nat} {xs : List (List Int)} {f : List Int → Option Bool} {g : List Int → Bool} (hf : ∀ x ∈ xs, f x = some (g x)) (hx : xs.length ≤ 1099511627776) (hN : xs.length < N) :
    Zq60 N xs f = some ((xs.any g, ()), ()) := by
  unfold Zq60 Zq66
  have := IndexFunc_LLI_LI_l0_eq N (fun x => some ((x, ()), ())) (fun _ => some (((-1 : Int), ()), ())) xs f g hf hx xs.length 0 N (by omega) (by omega)
  simp only [Int.natCast_zero, List.drop_zero] at this
  rw [tLen_n, this]
  by_cases h : xs.any g = true
  · rw [if_pos h, bind_some', ile_d, findAt_ge]
  · rw [if_neg h, bind_some']
    simp only [Bool.not_eq_true] at h
    rw [h]
    rfl
theorem IndexFunc_LP_P2_l0_eq {R : Type} (N : Nat) (k0 : Int → Option R) (k1 : Unit → Option R) (xs : List (Int × Int)) (f : Int × Int → Option Bool) (g : Int × Int → Bool) (hf : ∀ x ∈ xs, f x = some (g x)) (hx : xs.length ≤ 1099511627776) : ∀ (d n : Nat) (K : Nat), n + d = xs.length → d < K →
    Zq67_l0 N k0 k1 K xs f (xs.length : Int) n = if (xs.drop n).any g = true then k0 (findAt g (xs.drop n) n) else k1 () := by
  intro d
  induction d with
  | zero =>
    intro n K hd hK
    obtain ⟨k, rfl⟩ := succ_of hK
    have hn : ¬ n < xs.length := by omega
    simp only [Zq67_l0, ilt_nf hn, br_f]
    rw [List.drop_of_length_le (by omega)]
    simp
  | succ d ih =>
    intro n K hd hK
    obtain ⟨k, rfl⟩ := succ_of hK
    have hn : n < xs.length := by omega
    simp only [Zq67_l0, ilt_n hn, inb_n hn, br_t, chk_t]
    obtain ⟨y, r, e1, e2, e3⟩ := drop_split hn
    rw [wrap_succ (by omega), rdP_n hn, ih (n + 1) k (by omega) (by omega), hf _ (List.getElem_mem hn), bind_some', br_ite, e1, e2, e3, findAt_cons]
    by_cases h : g y = true
    · simp [h]
    · simp [h]
theorem ContainsFunc_LP_P2_eq {N : Nat} {xs : List (Int × Int)} {f : Int × Int → Option Bool} {g : Int × Int → Bool} (hf : ∀ x ∈ xs, f x = some (g x)) (hx : xs.length ≤ 1099511627776) (hN : xs.length < N) :
    Zq61 N xs f = some ((xs.any g, ()), ()) := by
  unfold Zq61 Zq67
  have := IndexFunc_LP_P2_l0_eq N (fun x => some ((x, ()), ())) (fun _ => some (((-1 : Int), ()), ())) xs f g hf hx xs.length 0 N (by omega) (by omega)
  simp only [Int.natCast_zero, List.drop_zero] at this
  rw [tLen_n, this]
  by_cases h : xs.any g = true
  · rw [if_pos h, bind_some', ile_d, findAt_ge]
  · rw [if_neg h, bind_some']
    simp only [Bool.not_eq_true] at h
    rw [h]
    rfl
theorem l1In_eq (N : Nat) (x a b : Int) : Zq92 N x a b = some ((decide (a ≤ x ∧ x ≤ b), ()), ()) := by
  unfold Zq92
  rw [br_ite, ile_d, ile_d]
  by_cases h : a ≤ x <;> by_cases h' : x ≤ b <;> simp [h, h']
theorem between_eq (N : Nat) (n low high : Int) : Zq32 N n low high = some ((decide (low ≤ n ∧ n ≤ high), ()), ()) := by
  unfold Zq32
  rw [br_ite, ile_d, ile_d]
  by_cases h : low ≤ n <;> by_cases h' : n ≤ high <;> simp [h, h']
def risingAt (lo hi : Int) (xs : List Int) (i : Nat) : Prop := (lo ≤ rdI xs i ∧ rdI xs i ≤ hi) ∧ (0 < i → rdI xs ((i - 1 : Nat) : Int) < rdI xs i)
def rising (lo hi : Int) (xs : List Int) : Prop := ∀ i, i < xs.length → risingAt lo hi xs i
theorem isRising_eq {N : Nat} {m : Int} {xs : List Int} (hx : xs.length ≤ 1048576) (hm : 0 ≤ m ∧ m ≤ 4611686018427387904) (hN : 1048577 ≤ N) : Zq40 N xs m = some ((decide (rising 0 (m - 1) xs), ()), ()) := by
  unfold Zq40
  have := loop_all_if (P := rising 0 (m - 1) xs) (L := fun K i => Zq40_l0 N (fun x => some ((x, ()), ())) (fun (_ : Unit) => some ((true, ()), ())) K xs m xs (xs.length : Int) i) (risingAt 0 (m - 1) xs) Iff.rfl (kt := some ((true, ()), ())) (kf := some ((false, ()), ())) (fun K n hn => ?_) (fun K n hn hp => ?_) (fun K n hn hp => ?_) (show xs.length < N by omega)
  · rw [show ((0 : Nat) : Int) = 0 from rfl] at this
    rw [tLen_n, this]
    by_cases h : rising 0 (m - 1) xs <;> simp [h]
  · simp only [Zq40_l0, ilt_nf hn, br_f]
  · simp only [Zq40_l0, ilt_n hn, br_t, inb_n hn, chk_t, between_eq, bind_some', wrap_ok (show -9223372036854775808 ≤ m - 1 by omega) (show m - 1 < 9223372036854775808 by omega)]
    obtain ⟨h1, h2⟩ := hp
    rw [decide_eq_true h1, Bool.not_true, br_f]
    by_cases h0 : 0 < n
    · rw [ilt_0 h0, br_t, wrap_pred (by omega) h0, inb_n (by omega), chk_t, ile_f (by have := h2 h0; omega), br_f, wrap_succ (by omega)]
    · rw [ilt_0n h0, br_f, wrap_succ (by omega)]
  · simp only [Zq40_l0, ilt_n hn, br_t, inb_n hn, chk_t, between_eq, bind_some', wrap_ok (show -9223372036854775808 ≤ m - 1 by omega) (show m - 1 < 9223372036854775808 by omega)]
    by_cases h1 : 0 ≤ rdI xs n ∧ rdI xs n ≤ m - 1
    · rw [decide_eq_true h1, Bool.not_true, br_f]
      have h0 : 0 < n := by
        rcases Nat.eq_zero_or_pos n with h0 | h0
        · exact absurd ⟨h1, fun h' => by omega⟩ hp
        · exact h0
      have h4 : ¬ rdI xs ((n - 1 : Nat) : Int) < rdI xs n := fun h' => hp ⟨h1, fun _ => h'⟩
      rw [ilt_0 h0, br_t, wrap_pred (by omega) h0, inb_n (by omega), chk_t, ile_t (by omega), br_t]
    · rw [decide_eq_false h1, Bool.not_false, br_t]
theorem l1Own_eq {N : Nat} {xs : List Int} (h : xs.length ≤ 1048576) : Zq94 N xs = some ((xs, ()), ()) := by
  unfold Zq94
  rw [room_ok (by simp; omega), chk_t]
  rfl
theorem Clone_eq {N : Nat} {xs : List Int} (h : xs.length ≤ 1048576) : Zq57 N xs = some ((xs, ()), ()) := by
  unfold Zq57
  rw [room_ok (by simp; omega), chk_t, br_ite, ieq_d, tLen_n]
  by_cases h0 : xs = []
  · subst h0
    simp only [tApp_d, List.append_nil, amb_same]
    simp
  · rw [if_neg (by simpa using h0)]
    rfl
theorem l1Has_eq {N : Nat} {xs : List Int} {v : Int} (hx : xs.length ≤ 1048576) (hN : 1048577 ≤ N) : Zq91 N xs v = some ((decide (v ∈ xs), ()), ()) := by
  unfold Zq91
  have := loop_all_if (P := ∀ x ∈ xs, x ≠ v) (L := fun K i => Zq91_l0 N (fun x => some ((x, ()), ())) (fun (_ : Unit) => some ((false, ()), ())) K xs v i) (fun i => rdI xs i ≠ v) all_rdI (kt := some ((false, ()), ())) (kf := some ((true, ()), ())) (fun K n hn => ?_) (fun K n hn hp => ?_) (fun K n hn hp => ?_) (show xs.length < N by omega)
  · rw [show ((0 : Nat) : Int) = 0 from rfl] at this
    rw [this]
    by_cases h : v ∈ xs
    · rw [if_neg (fun h' => h' v h rfl), decide_eq_true h]
    · rw [if_pos (fun x hx (h' : x = v) => h (h' ▸ hx)), decide_eq_false h]
  · simp only [Zq91_l0, ilt_lenf hn, br_f]
  · simp only [Zq91_l0, ilt_len hn, br_t, inb_n hn, chk_t]
    rw [ieq_f hp, br_f, wrap_succ (by omega)]
  · simp only [Zq91_l0, ilt_len hn, br_t, inb_n hn, chk_t]
    rw [ieq_t (Decidable.not_not.1 hp), br_t]
theorem Contains_eq {N : Nat} {xs : List Int} {v : Int} (hx : xs.length ≤ 1048576) (hN : 1048577 ≤ N) : Zq62 N xs v = some ((decide (v ∈ xs), ()), ()) := by
  have go : ∀ (d n : Nat) (K : Nat), n + d = xs.length → d < K → ∃ i : Int, Zq68_l0 N (fun x => some ((x, ()), ())) (fun (_ : Unit) => some ((-1, ()), ())) K xs v (xs.length : Int) n = some ((i, ()), ()) ∧ decide (0 ≤ i) = decide (v ∈ xs.drop n) := by
    intro d
    induction d with
    | zero =>
      intro n K hd hK
      obtain ⟨k, rfl⟩ := succ_of hK
      have hn : ¬ n < xs.length := by omega
      simp only [Zq68_l0, ilt_nf hn, br_f]
      rw [List.drop_of_length_le (by omega)]
      exact ⟨-1, rfl, rfl⟩
    | succ d ih =>
      intro n K hd hK
      obtain ⟨k, rfl⟩ := succ_of hK
      have hn : n < xs.length := by omega
      simp only [Zq68_l0, ilt_n hn, br_t, inb_n hn, chk_t]
      obtain ⟨y, r, e1, e2, e3⟩ := drop_split hn
      rw [rdI_n hn, e1, e2]
      by_cases h : v = y
      · rw [ieq_t h, br_t]
        exact ⟨_, rfl, by simp [h]⟩
      · rw [ieq_f h, br_f, wrap_succ (by omega)]
        obtain ⟨i, h1, h2⟩ := ih (n + 1) k (by omega) (by omega)
        refine ⟨i, h1, ?_⟩
        rw [h2, e3]
        simp [h]
  unfold Zq62 Zq68
  obtain ⟨i, h1, h2⟩ := go xs.length 0 N (by omega) (by omega)
  simp only [Int.natCast_zero, List.drop_zero] at h1 h2
  rw [tLen_n, h1, bind_some', ile_d, h2]
def edgeLt (a b : Int × Int) : Prop := a.1 < b.1 ∨ a.1 = b.1 ∧ a.2 < b.2
def pairAt (m : Int) (es : List (Int × Int)) (i : Nat) : Prop := (0 ≤ (rdP es i).1 ∧ (rdP es i).1 < (rdP es i).2 ∧ (rdP es i).2 < m) ∧ (0 < i → edgeLt (rdP es ((i - 1 : Nat) : Int)) (rdP es i))
def goodG (g : Int × List (Int × Int)) : Prop := (0 ≤ g.1 ∧ g.1 ≤ 8) ∧ ∀ i, i < g.2.length → pairAt g.1 g.2 i
theorem goodG_edges {g : Int × List (Int × Int)} (h : goodG g) : ∀ e ∈ g.2, 0 ≤ e.1 ∧ e.1 < e.2 ∧ e.2 < g.1 :=
  all_rdP.2 fun i hi => (h.2 i hi).1
theorem l2Edge_eq (N : Nat) (a b : Int × Int) : Zq98 N a b = some ((decide (edgeLt a b), ()), ()) := by
  unfold Zq98 edgeLt
  by_cases h1 : a.1 < b.1
  · rw [ilt_t h1, br_t]; simp [h1]
  · rw [ilt_f h1, br_f]
    by_cases h2 : a.1 = b.1
    · rw [ieq_t h2, br_t, ilt_d]; simp [h2]
    · rw [ieq_f h2, br_f]; simp [h1, h2]
theorem compare_eq (N : Nat) (x y : Int) : Zq0 N x y = some ((if x < y then -1 else if y < x then 1 else 0, ()), ()) := by
  unfold Zq0 Zq2
  simp only [bind_some', ine_f (rfl : x = x), ine_f (rfl : y = y), br_f]
  by_cases h1 : x < y
  · rw [ilt_t h1, br_t, if_pos h1]
  · rw [ilt_f h1, br_f, if_neg h1]
    by_cases h2 : y < x
    · rw [ilt_t h2, br_t, if_pos h2]
    · rw [ilt_f h2, br_f, if_neg h2]
theorem Or2_eq {N : Nat} (hN : 1048577 ≤ N) (a b : Int) : Zq1 N [a, b] = some ((if a = 0 then b else a, ()), ()) := by
  obtain ⟨k, rfl⟩ : ∃ k, N = k + 3 := ⟨N - 3, by omega⟩
  unfold Zq1
  rw [show tLen [a, b] = 2 from rfl]
  simp only [Zq1_l0]
  rw [show inb [a, b] 0 = true from rfl, show rdI [a, b] 0 = a from rfl, show IntKind.i64.wrap (0 + 1) = 1 from rfl, show inb [a, b] 1 = true from rfl, show rdI [a, b] 1 = b from rfl, show IntKind.i64.wrap (1 + 1) = 2 from rfl, show ilt 0 2 = true from rfl, show ilt 1 2 = true from rfl, show ilt 2 2 = false from rfl, chk_t, chk_t, br_t, br_t, br_f]
  by_cases h : a = 0
  · rw [ine_f h, br_f, if_pos h]
    by_cases h' : b = 0
    · rw [ine_f h', br_f, h']
    · rw [ine_t h', br_t]
  · rw [ine_t h, br_t, if_neg h]
theorem comparePairs_eq {N : Nat} (hN : 1048577 ≤ N) (a b : Int × Int) : ∃ r : Int, Zq33 N a b = some ((r, ()), ()) ∧ (r < 0 ↔ edgeLt a b) ∧ (r = 0 ↔ a = b) := by
  obtain ⟨a1, a2⟩ := a
  obtain ⟨b1, b2⟩ := b
  unfold Zq33 edgeLt
  simp only [compare_eq, bind_some', Or2_eq hN]
  refine ⟨_, rfl, ?_, ?_⟩
  · by_cases h1 : a1 < b1
    · simp [h1]
    · by_cases h2 : b1 < a1
      · simp [h1, h2]; omega
      · have : a1 = b1 := by omega
        simp only [if_neg h1, if_neg h2, if_pos, this, Int.lt_irrefl, false_or, true_and]
        by_cases h3 : a2 < b2
        · simp [h3]
        · by_cases h4 : b2 < a2
          · simp [h3, h4]
          · simp [h3, h4]
  · rw [Prod.mk.injEq]
    by_cases h1 : a1 < b1
    · simp [h1]; omega
    · by_cases h2 : b1 < a1
      · simp [h1, h2]; omega
      · have : a1 = b1 := by omega
        simp only [if_neg h1, if_neg h2, if_pos, this, true_and]
        by_cases h3 : a2 < b2
        · simp [h3]; omega
        · by_cases h4 : b2 < a2
          · simp [h3, h4]; omega
          · simp [h3, h4]; omega
theorem l2Pairs_eq {N : Nat} {m : Int} {es : List (Int × Int)} (hm : 0 ≤ m ∧ m ≤ 8) (hx : es.length ≤ 1048576) (hN : 1048577 ≤ N) : Zq104 N es m = some ((decide (∀ i, i < es.length → pairAt m es i), ()), ()) := by
  unfold Zq104
  have := loop_all_if (P := ∀ i, i < es.length → pairAt m es i) (m := es.length) (L := fun K i => Zq104_l0 N (fun x => some ((x, ()), ())) (fun (_ : Unit) => some ((true, ()), ())) K es m i) (pairAt m es) Iff.rfl (kt := some ((true, ()), ())) (kf := some ((false, ()), ())) (fun K n hn => ?_) (fun K n hn hp => ?_) (fun K n hn hp => ?_) (show es.length < N by omega)
  · rw [show ((0 : Nat) : Int) = 0 from rfl] at this
    rw [this]
    by_cases h : ∀ i, i < es.length → pairAt m es i
    · rw [if_pos h, decide_eq_true h]
    · rw [if_neg h, decide_eq_false h]
  · simp only [Zq104_l0, ilt_lenf hn, br_f]
  · simp only [Zq104_l0, ilt_len hn, inb_n hn, br_t, chk_t, l1In_eq, l2Edge_eq, bind_some', wrap_ok (show -9223372036854775808 ≤ m - 1 by omega) (show m - 1 < 9223372036854775808 by omega)]
    obtain ⟨⟨p1, p2, p3⟩, p4⟩ := hp
    rw [decide_eq_true (show 0 ≤ (rdP es n).1 ∧ (rdP es n).1 ≤ m - 1 by omega), decide_eq_true (show 0 ≤ (rdP es n).2 ∧ (rdP es n).2 ≤ m - 1 by omega), Bool.not_true, br_f, br_f, ile_f (by omega), br_f]
    by_cases h0 : 0 < n
    · rw [ilt_0 h0, br_t, wrap_pred (by omega) h0, inb_n (by omega), chk_t, decide_eq_true (p4 h0), Bool.not_true, br_f, wrap_succ (by omega)]
    · rw [ilt_0n h0, br_f, wrap_succ (by omega)]
  · simp only [Zq104_l0, ilt_len hn, inb_n hn, br_t, chk_t, l1In_eq, l2Edge_eq, bind_some', wrap_ok (show -9223372036854775808 ≤ m - 1 by omega) (show m - 1 < 9223372036854775808 by omega)]
    by_cases q1 : 0 ≤ (rdP es n).1 ∧ (rdP es n).1 ≤ m - 1
    · rw [decide_eq_true q1, Bool.not_true, br_f]
      by_cases q2 : 0 ≤ (rdP es n).2 ∧ (rdP es n).2 ≤ m - 1
      · rw [decide_eq_true q2, Bool.not_true, br_f]
        by_cases q3 : (rdP es n).2 ≤ (rdP es n).1
        · rw [ile_t q3, br_t]
        · rw [ile_f q3, br_f]
          have h0 : 0 < n := by
            rcases Nat.eq_zero_or_pos n with h0 | h0
            · exact absurd ⟨⟨by omega, by omega, by omega⟩, fun h' => by omega⟩ hp
            · exact h0
          have h4 : ¬ edgeLt (rdP es ((n - 1 : Nat) : Int)) (rdP es n) := fun h' => hp ⟨⟨by omega, by omega, by omega⟩, fun _ => h'⟩
          rw [ilt_0 h0, br_t, wrap_pred (by omega) h0, inb_n (by omega), chk_t, decide_eq_false h4, Bool.not_false, br_t]
      · rw [decide_eq_false q2, Bool.not_false, br_t]
    · rw [decide_eq_false q1, Bool.not_false, br_t]
theorem isPairs_eq {N : Nat} {m : Int} {es : List (Int × Int)} (hm : 0 ≤ m ∧ m ≤ 8) (hx : es.length ≤ 1048576) (hN : 1048577 ≤ N) : Zq39 N es m = some ((decide (∀ i, i < es.length → pairAt m es i), ()), ()) := by
  unfold Zq39
  have := loop_all_if (P := ∀ i, i < es.length → pairAt m es i) (m := es.length) (L := fun K i => Zq39_l0 N (fun x => some ((x, ()), ())) (fun (_ : Unit) => some ((true, ()), ())) K es m es (es.length : Int) i) (pairAt m es) Iff.rfl (kt := some ((true, ()), ())) (kf := some ((false, ()), ())) (fun K n hn => ?_) (fun K n hn hp => ?_) (fun K n hn hp => ?_) (show es.length < N by omega)
  · rw [show ((0 : Nat) : Int) = 0 from rfl] at this
    rw [tLen_n, this]
    by_cases h : ∀ i, i < es.length → pairAt m es i
    · rw [if_pos h, decide_eq_true h]
    · rw [if_neg h, decide_eq_false h]
  · simp only [Zq39_l0, ilt_nf hn, br_f]
  · simp only [Zq39_l0, ilt_n hn, inb_n hn, br_t, chk_t]
    obtain ⟨⟨p1, p2, p3⟩, p4⟩ := hp
    rw [ilt_f (by omega), br_f, ile_f (by omega), br_f, ile_f (by omega), br_f]
    by_cases h0 : 0 < n
    · rw [ilt_0 h0, br_t, wrap_pred (by omega) h0, inb_n (by omega), chk_t]
      obtain ⟨r, r1, r2, _⟩ := comparePairs_eq hN (rdP es ((n - 1 : Nat) : Int)) ((rdP es n).1, (rdP es n).2)
      have := r2.2 (p4 h0)
      rw [r1]
      simp only [bind_some']
      rw [ile_f (by omega), br_f, wrap_succ (by omega)]
    · rw [ilt_0n h0, br_f, wrap_succ (by omega)]
  · simp only [Zq39_l0, ilt_n hn, inb_n hn, br_t, chk_t]
    by_cases q1 : (rdP es n).1 < 0
    · rw [ilt_t q1, br_t]
    · rw [ilt_f q1, br_f]
      by_cases q2 : (rdP es n).2 ≤ (rdP es n).1
      · rw [ile_t q2, br_t]
      · rw [ile_f q2, br_f]
        by_cases q3 : m ≤ (rdP es n).2
        · rw [ile_t q3, br_t]
        · rw [ile_f q3, br_f]
          have h0 : 0 < n := by
            rcases Nat.eq_zero_or_pos n with h0 | h0
            · exact absurd ⟨⟨by omega, by omega, by omega⟩, fun h' => by omega⟩ hp
            · exact h0
          have h4 : ¬ edgeLt (rdP es ((n - 1 : Nat) : Int)) (rdP es n) := fun h' => hp ⟨⟨by omega, by omega, by omega⟩, fun _ => h'⟩
          rw [ilt_0 h0, br_t, wrap_pred (by omega) h0, inb_n (by omega), chk_t]
          obtain ⟨r, r1, r2, _⟩ := comparePairs_eq hN (rdP es ((n - 1 : Nat) : Int)) ((rdP es n).1, (rdP es n).2)
          have : ¬ r < 0 := fun h => h4 (r2.1 h)
          rw [r1]
          simp only [bind_some']
          rw [ile_t (by omega), br_t]
theorem l2Good_eq {N : Nat} {g : Int × List (Int × Int)} (hx : g.2.length ≤ 1048576) (hN : 1048577 ≤ N) : Zq99 N g = some ((decide (goodG g), ()), ()) := by
  unfold Zq99
  rw [l1In_eq, bind_some']
  by_cases h : 0 ≤ g.1 ∧ g.1 ≤ 8
  · rw [decide_eq_true h, br_t, l2Pairs_eq h hx hN, bind_some']
    congr 3
    exact decide_eq_decide.2 ⟨fun h' => ⟨h, h'⟩, fun h' => h'.2⟩
  · rw [decide_eq_false h, br_f, decide_eq_false (show ¬ goodG g from fun h' => h h'.1)]
theorem IsGraph_eq {N : Nat} {g : Int × List (Int × Int)} (hx : g.2.length ≤ 1048576) (hN : 1048577 ≤ N) : Zq18 N g = some ((decide (goodG g), ()), ()) := by
  unfold Zq18
  rw [between_eq, bind_some']
  by_cases h : 0 ≤ g.1 ∧ g.1 ≤ 8
  · rw [decide_eq_true h, br_t, isPairs_eq h hx hN, bind_some']
    congr 3
    exact decide_eq_decide.2 ⟨fun h' => ⟨h, h'⟩, fun h' => h'.2⟩
  · rw [decide_eq_false h, br_f, decide_eq_false (show ¬ goodG g from fun h' => h h'.1)]
def colCase (g : Int × List (Int × Int)) (k : Int) : Prop := goodG g ∧ 1 ≤ k ∧ k ≤ 5
def proper (g : Int × List (Int × Int)) (k : Int) (cs : List Int) : Prop := (cs.length : Int) = g.1 ∧ (∀ x ∈ cs, 0 ≤ x ∧ x ≤ k - 1) ∧ ∀ e ∈ g.2, rdI cs e.1 ≠ rdI cs e.2
theorem l5Ask_eq {N : Nat} {g : Int × List (Int × Int)} {k : Int} (hx : g.2.length ≤ 1048576) (hN : 1048577 ≤ N) : Zq112 N g k = some ((decide (colCase g k), ()), ()) := by
  unfold Zq112 colCase
  simp only [l2Good_eq hx hN, bind_some', l1In_eq]
  by_cases h : goodG g <;> simp [h, br_ite]
theorem isColourCase_eq {N : Nat} {g : Int × List (Int × Int)} {k : Int} (hx : g.2.length ≤ 1048576) (hN : 1048577 ≤ N) : Zq35 N g k = some ((decide (colCase g k), ()), ()) := by
  unfold Zq35 colCase
  simp only [IsGraph_eq hx hN, bind_some', between_eq]
  by_cases h : goodG g <;> simp [h, br_ite]
theorem l5Proper_eq {N : Nat} {g : Int × List (Int × Int)} {k : Int} {cs : List Int} (hg : colCase g k) (hx : g.2.length ≤ 1048576) (hc : cs.length ≤ 1048576) (hN : 1048577 ≤ N) : Zq118 N g k cs = some ((decide (proper g k cs), ()), ()) := by
  unfold Zq118
  by_cases h : (cs.length : Int) = g.1
  · rw [tLen_n, ine_f h, br_f]
    have hed := goodG_edges hg.1
    obtain ⟨hg1, hk⟩ := hg
    obtain ⟨m, es⟩ := g
    simp only at h hx hed
    subst h
    have e1 := loop_all_if (P := ∀ e ∈ es, rdI cs e.1 ≠ rdI cs e.2) (m := es.length) (L := fun K i => Zq118_l1 N (fun x1 => some ((x1, ()), ())) (fun (_ : Unit) => some ((true, ()), ())) K cs i (cs.length : Int) es) (fun i => rdI cs (rdP es i).1 ≠ rdI cs (rdP es i).2) all_rdP (kt := some ((true, ()), ())) (kf := some ((false, ()), ())) (fun K n hn => ?_) (fun K n hn hp => ?_) (fun K n hn hp => ?_) (show es.length < N by omega)
    · have e2 := loop_all_if (P := ∀ x ∈ cs, 0 ≤ x ∧ x ≤ k - 1) (m := cs.length) (L := fun K i => Zq118_l0 N (fun x => some ((x, ()), ())) (fun colours1 o o1 => Zq118_l1 N (fun x1 => some ((x1, ()), ())) (fun (_ : Unit) => some ((true, ()), ())) N colours1 0 o o1) K k cs i (cs.length : Int) es) (fun i => 0 ≤ rdI cs i ∧ rdI cs i ≤ k - 1) all_rdI (kt := Zq118_l1 N (fun x1 => some ((x1, ()), ())) (fun (_ : Unit) => some ((true, ()), ())) N cs 0 (cs.length : Int) es) (kf := some ((false, ()), ())) (fun K n hn => ?_) (fun K n hn hp => ?_) (fun K n hn hp => ?_) (show cs.length < N by omega)
      · rw [show ((0 : Nat) : Int) = 0 from rfl] at e1 e2
        rw [e2, e1]
        by_cases q1 : ∀ x ∈ cs, 0 ≤ x ∧ x ≤ k - 1
        · rw [if_pos q1]
          by_cases q2 : ∀ e ∈ es, rdI cs e.1 ≠ rdI cs e.2
          · rw [if_pos q2, decide_eq_true (show proper ((cs.length : Int), es) k cs from ⟨rfl, q1, q2⟩)]
          · rw [if_neg q2, decide_eq_false (show ¬ proper ((cs.length : Int), es) k cs from fun h => q2 h.2.2)]
        · rw [if_neg q1, decide_eq_false (show ¬ proper ((cs.length : Int), es) k cs from fun h => q1 h.2.1)]
      · simp only [Zq118_l0, ilt_nf hn, br_f]
      · simp only [Zq118_l0, ilt_n hn, inb_n hn, br_t, chk_t, l1In_eq, bind_some', wrap_ok (show -9223372036854775808 ≤ k - 1 by omega) (show k - 1 < 9223372036854775808 by omega), decide_eq_true hp, Bool.not_true, br_f]
        rw [wrap_succ (by omega)]
      · simp only [Zq118_l0, ilt_n hn, inb_n hn, br_t, chk_t, l1In_eq, bind_some', wrap_ok (show -9223372036854775808 ≤ k - 1 by omega) (show k - 1 < 9223372036854775808 by omega), decide_eq_false hp, Bool.not_false, br_t]
    · simp only [Zq118_l1, ilt_lenf hn, br_f]
    · have he := hed _ (List.getElem_mem hn)
      rw [← rdP_n hn] at he
      simp only [Zq118_l1, ilt_len hn, inb_n hn, br_t, chk_t]
      rw [inb_i (by omega) (by omega), inb_i (by omega) (by omega), chk_t, chk_t, ieq_f hp, br_f, wrap_succ (by omega)]
    · have he := hed _ (List.getElem_mem hn)
      rw [← rdP_n hn] at he
      simp only [Zq118_l1, ilt_len hn, inb_n hn, br_t, chk_t]
      rw [inb_i (by omega) (by omega), inb_i (by omega) (by omega), chk_t, chk_t, ieq_t (Decidable.not_not.1 hp), br_t]
  · rw [tLen_n, ine_t h, br_t, decide_eq_false (show ¬ proper g k cs from fun h' => h h'.1)]
theorem impl_isColouring_eq {N : Nat} {g : Int × List (Int × Int)} {k : Int} {cs : List Int} (hg : colCase g k) (hx : g.2.length ≤ 1048576) (hc : cs.length ≤ 1048576) (hN : 1048577 ≤ N) : Zq12 N g k cs = some ((decide (proper g k cs), ()), ()) := by
  unfold Zq12
  by_cases h : (cs.length : Int) = g.1
  · rw [tLen_n, ine_f h, br_f]
    have hed := goodG_edges hg.1
    obtain ⟨hg1, hk⟩ := hg
    rw [ContainsFunc_LI_int_eq (g := fun x => !decide (0 ≤ x ∧ x ≤ k - 1)) (fun x _ => by simp only [Zq13, between_eq, bind_some', wrap_ok (show -9223372036854775808 ≤ k - 1 by omega) (show k - 1 < 9223372036854775808 by omega)]) (by omega) (by omega), bind_some',
      ContainsFunc_LP_P2_eq (g := fun e => decide (rdI cs e.1 = rdI cs e.2)) (fun e he => by
        have := hed e he
        simp only [Zq14, inb_i (show 0 ≤ e.1 by omega) (show e.1 < cs.length by omega), inb_i (show 0 ≤ e.2 by omega) (show e.2 < cs.length by omega), chk_t, bind_some', ieq_d]) (by omega) (by omega), bind_some', not_any]
    by_cases q1 : ∀ x ∈ cs, 0 ≤ x ∧ x ≤ k - 1
    · have q1' : (cs.any fun x => !decide (0 ≤ x ∧ x ≤ k - 1)) = false := by
        rw [List.any_eq_false]
        intro x hx
        simp [q1 x hx]
      rw [q1', br_f]
      congr 3
      exact decide_eq_decide.2 ⟨fun q2 => ⟨h, q1, fun e he => by simpa using q2 e he⟩, fun h' e he => by simpa using h'.2.2 e he⟩
    · have q1' : (cs.any fun x => !decide (0 ≤ x ∧ x ≤ k - 1)) = true := by
        refine Classical.byContradiction fun hn => q1 fun x hx => ?_
        have := List.any_eq_false.1 (Bool.eq_false_iff.2 hn) x hx
        simpa using this
      rw [q1', br_t, decide_eq_false (show ¬ proper g k cs from fun h' => q1 h'.2.1)]
  · rw [tLen_n, ine_t h, br_t, decide_eq_false (show ¬ proper g k cs from fun h' => h h'.1)]
def nearG (es : List (Int × Int)) (a b : Int) : Prop := (a, b) ∈ es ∨ (b, a) ∈ es
theorem l2Near_eq {N : Nat} {g : Int × List (Int × Int)} {a b : Int} (hx : g.2.length ≤ 1048576) (hN : 1048577 ≤ N) : Zq102 N g a b = some ((decide (nearG g.2 a b), ()), ()) := by
  obtain ⟨m, es⟩ := g
  simp only at hx
  unfold Zq102
  have := loop_all_if (P := ∀ e ∈ es, ¬ (e = (a, b) ∨ e = (b, a))) (m := es.length) (L := fun K i => Zq102_l0 N (fun x => some ((x, ()), ())) (fun (_ : Unit) => some ((false, ()), ())) K a b i m es) (fun i => ¬ (rdP es i = (a, b) ∨ rdP es i = (b, a))) all_rdP (kt := some ((false, ()), ())) (kf := some ((true, ()), ())) (fun K n hn => ?_) (fun K n hn hp => ?_) (fun K n hn hp => ?_) (show es.length < N by omega)
  · rw [show ((0 : Nat) : Int) = 0 from rfl] at this
    rw [this]
    by_cases h : nearG es a b
    · rw [if_neg (fun h' => by
        rcases h with h | h
        · exact h' _ h (Or.inl rfl)
        · exact h' _ h (Or.inr rfl)), decide_eq_true h]
    · rw [if_pos (fun e he h' => by
        rcases h' with h' | h'
        · exact h (Or.inl (h' ▸ he))
        · exact h (Or.inr (h' ▸ he))), decide_eq_false h]
  · simp only [Zq102_l0, ilt_lenf hn, br_f]
  · simp only [Zq102_l0, ilt_len hn, inb_n hn, br_t, chk_t]
    rw [wrap_succ (by omega)]
    rw [show rdP es n = ((rdP es n).1, (rdP es n).2) from rfl, Prod.mk.injEq, Prod.mk.injEq] at hp
    by_cases q1 : (rdP es n).1 = a
    · rw [ieq_t q1, br_t, ieq_f (fun h => hp (Or.inl ⟨q1, h⟩)), br_f]
      by_cases q2 : (rdP es n).1 = b
      · rw [ieq_t q2, br_t, ieq_f (fun h => hp (Or.inr ⟨q2, h⟩)), br_f]
      · rw [ieq_f q2, br_f]
    · rw [ieq_f q1, br_f]
      by_cases q2 : (rdP es n).1 = b
      · rw [ieq_t q2, br_t, ieq_f (fun h => hp (Or.inr ⟨q2, h⟩)), br_f]
      · rw [ieq_f q2, br_f]
  · simp only [Zq102_l0, ilt_len hn, inb_n hn, br_t, chk_t]
    rw [Decidable.not_not, show rdP es n = ((rdP es n).1, (rdP es n).2) from rfl, Prod.mk.injEq, Prod.mk.injEq] at hp
    by_cases q0 : (rdP es n).1 = a ∧ (rdP es n).2 = b
    · rw [ieq_t q0.1, br_t, ieq_t q0.2, br_t]
    · have hp' := hp.resolve_left q0
      rw [ieq_t hp'.1, ieq_t hp'.2, br_t, br_t]
      by_cases q1 : (rdP es n).1 = a
      · rw [ieq_t q1, br_t, ieq_f (fun h => q0 ⟨q1, h⟩), br_f]
      · rw [ieq_f q1, br_f]
theorem ContainsP_eq {N : Nat} {xs : List (Int × Int)} {v : Int × Int} (hx : xs.length ≤ 1048576) (hN : 1048577 ≤ N) : Zq63 N xs v = some ((decide (v ∈ xs), ()), ()) := by
  obtain ⟨a, b⟩ := v
  have go : ∀ (d n : Nat) (K : Nat), n + d = xs.length → d < K → ∃ i : Int, Zq69_l0 N (fun x => some ((x, ()), ())) (fun (_ : Unit) => some ((-1, ()), ())) K xs (xs.length : Int) n a b = some ((i, ()), ()) ∧ decide (0 ≤ i) = decide ((a, b) ∈ xs.drop n) := by
    intro d
    induction d with
    | zero =>
      intro n K hd hK
      obtain ⟨k, rfl⟩ := succ_of hK
      have hn : ¬ n < xs.length := by omega
      simp only [Zq69_l0, ilt_nf hn, br_f]
      rw [List.drop_of_length_le (by omega)]
      exact ⟨-1, rfl, rfl⟩
    | succ d ih =>
      intro n K hd hK
      obtain ⟨k, rfl⟩ := succ_of hK
      have hn : n < xs.length := by omega
      simp only [Zq69_l0, ilt_n hn, br_t, inb_n hn, chk_t]
      obtain ⟨⟨y1, y2⟩, r, e1, e2, e3⟩ := drop_split hn
      rw [rdP_n hn, e1, e2]
      simp only
      by_cases h : a = y1 ∧ b = y2
      · rw [ieq_t h.1, ieq_t h.2, Bool.and_self, br_t]
        exact ⟨_, rfl, by simp [h.1, h.2]⟩
      · have hq : (ieq a y1 && ieq b y2) = false := by
          rw [ieq_d, ieq_d, ← Bool.decide_and]
          exact decide_eq_false h
        rw [hq, br_f, wrap_succ (by omega)]
        obtain ⟨i, h1, h2⟩ := ih (n + 1) k (by omega) (by omega)
        refine ⟨i, h1, ?_⟩
        rw [h2, e3]
        simp [h]
  unfold Zq63 Zq69
  obtain ⟨i, h1, h2⟩ := go xs.length 0 N (by omega) (by omega)
  simp only [Int.natCast_zero, List.drop_zero] at h1 h2
  rw [tLen_n]
  simp only [h1, bind_some']
  rw [ile_d, h2]
theorem Graph_has_eq {N : Nat} {g : Int × List (Int × Int)} {a b : Int} (hed : ∀ e ∈ g.2, e.1 < e.2) (hx : g.2.length ≤ 1048576) (hN : 1048577 ≤ N) : Zq11 N g a b = some ((decide (nearG g.2 a b), ()), ()) := by
  unfold Zq11 Zq42
  simp only [bind_some', ContainsP_eq hx hN]
  congr 3
  refine decide_eq_decide.2 ⟨fun h => ?_, fun h => ?_⟩
  · by_cases h1 : b < a
    · rw [if_pos h1, if_neg (by omega)] at h
      exact Or.inr h
    · rw [if_neg h1] at h
      by_cases h2 : b > a
      · rw [if_pos h2] at h
        exact Or.inl h
      · have : a = b := by omega
        rw [if_neg h2] at h
        exact Or.inl (by rw [← this]; exact h)
  · rcases h with h | h
    · have := hed _ h
      simp only at this
      rw [if_neg (by omega), if_pos (by omega)]
      exact h
    · have := hed _ h
      simp only at this
      rw [if_pos (by omega), if_neg (by omega)]
      exact h
theorem near_in {g : Int × List (Int × Int)} (hg : goodG g) {a b : Int} (h : nearG g.2 a b) : (0 ≤ a ∧ a < g.1) ∧ 0 ≤ b ∧ b < g.1 := by
  rcases h with h | h
  · have := goodG_edges hg _ h
    simp only at this
    omega
  · have := goodG_edges hg _ h
    simp only at this
    omega
def insI (x : Int) : List Int → List Int
  | [] => [x]
  | y :: p => if y ≤ x then y :: insI x p else x :: y :: p
def sortI (xs : List Int) : List Int := xs.foldl (fun p x => insI x p) []
def asc (xs : List Int) : Prop := xs.Pairwise (· ≤ ·)
theorem insI_len (x : Int) : ∀ p : List Int, (insI x p).length = p.length + 1 := by
  intro p
  induction p with
  | nil => rfl
  | cons y p ih =>
    unfold insI
    by_cases h : y ≤ x
    · rw [if_pos h, List.length_cons, ih, List.length_cons]
    · rw [if_neg h, List.length_cons, List.length_cons]
theorem insI_mem (x z : Int) : ∀ p : List Int, z ∈ insI x p ↔ z = x ∨ z ∈ p := by
  intro p
  induction p with
  | nil => simp [insI]
  | cons y p ih =>
    unfold insI
    by_cases h : y ≤ x
    · rw [if_pos h, List.mem_cons, ih, List.mem_cons]
      constructor
      · rintro (h | h | h)
        · exact .inr (.inl h)
        · exact .inl h
        · exact .inr (.inr h)
      · rintro (h | h | h)
        · exact .inr (.inl h)
        · exact .inl h
        · exact .inr (.inr h)
    · rw [if_neg h, List.mem_cons]
theorem insI_asc {x : Int} : ∀ {p : List Int}, asc p → asc (insI x p) := by
  intro p
  induction p with
  | nil => intro _; exact List.pairwise_singleton ..
  | cons y p ih =>
    intro h
    obtain ⟨h1, h2⟩ := List.pairwise_cons.1 h
    unfold insI
    by_cases hy : y ≤ x
    · rw [if_pos hy]
      refine List.pairwise_cons.2 ⟨fun z hz => ?_, ih h2⟩
      rcases (insI_mem x z p).1 hz with rfl | hz
      · exact hy
      · exact h1 z hz
    · rw [if_neg hy]
      refine List.pairwise_cons.2 ⟨fun z hz => ?_, h⟩
      rcases List.mem_cons.1 hz with rfl | hz
      · omega
      · have := h1 z hz
        omega
theorem sortI_len_asc (xs : List Int) : (sortI xs).length = xs.length ∧ asc (sortI xs) := by
  have go : ∀ (xs p : List Int), asc p → (xs.foldl (fun p x => insI x p) p).length = p.length + xs.length ∧ asc (xs.foldl (fun p x => insI x p) p) := by
    intro xs
    induction xs with
    | nil => intro p hp; exact ⟨rfl, hp⟩
    | cons x xs ih =>
      intro p hp
      obtain ⟨h1, h2⟩ := ih (insI x p) (insI_asc hp)
      refine ⟨?_, h2⟩
      rw [List.foldl_cons, h1, insI_len, List.length_cons]
      omega
  have := go xs [] List.Pairwise.nil
  unfold sortI
  simpa using this
theorem rdI_mid (q s : List Int) (x : Int) : rdI (q ++ x :: s) ((q.length : Nat) : Int) = x := by simp [rdI]
theorem asc_perm : ∀ {a b : List Int}, asc a → asc b → a.Perm b → a = b := by
  intro a
  induction a with
  | nil => intro b _ _ hp; exact (List.nil_perm.1 hp).symm
  | cons x a ih =>
    intro b ha hb hp
    cases b with
    | nil => exact absurd (List.perm_nil.1 hp) (by simp)
    | cons y b =>
      obtain ⟨a1, a2⟩ := List.pairwise_cons.1 ha
      obtain ⟨b1, b2⟩ := List.pairwise_cons.1 hb
      have e : x = y := by
        have h1 : x ∈ y :: b := hp.mem_iff.1 (List.mem_cons_self ..)
        have h2 : y ∈ x :: a := hp.mem_iff.2 (List.mem_cons_self ..)
        rcases List.mem_cons.1 h1 with h1 | h1
        · exact h1
        · rcases List.mem_cons.1 h2 with h2 | h2
          · exact h2.symm
          · have := a1 y h2
            have := b1 x h1
            omega
      subst e
      rw [ih a2 b2 (List.Perm.cons_inv hp)]
theorem insI_perm (x : Int) : ∀ p : List Int, (insI x p).Perm (x :: p) := by
  intro p
  induction p with
  | nil => exact List.Perm.refl _
  | cons y p ih =>
    unfold insI
    by_cases h : y ≤ x
    · rw [if_pos h]
      exact (List.Perm.cons y ih).trans (List.Perm.swap ..)
    · rw [if_neg h]
theorem sortI_perm (xs : List Int) : (sortI xs).Perm xs := by
  have go : ∀ (xs q : List Int), (xs.foldl (fun p x => insI x p) q).Perm (xs ++ q) := by
    intro xs
    induction xs with
    | nil => intro q; exact List.Perm.refl _
    | cons x xs ih =>
      intro q
      refine (ih (insI x q)).trans ?_
      exact ((insI_perm x q).append_left xs).trans List.perm_middle
  have := go xs []
  rw [List.append_nil] at this
  exact this
theorem mergeI_asc (xs : List Int) : asc (mergeI xs) := by
  have := List.pairwise_mergeSort (le := fun x y : Int => decide (x ≤ y)) (fun a b c h1 h2 => by simp at *; omega) (fun a b => by simp; omega) xs
  exact this.imp fun h => by simpa using h
theorem mergeI_perm (xs : List Int) : (mergeI xs).Perm xs := List.mergeSort_perm ..
theorem mergeI_sortI (xs : List Int) : mergeI xs = sortI xs := asc_perm (mergeI_asc xs) (sortI_len_asc xs).2 ((mergeI_perm xs).trans (sortI_perm xs).symm)
theorem Sort_any {N : Nat} {xs : List Int} (hx : xs.length < 4611686018427387904) : Zq72 N xs = some ((), (mergeI xs, ())) := by
  unfold Zq72 sortIF
  rw [if_pos hx]
theorem Sort_eq {N : Nat} {xs : List Int} (hx : xs.length ≤ 12) (hN : 1048577 ≤ N) : Zq72 N xs = some ((), (sortI xs, ())) := by
  rw [Sort_any (by omega), mergeI_sortI]
theorem Sort_asc {N : Nat} {xs : List Int} (h : asc xs) (hx : xs.length < 1024) (hN : 1048577 ≤ N) : Zq72 N xs = some ((), (xs, ())) := by
  rw [Sort_any (by omega)]
  congr 3
  exact asc_perm (mergeI_asc xs) h (mergeI_perm xs)
theorem Equal_eq {N : Nat} {a b : List Int} (hx : a.length ≤ 1048576) (hN : 1048577 ≤ N) : Zq64 N a b = some ((decide (a = b), ()), ()) := by
  unfold Zq64
  rw [tLen_n, tLen_n]
  by_cases hl : a.length = b.length
  · rw [ine_f (by omega), br_f]
    have := loop_all_if (P := a = b) (m := a.length) (L := fun K i => Zq64_l0 N (fun x => some ((x, ()), ())) (fun (_ : Unit) => some ((true, ()), ())) K a b (a.length : Int) i) (fun i => rdI a i = rdI b i) ⟨fun h i _ => by rw [h], fun h => List.ext_getElem hl fun i h1 h2 => by have := h i h1; rwa [rdI_n h1, rdI_n h2] at this⟩ (kt := some ((true, ()), ())) (kf := some ((false, ()), ())) (fun K n hn => ?_) (fun K n hn hp => ?_) (fun K n hn hp => ?_) (show a.length < N by omega)
    · rw [show ((0 : Nat) : Int) = 0 from rfl] at this
      rw [this]
      by_cases h : a = b <;> simp [h]
    · simp only [Zq64_l0, ilt_nf hn, br_f]
    · simp only [Zq64_l0, ilt_n hn, inb_n hn, inb_n (show n < b.length by omega), br_t, chk_t]
      rw [ine_f hp, br_f, wrap_succ (by omega)]
    · simp only [Zq64_l0, ilt_n hn, inb_n hn, inb_n (show n < b.length by omega), br_t, chk_t]
      rw [ine_t hp, br_t]
  · rw [ine_t (by omega), br_t]
    have : a ≠ b := fun h => hl (by rw [h])
    simp [this]
theorem l1Same_eq {N : Nat} {a b : List Int} (hx : a.length ≤ 1048576) (hN : 1048577 ≤ N) : Zq96 N a b = some ((decide (a = b), ()), ()) := by
  unfold Zq96
  rw [tLen_n, tLen_n]
  by_cases hl : a.length = b.length
  · rw [ine_f (by omega), br_f]
    have := loop_all_if (P := a = b) (m := a.length) (L := fun K i => Zq96_l0 N (fun x => some ((x, ()), ())) (fun (_ : Unit) => some ((true, ()), ())) K a b i) (fun i => rdI a i = rdI b i) ⟨fun h i _ => by rw [h], fun h => List.ext_getElem hl fun i h1 h2 => by have := h i h1; rwa [rdI_n h1, rdI_n h2] at this⟩ (kt := some ((true, ()), ())) (kf := some ((false, ()), ())) (fun K n hn => ?_) (fun K n hn hp => ?_) (fun K n hn hp => ?_) (show a.length < N by omega)
    · rw [show ((0 : Nat) : Int) = 0 from rfl] at this
      rw [this]
      by_cases h : a = b <;> simp [h]
    · simp only [Zq96_l0, ilt_lenf hn, br_f]
    · simp only [Zq96_l0, ilt_len hn, inb_n hn, inb_n (show n < b.length by omega), br_t, chk_t]
      rw [ine_f hp, br_f, wrap_succ (by omega)]
    · simp only [Zq96_l0, ilt_len hn, inb_n hn, inb_n (show n < b.length by omega), br_t, chk_t]
      rw [ine_t hp, br_t]
  · rw [ine_t (by omega), br_t]
    have : a ≠ b := fun h => hl (by rw [h])
    simp [this]
def putI (n : Int) : List Int → List Int
  | [] => [n]
  | y :: p => if y < n then y :: putI n p else if y = n then y :: p else n :: y :: p
theorem putI_ins {n : Int} : ∀ {p : List Int}, n ∉ p → putI n p = insI n p := by
  intro p
  induction p with
  | nil => intro _; rfl
  | cons y p ih =>
    intro h
    have h1 : n ≠ y := fun e => h (e ▸ List.mem_cons_self ..)
    have h2 : n ∉ p := fun e => h (List.mem_cons_of_mem _ e)
    unfold putI insI
    by_cases hy : y < n
    · rw [if_pos hy, if_pos (by omega), ih h2]
    · rw [if_neg hy, if_neg (fun e => h1 e.symm), if_neg (by omega)]
theorem fold_put : ∀ (xs p : List Int), xs.Nodup → (∀ x ∈ xs, x ∉ p) → xs.foldl (fun p x => putI x p) p = xs.foldl (fun p x => insI x p) p := by
  intro xs
  induction xs with
  | nil => intro p _ _; rfl
  | cons x xs ih =>
    intro p hn hp
    obtain ⟨h1, h2⟩ := List.nodup_cons.1 hn
    rw [List.foldl_cons, List.foldl_cons, putI_ins (hp x (List.mem_cons_self ..))]
    refine ih _ h2 fun y hy hm => ?_
    rcases (insI_mem x y p).1 hm with rfl | hm
    · exact h1 hy
    · exact hp y (List.mem_cons_of_mem _ hy) hm
theorem l1Put_eq {N : Nat} {o : List Int} {n : Int} (ho : o.length ≤ 1048576) (hN : 1048577 ≤ N) : Zq95 N o n = some ((putI n o, ()), ()) := by
  have go : ∀ (q p : List Int) (K : Nat), q.length < K → (p ++ q).length ≤ 1048576 → Zq95_l0 N (fun n1 kv o => (br (ilt kv (tLen o))
    ((chk (inb o kv)
      (br (ieq (rdI o kv) n1)
      (some ((o, ()), ()))
      ((chk (ile 0 0 && ile 0 kv && ile kv (tLen o))
        (chk (room (α := Int) (β := Int) [] (tCut o 0 kv))
        (chk (room (tApp [] (tCut o 0 kv)) [n1])
        (chk (ile 0 kv && ile kv (tLen o) && ile (tLen o) (tLen o))
        (chk (room (tApp (tApp [] (tCut o 0 kv)) [n1]) (tCut o kv (tLen o)))
        (some (((tApp (tApp (tApp [] (tCut o 0 kv)) [n1]) (tCut o kv (tLen o))), ()), ())))))))))))
    ((chk (ile 0 0 && ile 0 kv && ile kv (tLen o))
      (chk (room (α := Int) (β := Int) [] (tCut o 0 kv))
      (chk (room (tApp [] (tCut o 0 kv)) [n1])
      (chk (ile 0 kv && ile kv (tLen o) && ile (tLen o) (tLen o))
      (chk (room (tApp (tApp [] (tCut o 0 kv)) [n1]) (tCut o kv (tLen o)))
      (some (((tApp (tApp (tApp [] (tCut o 0 kv)) [n1]) (tCut o kv (tLen o))), ()), ())))))))))) K n ((p.length : Nat) : Int) (p ++ q) = some ((p ++ putI n q, ()), ()) := by
    intro q
    have cuts : ∀ p q : List Int, tCut (p ++ q) 0 ((p.length : Nat) : Int) = p ∧ tCut (p ++ q) ((p.length : Nat) : Int) (tLen (p ++ q)) = q := fun p q => ⟨by simp [tCut], by rw [tLen_n, tCut_n, List.take_length, List.drop_left]⟩
    have c1 : ∀ p q : List Int, (ile 0 0 && ile 0 ((p.length : Nat) : Int) && ile ((p.length : Nat) : Int) (tLen (p ++ q))) = true := fun p q => by
      rw [ile_t (Int.le_refl 0), ile_t (by omega), ile_t (by simp [tLen]; omega)]; rfl
    have c2 : ∀ p q : List Int, (ile 0 ((p.length : Nat) : Int) && ile ((p.length : Nat) : Int) (tLen (p ++ q)) && ile (tLen (p ++ q)) (tLen (p ++ q))) = true := fun p q => by
      rw [ile_t (Int.le_refl (tLen _)), ile_t (by omega), ile_t (by simp [tLen]; omega)]; rfl
    induction q with
    | nil =>
      intro p K hK hl
      obtain ⟨k, rfl⟩ := succ_of hK
      have hlt : ¬ p.length < (p ++ ([] : List Int)).length := by simp
      simp only [Zq95_l0, ilt_lenf hlt, br_f, (cuts p []).1, (cuts p []).2, c1, c2, chk_t]
      rw [room_ok (by simp at hl ⊢; omega), room_ok (by simp [tApp] at hl ⊢; omega), room_ok (by simp [tApp] at hl ⊢; omega), chk_t, chk_t, chk_t]
      simp [tApp, putI]
    | cons y q ih =>
      intro p K hK hl
      obtain ⟨k, rfl⟩ := succ_of hK
      have hlt : p.length < (p ++ y :: q).length := by simp
      simp only [Zq95_l0, ilt_len hlt, br_t, inb_n hlt, chk_t, rdI_mid]
      by_cases hy : y < n
      · have := ih (p ++ [y]) k (by simp at hK; omega) (by simpa using hl)
        rw [ilt_t hy, br_t, wrap_succ (by simp at hl; omega)]
        simp only [List.append_assoc, List.singleton_append, List.length_append, List.length_singleton] at this
        rw [this]
        simp [putI, hy]
      · rw [ilt_f hy, br_f]
        by_cases hyn : y = n
        · rw [ieq_t hyn, br_t]
          simp [putI, hy, hyn]
        · rw [ieq_f hyn, br_f, c1, chk_t, c2, chk_t, (cuts p (y :: q)).1, (cuts p (y :: q)).2]
          rw [room_ok (by simp at hl ⊢; omega), room_ok (by simp [tApp] at hl ⊢; omega), room_ok (by simp [tApp] at hl ⊢; omega), chk_t, chk_t, chk_t]
          simp [tApp, putI, hy, hyn]
  unfold Zq95
  exact go o [] N (by omega) (by simpa using ho)
theorem iter_app {p : Nat → Prop} [DecidablePred p] : ∀ (d n : Nat) (o : List Int), iter (fun n o => if p n then o ++ [(n : Int)] else o) d n o = o ++ ((List.range' n d).filter fun i => decide (p i)).map (fun i : Nat => (i : Int)) := by
  intro d
  induction d with
  | zero => intro n o; simp [iter]
  | succ d ih =>
    intro n o
    unfold iter
    rw [ih, List.range'_succ]
    by_cases h : p n <;> simp [h]
noncomputable def nbr (m : Nat) (es : List (Int × Int)) (x : Int) : List Int := ((List.range' 0 m).filter fun i : Nat => decide (nearG es x (i : Int))).map (fun i : Nat => (i : Int))
theorem mem_nbr {m : Nat} {es : List (Int × Int)} {x y : Int} : y ∈ nbr m es x ↔ ∃ i : Nat, i < m ∧ nearG es x i ∧ y = i := by
  unfold nbr
  rw [List.mem_map]
  constructor
  · rintro ⟨i, hi, rfl⟩
    obtain ⟨h1, h2⟩ := List.mem_filter.1 hi
    exact ⟨i, by simpa using List.mem_range'_1.1 h1, of_decide_eq_true h2, rfl⟩
  · rintro ⟨i, h1, h2, rfl⟩
    exact ⟨i, List.mem_filter.2 ⟨List.mem_range'_1.2 (by omega), decide_eq_true h2⟩, rfl⟩
theorem nbr_len (m : Nat) (es : List (Int × Int)) (x : Int) : (nbr m es x).length ≤ m := by
  unfold nbr
  rw [List.length_map]
  exact Nat.le_trans (List.length_filter_le ..) (by simp)
theorem near_ne {g : Int × List (Int × Int)} (hg : goodG g) {a : Int} : ¬ nearG g.2 a a := by
  rintro (h | h)
  · have := goodG_edges hg _ h
    simp only at this
    omega
  · have := goodG_edges hg _ h
    simp only at this
    omega
theorem neighbors_eq {N : Nat} {m : Nat} {es : List (Int × Int)} {x : Int} (hg : goodG ((m : Int), es)) (hx : es.length ≤ 1048576) (hN : 1048577 ≤ N) : Zq16 N ((m : Int), es) x = some ((nbr m es x, ()), ()) := by
  have hed : ∀ e ∈ es, e.1 < e.2 := fun e he => (goodG_edges hg e he).2.1
  have hm := hg.1
  simp only at hm
  unfold Zq16
  refine (loop_iter (L := fun K n o => Zq16_l0 N (fun o => some ((o, ()), ())) K x (m : Int) n (m : Int) es o) (k := fun o => some ((o, ()), ())) (Inv := fun n o => o.length ≤ n) (step := fun n o => if nearG es x (n : Int) then o ++ [(n : Int)] else o) (fun K n s hn _ => ?_) (fun K n s hn hs => ?_) (fun n s hn h => ?_) (s := []) (m := m) (K := N) (by omega) (Nat.zero_le _)).trans ?_
  · simp only [Zq16_l0, ilt_nf hn, br_f]
  · simp only [Zq16_l0, ilt_n hn, br_t, Graph_has_eq (g := ((m : Int), es)) hed hx hN, bind_some']
    rw [wrap_succ (by omega), room_ok (by simp; omega), chk_t]
    by_cases h : nearG es x (n : Int)
    · have hne : (n : Int) ≠ x := fun e => near_ne hg (a := x) (by rw [e] at h; exact h)
      rw [ine_t hne, br_t, decide_eq_true h, br_t, if_pos h]
      rfl
    · rw [if_neg h, decide_eq_false h, br_f, br_same]
  · by_cases hc : nearG es x (n : Int)
    · rw [if_pos hc]; simp; omega
    · rw [if_neg hc]; omega
  · rw [iter_app]
    rfl
theorem rdI_set {cs : List Int} {x : Nat} (hx : x < cs.length) (v y : Int) (hy : 0 ≤ y) : rdI (tSet cs (x : Int) v) y = if y = x then v else rdI cs y := by
  obtain ⟨n, rfl⟩ : ∃ n : Nat, y = n := ⟨y.toNat, by omega⟩
  rw [tSet_n]
  unfold rdI
  rw [Int.toNat_natCast, List.getD, List.getD, List.getElem?_set]
  by_cases h : x = n
  · subst h
    simp [hx]
  · have : ¬ ((n : Int) = (x : Int)) := by omega
    simp [h, this]
def stillAt (k : Int) (es : List (Int × Int)) (cs : List Int) (x : Nat) : Prop := ∀ c : Nat, (c : Int) < k → (c : Int) = rdI cs x ∨ ∃ y : Int, nearG es x y ∧ rdI cs y = c
theorem not_proper {g : Int × List (Int × Int)} {k : Int} {cs : List Int} {x : Nat} {c : Int} (hg : goodG g) (hp : proper g k cs) (hx : x < cs.length) (hc : 0 ≤ c ∧ c < k) : ¬ proper g k (tSet cs (x : Int) c) ↔ ∃ y : Int, nearG g.2 x y ∧ rdI cs y = c := by
  obtain ⟨p1, p2, p3⟩ := hp
  constructor
  · intro h
    refine Classical.byContradiction fun hno => h ⟨by rw [tSet_n, List.length_set]; exact p1, fun z hz => ?_, fun e he => ?_⟩
    · rw [tSet_n] at hz
      rcases List.mem_or_eq_of_mem_set hz with hz | hz
      · exact p2 z hz
      · omega
    · have hin := goodG_edges hg e he
      rw [rdI_set hx _ _ (by omega), rdI_set hx _ _ (by omega)]
      by_cases h1 : e.1 = x
      · have h2 : e.2 ≠ x := by omega
        rw [if_pos h1, if_neg h2]
        exact fun h3 => hno ⟨e.2, .inl (by rw [← h1]; exact he), h3.symm⟩
      · rw [if_neg h1]
        by_cases h2 : e.2 = x
        · rw [if_pos h2]
          exact fun h3 => hno ⟨e.1, .inr (by rw [← h2]; exact he), h3⟩
        · rw [if_neg h2]
          exact p3 e he
  · rintro ⟨y, hn, hy⟩ ⟨_, _, h3⟩
    have hne : y ≠ x := fun e => near_ne hg (a := y) (by rw [← e] at hn; exact hn)
    obtain ⟨⟨a1, a2⟩, b1, b2⟩ := near_in hg hn
    rcases hn with hn | hn
    · have := h3 _ hn
      simp only at this
      rw [rdI_set hx _ _ a1, rdI_set hx _ _ b1, if_pos rfl, if_neg hne] at this
      exact this hy.symm
    · have := h3 _ hn
      simp only at this
      rw [rdI_set hx _ _ a1, rdI_set hx _ _ b1, if_pos rfl, if_neg hne] at this
      exact this hy
theorem iter_and {p : Nat → Prop} : ∀ (d n : Nat) (b : Bool), iter (fun n s => s && decide (p n)) d n b = (b && decide (∀ i, n ≤ i → i < n + d → p i)) := by
  intro d
  induction d with
  | zero => intro n b; simp [iter]; intro _ i h1 h2; omega
  | succ d ih =>
    intro n b
    unfold iter
    rw [ih, Bool.and_assoc, ← Bool.decide_and]
    congr 1
    refine decide_eq_decide.2 ⟨fun ⟨h1, h2⟩ i hi hd => ?_, fun h => ⟨h n (Nat.le_refl _) (by omega), fun i hi hd => h i (by omega) (by omega)⟩⟩
    by_cases e : i = n
    · rw [e]; exact h1
    · exact h2 i (by omega) (by omega)
noncomputable def stillL (k : Int) (m : Nat) (es : List (Int × Int)) (cs : List Int) : List Int := iter (fun n o => if stillAt k es cs n then o ++ [(n : Int)] else o) m 0 []
noncomputable def stillR (g : Int × List (Int × Int)) (k : Int) (cs : List Int) : List Int × Bool := if colCase g k ∧ proper g k cs then (stillL k g.1.toNat g.2 cs, true) else ([], false)
theorem stillR_len (g : Int × List (Int × Int)) (k : Int) (cs : List Int) : (stillR g k cs).1.length ≤ 8 := by
  unfold stillR
  by_cases h : colCase g k ∧ proper g k cs
  · rw [if_pos h]
    have := iter_inv (f := fun n (o : List Int) => if stillAt k g.2 cs n then o ++ [(n : Int)] else o) (Inv := fun n o => o.length ≤ n) (d := g.1.toNat) (n := 0) (s := []) (Nat.zero_le _) fun i s _ _ hs => by
      by_cases hc : stillAt k g.2 cs i
      · simp only [if_pos hc]; simp; omega
      · simp only [if_neg hc]; omega
    have := h.1.1.1
    simp only [stillL]
    omega
  · rw [if_neg h]
    exact Nat.zero_le _
def stillC (m kn : Nat) (es : List (Int × Int)) (cs : List Int) (n c : Nat) : Prop := (c : Int) = rdI cs n ∨ ¬ proper ((m : Int), es) kn (tSet cs n c)
theorem Still_in_eq {R : Type} {N : Nat} (k0 : Int → List Int → Int → Bool → Int → List (Int × Int) → List Int → Option R) {kn m n : Nat} {es : List (Int × Int)} {cs o5 : List Int} (hc : colCase ((m : Int), es) kn) (hp : proper ((m : Int), es) kn cs) (hn : n < cs.length) (hx : es.length ≤ 1048576) (hcs : cs.length ≤ 1048576) (hN : 1048577 ≤ N) :
    Zq81_l0_0 N k0 N (kn : Int) cs n true 0 (m : Int) es o5 = k0 kn cs n (decide (stillAt kn es cs n)) m es o5 := by
  have hk := hc.2
  refine (loop_iter (L := fun K c b => Zq81_l0_0 N k0 K (kn : Int) cs n b c (m : Int) es o5) (k := fun b => k0 kn cs n b m es o5) (Inv := fun _ _ => True) (step := fun c b => b && decide (stillC m kn es cs n c)) (fun K c s hc' _ => ?_) (fun K c s hc' _ => ?_) (fun _ _ _ _ => trivial) (s := true) (m := kn) (K := N) (by omega) trivial).trans ?_
  · simp only [Zq81_l0_0, ilt_nf hc', br_f]
  · have hl : (tSet cs (n : Int) (c : Int)).length ≤ 1048576 := by rw [tSet_n, List.length_set]; exact hcs
    simp only [Zq81_l0_0, ilt_n hc', br_t, l1Own_eq hcs, bind_some', inb_n hn, chk_t, l5Proper_eq (g := ((m : Int), es)) hc hx hl hN]
    rw [wrap_succ (by omega)]
    cases s with
    | false => rw [br_f, Bool.false_and]
    | true =>
      rw [br_t, Bool.true_and]
      by_cases h1 : (c : Int) = rdI cs n
      · rw [ieq_t h1, br_t, decide_eq_true (show stillC m kn es cs n c from Or.inl h1)]
      · rw [ieq_f h1, br_f]
        by_cases h2 : proper ((m : Int), es) kn (tSet cs (n : Int) (c : Int))
        · rw [decide_eq_true h2, decide_eq_false (show ¬ stillC m kn es cs n c from fun h => h.elim h1 fun h => h h2)]
          rfl
        · rw [decide_eq_false h2, decide_eq_true (show stillC m kn es cs n c from Or.inr h2)]
          rfl
  · rw [iter_and, Bool.true_and]
    congr 1
    refine decide_eq_decide.2 ⟨fun h c hck => ?_, fun h i _ hi => ?_⟩
    · exact (h c (Nat.zero_le _) (by omega)).imp_right (not_proper hc.1 hp hn (by omega)).1
    · exact (h i (by omega)).imp_right (not_proper hc.1 hp hn (by omega)).2
theorem Zq81_eq {N : Nat} {g : Int × List (Int × Int)} {k : Int} {cs : List Int} (hx : g.2.length ≤ 1048576) (hcs : cs.length ≤ 1048576) (hN : 1048577 ≤ N) : Zq81 N g k cs = some (((stillR g k cs).1, (stillR g k cs).2, ()), ()) := by
  unfold Zq81 stillR Zq115
  simp only [l5Ask_eq hx hN, bind_some']
  by_cases h1 : colCase g k
  · rw [decide_eq_true h1, br_t, l5Proper_eq h1 hx hcs hN]
    simp only [bind_some']
    by_cases h2 : proper g k cs
    · rw [decide_eq_true h2, Bool.not_true, br_f, if_pos ⟨h1, h2⟩]
      obtain ⟨m0, es⟩ := g
      have hm := h1.1.1
      have hk := h1.2
      simp only at hx hm
      obtain ⟨m, rfl⟩ : ∃ m : Nat, m0 = m := ⟨m0.toNat, by omega⟩
      obtain ⟨kn, rfl⟩ : ∃ kn : Nat, k = kn := ⟨k.toNat, by omega⟩
      have hl := h2.1
      simp only at hl
      rw [Int.toNat_natCast]
      refine loop_iter (L := fun K n o => Zq81_l0 N (fun o => some ((o, true, ()), ())) K (kn : Int) cs n (m : Int) es o) (k := fun o => some ((o, true, ()), ())) (Inv := fun n o => o.length ≤ n) (step := fun n o => if stillAt (kn : Int) es cs n then o ++ [(n : Int)] else o) (fun K n s hn _ => ?_) (fun K n s hn hs => ?_) (fun n s hn h => ?_) (s := []) (m := m) (K := N) (by omega) (Nat.zero_le _)
      · simp only [Zq81_l0, ilt_nf hn, br_f]
      · simp only [Zq81_l0, ilt_n hn, br_t]
        rw [Still_in_eq _ h1 h2 (by omega) hx hcs hN, wrap_succ (by omega), room_ok (by simp; omega), chk_t, br_ite]
        by_cases hc : stillAt (kn : Int) es cs n
        · rw [if_pos (decide_eq_true hc), if_pos hc]
          rfl
        · rw [if_neg (by simpa using hc), if_neg hc]
      · by_cases hc : stillAt (kn : Int) es cs n
        · simp only [if_pos hc]; simp; omega
        · simp only [if_neg hc]; omega
    · rw [decide_eq_false h2, Bool.not_false, br_t, if_neg (fun h => h2 h.2)]
  · rw [decide_eq_false h1, br_f]
    simp only [bind_some', Bool.not_false, br_t]
    rw [if_neg (fun h => h1 h.1)]
theorem shl5 : ∀ n : Nat, n < 5 → shlI .u64 1 (n : Int) = ((2 ^ n : Nat) : Int)
  | 0, _ => by kernel_rfl
  | 1, _ => by kernel_rfl
  | 2, _ => by kernel_rfl
  | 3, _ => by kernel_rfl
  | 4, _ => by kernel_rfl
  | n + 5, h => by omega
theorem or32 {a b : Nat} (ha : a < 32) (hb : b < 32) : bitop .or .u64 (a : Int) (b : Int) = ((a ||| b : Nat) : Int) := by
  have hc : ((List.range 32).all fun a => (List.range 32).all fun b => decide (bitop .or .u64 (a : Int) (b : Int) = ((a ||| b : Nat) : Int))) = true := by kernel_rfl
  have h1 := List.all_eq_true.1 hc a (List.mem_range.2 ha)
  have h2 := List.all_eq_true.1 h1 b (List.mem_range.2 hb)
  exact of_decide_eq_true h2
noncomputable def pcB (k s : Nat) : Bool := match Zq55 0 (s : Int) with
  | some r => (r.1.1 == (k : Int)) == (List.range k).all fun c => s.testBit c
  | none => false
theorem pc32 {k s : Nat} (hk : k ≤ 5) (hs : s < 2 ^ k) : ∃ r : Int, (∀ N, Zq55 N (s : Int) = some ((r, ()), ())) ∧ (r = k ↔ ∀ c, c < k → s.testBit c = true) := by
  have hc : ((List.range 6).all fun k => (List.range (2 ^ k)).all fun s => pcB k s) = true := by kernel_rfl
  have h1 := List.all_eq_true.1 hc k (List.mem_range.2 (by omega))
  have h2 := List.all_eq_true.1 h1 s (List.mem_range.2 hs)
  refine ⟨_, fun N => rfl, ?_⟩
  have h3 : ((((Zq55 0 (s : Int)).get rfl).1.1 == (k : Int)) == (List.range k).all fun c => s.testBit c) = true := h2
  have h4 := eq_of_beq h3
  constructor
  · intro h c hck
    have h5 : ((List.range k).all fun c => s.testBit c) = true := by rw [← h4]; exact beq_iff_eq.2 h
    exact List.all_eq_true.1 h5 c (List.mem_range.2 hck)
  · intro h
    have h5 : ((List.range k).all fun c => s.testBit c) = true := List.all_eq_true.2 fun c hc => h c (List.mem_range.1 hc)
    rw [h5] at h4
    exact eq_of_beq h4
theorem seen_eq {R : Type} {N : Nat} (k0 : Int → List Int → Int → Int → Int → Int → Int → List (Int × Int) → List Int → Option R) {kn : Nat} {cs nb o5 : List Int} {x : Nat} {x2 x3 x4 o3 : Int} {o4 : List (Int × Int)} (hk : kn ≤ 5) (hx : 0 ≤ rdI cs x ∧ rdI cs x < kn) (hnb : ∀ y ∈ nb, (0 ≤ y ∧ y < (cs.length : Int)) ∧ 0 ≤ rdI cs y ∧ rdI cs y < kn) (hl : nb.length ≤ 1048576) (hN : 1048577 ≤ N) :
    ∃ a : Nat, a < 2 ^ kn ∧ (∀ c, a.testBit c = true ↔ (c : Int) = rdI cs x ∨ ∃ y ∈ nb, rdI cs y = c) ∧ Zq28_l0_0 N k0 N (kn : Int) cs x2 (shlI .u64 1 (rdI cs x)) x3 x4 (nb.length : Int) 0 o3 o4 o5 nb = k0 kn cs x2 a x3 x4 o3 o4 o5 := by
  have h32 : 2 ^ kn ≤ 32 := Nat.pow_le_pow_right (by omega) hk
  have hp : ∀ z : Int, 0 ≤ z ∧ z < kn → ∃ n : Nat, z = n ∧ n < kn ∧ shlI .u64 1 z = ((2 ^ n : Nat) : Int) ∧ 2 ^ n < 2 ^ kn := fun z hz => by
    obtain ⟨n, rfl⟩ : ∃ n : Nat, z = n := ⟨z.toNat, by omega⟩
    exact ⟨n, rfl, by omega, shl5 n (by omega), Nat.pow_lt_pow_right (by omega) (by omega)⟩
  obtain ⟨nx, ex, hnx, sx, lx⟩ := hp _ hx
  have key := loop_list (xs := nb) (L := fun K n s => Zq28_l0_0 N k0 K (kn : Int) cs x2 s x3 x4 (nb.length : Int) n o3 o4 o5 nb) (k := fun s => k0 kn cs x2 s x3 x4 o3 o4 o5) (fun (s : Int) y => bitop .or .u64 s (shlI .u64 1 (rdI cs y)))
    (fun n s => ∃ a : Nat, s = a ∧ a < 2 ^ kn ∧ ∀ c, a.testBit c = true ↔ (c : Int) = rdI cs x ∨ ∃ y ∈ nb.take n, rdI cs y = c) (fun K n s hn _ => ?_) (fun K n s hn _ => ?_) (fun n s hn h => ?_) (s := shlI .u64 1 (rdI cs x)) (K := N) (by omega) ⟨2 ^ nx, sx, lx, fun c => by
      rw [Nat.testBit_two_pow, decide_eq_true_eq, ex]
      simp
      omega⟩
  · obtain ⟨h1, a, h2, h3, h4⟩ := key
    refine ⟨a, h3, fun c => ?_, ?_⟩
    · rw [h4 c, List.take_length]
    · rw [← h2]
      exact h1
  · simp only [Zq28_l0_0, ilt_nf hn, br_f]
  · have hy := hnb _ (List.getElem_mem hn)
    simp only [Zq28_l0_0, ilt_n hn, br_t, inb_n hn, chk_t]
    rw [rdI_n hn, inb_i (by omega) (by omega), chk_t, ile_t (by omega), chk_t, wrap_succ (by omega)]
  · obtain ⟨a, h2, h3, h4⟩ := h
    have hy := hnb _ (List.getElem_mem hn)
    obtain ⟨ny, ey, hny, sy, ly⟩ := hp _ hy.2
    refine ⟨a ||| 2 ^ ny, ?_, Nat.or_lt_two_pow h3 ly, fun c => ?_⟩
    · rw [h2, sy, or32 (by omega) (by omega)]
    · rw [Nat.testBit_or, Bool.or_eq_true, h4 c, Nat.testBit_two_pow, decide_eq_true_eq, List.take_add_one, List.getElem?_eq_getElem hn]
      simp only [Option.toList_some, List.mem_append, List.mem_singleton]
      constructor
      · rintro ((h | ⟨y, h, h'⟩) | h)
        · exact .inl h
        · exact .inr ⟨y, .inl h, h'⟩
        · exact .inr ⟨nb[n], .inr rfl, by rw [ey, h]⟩
      · rintro (h | ⟨y, h | h, h'⟩)
        · exact .inl (.inl h)
        · exact .inl (.inr ⟨y, h, h'⟩)
        · rw [h, ey] at h'
          exact .inr (by omega)
end Go.Proofs.YtkffaahlpdlkoaaGreat
