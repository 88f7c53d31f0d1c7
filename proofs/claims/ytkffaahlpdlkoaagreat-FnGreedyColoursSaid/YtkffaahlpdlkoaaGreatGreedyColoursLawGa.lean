/- Statements on data alone. -/
import Derived.Test.YtkffaahlpdlkoaaGreatPvPure
import Derived.Test.YtkffaahlpdlkoaaGreatGreedyColoursLawFd
set_option linter.all false
set_option linter.all false
namespace Go.Proofs.YtkffaahlpdlkoaaGreat
open Go Go.PV Classical
noncomputable def spec_l3Only_l0 {R : Type} (N : Nat) (k0 : (List Int) → Option R) : Nat → (List Int) → (List Int) → Int → (List Int) → Option R
  | 0, _, _, _, _ => none
  | K + 1, a1, b1, i, o =>
    (br (ilt i (tLen a1))
      ((chk (inb a1 i)
        ((Zq67 N b1 (rdI a1 i)).bind fun r =>
        (br (!r.1.1)
          ((chk (inb a1 i)
            (chk (room o [(rdI a1 i)])
            (spec_l3Only_l0 N k0 K a1 b1 (IntKind.i64.wrap (i + 1)) (tApp o [(rdI a1 i)])))))
          (spec_l3Only_l0 N k0 K a1 b1 (IntKind.i64.wrap (i + 1)) o)))))
      (k0 o))
noncomputable def spec_l3Only (N : Nat) (a : (List Int)) (b : (List Int)) : Option (((List Int) × Unit) × (Unit)) :=
  spec_l3Only_l0 N (fun o => some ((o, ()), ())) N a b 0 []
noncomputable def spec_l1Most (N : Nat) (a : Int) (b : Int) : Option ((Int × Unit) × (Unit)) :=
  (br (ilt b a)
    (some ((a, ()), ()))
    (some ((b, ()), ())))
noncomputable def spec_l5Peeling_l0_0 {R : Type} (N : Nat) (k0 : Int → Int → Int → Int → (List (Int × Int)) → (List Int) → Option R) : Nat → Int → Int → Int → Int → Int → (List (Int × Int)) → (List Int) → Option R
  | 0, _, _, _, _, _, _, _ => none
  | K + 1, most1, best, few, x, o3, o4, o5 =>
    (br (ilt x o3)
      (((Zq77 N (o3, o4) x).bind fun r =>
        ((spec_l3Only N r.1.1 o5).bind fun r1 =>
          ((Zq67 N o5 x).bind fun r2 =>
            (br (!r2.1.1)
              ((br (ilt best 0)
                (spec_l5Peeling_l0_0 N k0 K most1 x (tLen r1.1.1) (IntKind.i64.wrap (x + 1)) o3 o4 o5)
                ((br (ilt (tLen r1.1.1) few)
                  (spec_l5Peeling_l0_0 N k0 K most1 x (tLen r1.1.1) (IntKind.i64.wrap (x + 1)) o3 o4 o5)
                  (spec_l5Peeling_l0_0 N k0 K most1 best few (IntKind.i64.wrap (x + 1)) o3 o4 o5)))))
              (spec_l5Peeling_l0_0 N k0 K most1 best few (IntKind.i64.wrap (x + 1)) o3 o4 o5))))))
      (k0 most1 best few o3 o4 o5))
noncomputable def spec_l5Peeling_l0 {R : Type} (N : Nat) (k0 : Int → (List Int) → Option R) : Nat → Int → Int → (List (Int × Int)) → (List Int) → Option R
  | 0, _, _, _, _ => none
  | K + 1, most, o, o1, o2 =>
    (br (ilt (tLen o2) o)
      (spec_l5Peeling_l0_0 N (fun most1 best few o3 o4 o5 => (chk (room o5 [best])
        ((spec_l1Most N most1 few).bind fun r =>
        spec_l5Peeling_l0 N k0 K r.1.1 o3 o4 (tApp o5 [best])))) N most (-1) 0 0 o o1 o2)
      (k0 most o2))
noncomputable def spec_l5Peeling (N : Nat) (g : (Int × (List (Int × Int)))) : Option (((List Int) × Int × Unit) × (Unit)) :=
  spec_l5Peeling_l0 N (fun most o => some ((o, most, ()), ())) N (-1) g.1 g.2 []
noncomputable def spec_PeelingOf (N : Nat) (g : (Int × (List (Int × Int)))) : Option (((List Int) × Int × Bool × Unit) × (Unit)) :=
  ((Zq74 N (g.1, g.2)).bind fun r =>
    (br (!r.1.1)
      (some (([], 0, false, ()), ()))
      (((spec_l5Peeling N (g.1, g.2)).bind fun r1 =>
        some ((r1.1.1, r1.1.2.1, true, ()), ())))))
theorem all_rdI {xs : List Int} {p : Int → Prop} : (∀ x ∈ xs, p x) ↔ ∀ i : Nat, i < xs.length → p (rdI xs i) := by
  constructor
  · intro h i hi
    rw [rdI_n hi]
    exact h _ (List.getElem_mem hi)
  · intro h x hx
    obtain ⟨i, hi, rfl⟩ := List.mem_iff_getElem.1 hx
    have := h i hi
    rwa [rdI_n hi] at this
theorem all_rdP {xs : List (Int × Int)} {p : Int × Int → Prop} : (∀ x ∈ xs, p x) ↔ ∀ i : Nat, i < xs.length → p (rdP xs i) := by
  constructor
  · intro h i hi
    rw [rdP_n hi]
    exact h _ (List.getElem_mem hi)
  · intro h x hx
    obtain ⟨i, hi, rfl⟩ := List.mem_iff_getElem.1 hx
    have := h i hi
    rwa [rdP_n hi] at this
theorem not_any {α : Type} {xs : List α} {f : α → Bool} : (!(xs.any f)) = decide (∀ x ∈ xs, f x = false) := by
  induction xs with
  | nil => simp
  | cons x xs ih =>
    rw [List.any_cons, Bool.not_or, ih]
    by_cases h : f x = true <;> simp [h]
def findAt {α : Type} (f : α → Bool) : List α → Nat → Int
  | [], _ => -1
  | x :: xs, n => if f x = true then (n : Int) else findAt f xs (n + 1)
theorem findAt_cons {α : Type} (f : α → Bool) (x : α) (xs : List α) (n : Nat) : findAt f (x :: xs) n = if f x = true then (n : Int) else findAt f xs (n + 1) := rfl
theorem findAt_ge {α : Type} (f : α → Bool) : ∀ (xs : List α) (n : Nat), decide (0 ≤ findAt f xs n) = xs.any f := by
  intro xs
  induction xs with
  | nil => intro n; rfl
  | cons x xs ih =>
    intro n
    unfold findAt
    by_cases h : f x = true
    · rw [if_pos h]
      simp [h]
    · rw [if_neg h, ih]
      simp [h]
theorem IndexFunc_LI_int_l0_eq {R : Type} (N : Nat) (k0 : Int → Option R) (k1 : Unit → Option R) (xs : List (Int)) (f : Int → Option Bool) (g : Int → Bool) (hf : ∀ x ∈ xs, f x = some (g x)) (hx : xs.length ≤ 1099511627776) : ∀ (d n : Nat) (K : Nat), n + d = xs.length → d < K →
    Zq48_l0 N k0 k1 K xs f (xs.length : Int) n = if (xs.drop n).any g = true then k0 (findAt g (xs.drop n) n) else k1 () := by
  intro d
  induction d with
  | zero =>
    intro n K hd hK
    obtain ⟨k, rfl⟩ := succ_of hK
    have hn : ¬ n < xs.length := by omega
    simp only [Zq48_l0, ilt_nf hn, br_f]
    rw [List.drop_of_length_le (by omega)]
    simp
  | succ d ih =>
    intro n K hd hK
    obtain ⟨k, rfl⟩ := succ_of hK
    have hn : n < xs.length := by omega
    simp only [Zq48_l0, ilt_n hn, inb_n hn, br_t, chk_t]
    obtain ⟨y, r, e1, e2, e3⟩ := drop_split hn
    rw [wrap_succ (by omega), rdI_n hn, ih (n + 1) k (by omega) (by omega), hf _ (List.getElem_mem hn), bind_some', br_ite, e1, e2, e3, findAt_cons]
    by_cases h : g y = true
    · simp [h]
    · simp [h]
theorem ContainsFunc_LI_int_eq {N : Nat} {xs : List (Int)} {f : Int → Option Bool} {g : Int → Bool} (hf : ∀ x ∈ xs, f x = some (g x)) (hx : xs.length ≤ 1099511627776) (hN : xs.length < N) :
    Zq46 N xs f = some ((xs.any g, ()), ()) := by
  unfold Zq46 Zq48
  have := IndexFunc_LI_int_l0_eq N (fun x => some ((x, ()), ())) (fun _ => some (((-1 : Int), ()), ())) xs f g hf hx xs.length 0 N (by omega) (by omega)
  simp only [Int.natCast_zero, List.drop_zero] at this
  rw [tLen_n, this]
  by_cases h : xs.any g = true
  · rw [if_pos h, bind_some', ile_d, findAt_ge]
  · rw [if_neg h, bind_some']
    simp only [Bool.not_eq_true] at h
    rw [h]
    rfl
theorem l1In_eq (N : Nat) (x a b : Int) : Zq68 N x a b = some ((decide (a ≤ x ∧ x ≤ b), ()), ()) := by
  unfold Zq68
  rw [br_ite, ile_d, ile_d]
  by_cases h : a ≤ x <;> by_cases h' : x ≤ b <;> simp [h, h']
theorem between_eq (N : Nat) (n low high : Int) : Zq22 N n low high = some ((decide (low ≤ n ∧ n ≤ high), ()), ()) := by
  unfold Zq22
  rw [br_ite, ile_d, ile_d]
  by_cases h : low ≤ n <;> by_cases h' : n ≤ high <;> simp [h, h']
def risingAt (lo hi : Int) (xs : List Int) (i : Nat) : Prop := (lo ≤ rdI xs i ∧ rdI xs i ≤ hi) ∧ (0 < i → rdI xs ((i - 1 : Nat) : Int) < rdI xs i)
def rising (lo hi : Int) (xs : List Int) : Prop := ∀ i, i < xs.length → risingAt lo hi xs i
theorem isRising_eq {N : Nat} {m : Int} {xs : List Int} (hx : xs.length ≤ 1048576) (hm : 0 ≤ m ∧ m ≤ 4611686018427387904) (hN : 1048577 ≤ N) : Zq28 N xs m = some ((decide (rising 0 (m - 1) xs), ()), ()) := by
  unfold Zq28
  have := loop_all_if (P := rising 0 (m - 1) xs) (L := fun K i => Zq28_l0 N (fun x => some ((x, ()), ())) (fun (_ : Unit) => some ((true, ()), ())) K xs m xs (xs.length : Int) i) (risingAt 0 (m - 1) xs) Iff.rfl (kt := some ((true, ()), ())) (kf := some ((false, ()), ())) (fun K n hn => ?_) (fun K n hn hp => ?_) (fun K n hn hp => ?_) (show xs.length < N by omega)
  · rw [show ((0 : Nat) : Int) = 0 from rfl] at this
    rw [tLen_n, this]
    by_cases h : rising 0 (m - 1) xs <;> simp [h]
  · simp only [Zq28_l0, ilt_nf hn, br_f]
  · simp only [Zq28_l0, ilt_n hn, br_t, inb_n hn, chk_t, between_eq, bind_some', wrap_ok (show -9223372036854775808 ≤ m - 1 by omega) (show m - 1 < 9223372036854775808 by omega)]
    obtain ⟨h1, h2⟩ := hp
    rw [decide_eq_true h1, Bool.not_true, br_f]
    by_cases h0 : 0 < n
    · rw [ilt_0 h0, br_t, wrap_pred (by omega) h0, inb_n (by omega), chk_t, ile_f (by have := h2 h0; omega), br_f, wrap_succ (by omega)]
    · rw [ilt_0n h0, br_f, wrap_succ (by omega)]
  · simp only [Zq28_l0, ilt_n hn, br_t, inb_n hn, chk_t, between_eq, bind_some', wrap_ok (show -9223372036854775808 ≤ m - 1 by omega) (show m - 1 < 9223372036854775808 by omega)]
    by_cases h1 : 0 ≤ rdI xs n ∧ rdI xs n ≤ m - 1
    · rw [decide_eq_true h1, Bool.not_true, br_f]
      have h0 : 0 < n := by
        rcases Nat.eq_zero_or_pos n with h0 | h0
        · exact absurd ⟨h1, fun h' => by omega⟩ hp
        · exact h0
      have h4 : ¬ rdI xs ((n - 1 : Nat) : Int) < rdI xs n := fun h' => hp ⟨h1, fun _ => h'⟩
      rw [ilt_0 h0, br_t, wrap_pred (by omega) h0, inb_n (by omega), chk_t, ile_t (by omega), br_t]
    · rw [decide_eq_false h1, Bool.not_false, br_t]
theorem l1Most_eq (N : Nat) (a b : Int) : spec_l1Most N a b = some ((if b < a then a else b, ()), ()) := by
  unfold spec_l1Most
  rw [br_ite, ilt_d]
  by_cases h : b < a <;> simp [h]
theorem l1Own_eq {N : Nat} {xs : List Int} (h : xs.length ≤ 1048576) : Zq70 N xs = some ((xs, ()), ()) := by
  unfold Zq70
  rw [room_ok (by simp; omega), chk_t]
  rfl
theorem Clone_eq {N : Nat} {xs : List Int} (h : xs.length ≤ 1048576) : Zq44 N xs = some ((xs, ()), ()) := by
  unfold Zq44
  rw [room_ok (by simp; omega), chk_t, br_ite, ieq_d, tLen_n]
  by_cases h0 : xs = []
  · subst h0
    simp only [tApp_d, List.append_nil, amb_same]
    simp
  · rw [if_neg (by simpa using h0)]
    rfl
theorem l1Has_eq {N : Nat} {xs : List Int} {v : Int} (hx : xs.length ≤ 1048576) (hN : 1048577 ≤ N) : Zq67 N xs v = some ((decide (v ∈ xs), ()), ()) := by
  unfold Zq67
  have := loop_all_if (P := ∀ x ∈ xs, x ≠ v) (L := fun K i => Zq67_l0 N (fun x => some ((x, ()), ())) (fun (_ : Unit) => some ((false, ()), ())) K xs v i) (fun i => rdI xs i ≠ v) all_rdI (kt := some ((false, ()), ())) (kf := some ((true, ()), ())) (fun K n hn => ?_) (fun K n hn hp => ?_) (fun K n hn hp => ?_) (show xs.length < N by omega)
  · rw [show ((0 : Nat) : Int) = 0 from rfl] at this
    rw [this]
    by_cases h : v ∈ xs
    · rw [if_neg (fun h' => h' v h rfl), decide_eq_true h]
    · rw [if_pos (fun x hx (h' : x = v) => h (h' ▸ hx)), decide_eq_false h]
  · simp only [Zq67_l0, ilt_lenf hn, br_f]
  · simp only [Zq67_l0, ilt_len hn, br_t, inb_n hn, chk_t]
    rw [ieq_f hp, br_f, wrap_succ (by omega)]
  · simp only [Zq67_l0, ilt_len hn, br_t, inb_n hn, chk_t]
    rw [ieq_t (Decidable.not_not.1 hp), br_t]
theorem exists_first (Q : Nat → Prop) (m : Nat) : ∃ v, v ≤ m ∧ (∀ i, i < v → ¬ Q i) ∧ (v < m → Q v) := by
  induction m with
  | zero => exact ⟨0, Nat.le_refl _, fun i h => absurd h (Nat.not_lt_zero _), fun h => absurd h (Nat.not_lt_zero _)⟩
  | succ m ih =>
    obtain ⟨v, h1, h2, h3⟩ := ih
    by_cases hv : v < m
    · exact ⟨v, by omega, h2, fun _ => h3 hv⟩
    · have e : v = m := by omega
      subst e
      by_cases hq : Q v
      · exact ⟨v, by omega, h2, fun _ => hq⟩
      · refine ⟨v + 1, Nat.le_refl _, fun i hi => ?_, fun h => absurd h (Nat.lt_irrefl _)⟩
        by_cases hi' : i < v
        · exact h2 i hi'
        · have : i = v := by omega
          subst this
          exact hq
def edgeLt (a b : Int × Int) : Prop := a.1 < b.1 ∨ a.1 = b.1 ∧ a.2 < b.2
def pairAt (m : Int) (es : List (Int × Int)) (i : Nat) : Prop := (0 ≤ (rdP es i).1 ∧ (rdP es i).1 < (rdP es i).2 ∧ (rdP es i).2 < m) ∧ (0 < i → edgeLt (rdP es ((i - 1 : Nat) : Int)) (rdP es i))
def goodG (g : Int × List (Int × Int)) : Prop := (0 ≤ g.1 ∧ g.1 ≤ 8) ∧ ∀ i, i < g.2.length → pairAt g.1 g.2 i
theorem goodG_edges {g : Int × List (Int × Int)} (h : goodG g) : ∀ e ∈ g.2, 0 ≤ e.1 ∧ e.1 < e.2 ∧ e.2 < g.1 :=
  all_rdP.2 fun i hi => (h.2 i hi).1
theorem l2Edge_eq (N : Nat) (a b : Int × Int) : Zq73 N a b = some ((decide (edgeLt a b), ()), ()) := by
  unfold Zq73 edgeLt
  by_cases h1 : a.1 < b.1
  · rw [ilt_t h1, br_t]; simp [h1]
  · rw [ilt_f h1, br_f]
    by_cases h2 : a.1 = b.1
    · rw [ieq_t h2, br_t, ilt_d]; simp [h2]
    · rw [ieq_f h2, br_f]; simp [h1, h2]
theorem compare_eq (N : Nat) (x y : Int) : Zq0 N x y = some ((if x < y then -1 else if y < x then 1 else 0, ()), ()) := by
  unfold Zq0 Zq2
  simp only [bind_some', ine_f (rfl : x = x), ine_f (rfl : y = y), br_f]
  by_cases h1 : x < y
  · rw [ilt_t h1, br_t, if_pos h1]
  · rw [ilt_f h1, br_f, if_neg h1]
    by_cases h2 : y < x
    · rw [ilt_t h2, br_t, if_pos h2]
    · rw [ilt_f h2, br_f, if_neg h2]
theorem Or2_eq {N : Nat} (hN : 1048577 ≤ N) (a b : Int) : Zq1 N [a, b] = some ((if a = 0 then b else a, ()), ()) := by
  obtain ⟨k, rfl⟩ : ∃ k, N = k + 3 := ⟨N - 3, by omega⟩
  unfold Zq1
  rw [show tLen [a, b] = 2 from rfl]
  simp only [Zq1_l0]
  rw [show inb [a, b] 0 = true from rfl, show rdI [a, b] 0 = a from rfl, show IntKind.i64.wrap (0 + 1) = 1 from rfl, show inb [a, b] 1 = true from rfl, show rdI [a, b] 1 = b from rfl, show IntKind.i64.wrap (1 + 1) = 2 from rfl, show ilt 0 2 = true from rfl, show ilt 1 2 = true from rfl, show ilt 2 2 = false from rfl, chk_t, chk_t, br_t, br_t, br_f]
  by_cases h : a = 0
  · rw [ine_f h, br_f, if_pos h]
    by_cases h' : b = 0
    · rw [ine_f h', br_f, h']
    · rw [ine_t h', br_t]
  · rw [ine_t h, br_t, if_neg h]
theorem comparePairs_eq {N : Nat} (hN : 1048577 ≤ N) (a b : Int × Int) : ∃ r : Int, Zq23 N a b = some ((r, ()), ()) ∧ (r < 0 ↔ edgeLt a b) ∧ (r = 0 ↔ a = b) := by
  obtain ⟨a1, a2⟩ := a
  obtain ⟨b1, b2⟩ := b
  unfold Zq23 edgeLt
  simp only [compare_eq, bind_some', Or2_eq hN]
  refine ⟨_, rfl, ?_, ?_⟩
  · by_cases h1 : a1 < b1
    · simp [h1]
    · by_cases h2 : b1 < a1
      · simp [h1, h2]; omega
      · have : a1 = b1 := by omega
        simp only [if_neg h1, if_neg h2, if_pos, this, Int.lt_irrefl, false_or, true_and]
        by_cases h3 : a2 < b2
        · simp [h3]
        · by_cases h4 : b2 < a2
          · simp [h3, h4]
          · simp [h3, h4]
  · rw [Prod.mk.injEq]
    by_cases h1 : a1 < b1
    · simp [h1]; omega
    · by_cases h2 : b1 < a1
      · simp [h1, h2]; omega
      · have : a1 = b1 := by omega
        simp only [if_neg h1, if_neg h2, if_pos, this, true_and]
        by_cases h3 : a2 < b2
        · simp [h3]; omega
        · by_cases h4 : b2 < a2
          · simp [h3, h4]; omega
          · simp [h3, h4]; omega
theorem l2Pairs_eq {N : Nat} {m : Int} {es : List (Int × Int)} (hm : 0 ≤ m ∧ m ≤ 8) (hx : es.length ≤ 1048576) (hN : 1048577 ≤ N) : Zq78 N es m = some ((decide (∀ i, i < es.length → pairAt m es i), ()), ()) := by
  unfold Zq78
  have := loop_all_if (P := ∀ i, i < es.length → pairAt m es i) (m := es.length) (L := fun K i => Zq78_l0 N (fun x => some ((x, ()), ())) (fun (_ : Unit) => some ((true, ()), ())) K es m i) (pairAt m es) Iff.rfl (kt := some ((true, ()), ())) (kf := some ((false, ()), ())) (fun K n hn => ?_) (fun K n hn hp => ?_) (fun K n hn hp => ?_) (show es.length < N by omega)
  · rw [show ((0 : Nat) : Int) = 0 from rfl] at this
    rw [this]
    by_cases h : ∀ i, i < es.length → pairAt m es i
    · rw [if_pos h, decide_eq_true h]
    · rw [if_neg h, decide_eq_false h]
  · simp only [Zq78_l0, ilt_lenf hn, br_f]
  · simp only [Zq78_l0, ilt_len hn, inb_n hn, br_t, chk_t, l1In_eq, l2Edge_eq, bind_some', wrap_ok (show -9223372036854775808 ≤ m - 1 by omega) (show m - 1 < 9223372036854775808 by omega)]
    obtain ⟨⟨p1, p2, p3⟩, p4⟩ := hp
    rw [decide_eq_true (show 0 ≤ (rdP es n).1 ∧ (rdP es n).1 ≤ m - 1 by omega), decide_eq_true (show 0 ≤ (rdP es n).2 ∧ (rdP es n).2 ≤ m - 1 by omega), Bool.not_true, br_f, br_f, ile_f (by omega), br_f]
    by_cases h0 : 0 < n
    · rw [ilt_0 h0, br_t, wrap_pred (by omega) h0, inb_n (by omega), chk_t, decide_eq_true (p4 h0), Bool.not_true, br_f, wrap_succ (by omega)]
    · rw [ilt_0n h0, br_f, wrap_succ (by omega)]
  · simp only [Zq78_l0, ilt_len hn, inb_n hn, br_t, chk_t, l1In_eq, l2Edge_eq, bind_some', wrap_ok (show -9223372036854775808 ≤ m - 1 by omega) (show m - 1 < 9223372036854775808 by omega)]
    by_cases q1 : 0 ≤ (rdP es n).1 ∧ (rdP es n).1 ≤ m - 1
    · rw [decide_eq_true q1, Bool.not_true, br_f]
      by_cases q2 : 0 ≤ (rdP es n).2 ∧ (rdP es n).2 ≤ m - 1
      · rw [decide_eq_true q2, Bool.not_true, br_f]
        by_cases q3 : (rdP es n).2 ≤ (rdP es n).1
        · rw [ile_t q3, br_t]
        · rw [ile_f q3, br_f]
          have h0 : 0 < n := by
            rcases Nat.eq_zero_or_pos n with h0 | h0
            · exact absurd ⟨⟨by omega, by omega, by omega⟩, fun h' => by omega⟩ hp
            · exact h0
          have h4 : ¬ edgeLt (rdP es ((n - 1 : Nat) : Int)) (rdP es n) := fun h' => hp ⟨⟨by omega, by omega, by omega⟩, fun _ => h'⟩
          rw [ilt_0 h0, br_t, wrap_pred (by omega) h0, inb_n (by omega), chk_t, decide_eq_false h4, Bool.not_false, br_t]
      · rw [decide_eq_false q2, Bool.not_false, br_t]
    · rw [decide_eq_false q1, Bool.not_false, br_t]
theorem isPairs_eq {N : Nat} {m : Int} {es : List (Int × Int)} (hm : 0 ≤ m ∧ m ≤ 8) (hx : es.length ≤ 1048576) (hN : 1048577 ≤ N) : Zq27 N es m = some ((decide (∀ i, i < es.length → pairAt m es i), ()), ()) := by
  unfold Zq27
  have := loop_all_if (P := ∀ i, i < es.length → pairAt m es i) (m := es.length) (L := fun K i => Zq27_l0 N (fun x => some ((x, ()), ())) (fun (_ : Unit) => some ((true, ()), ())) K es m es (es.length : Int) i) (pairAt m es) Iff.rfl (kt := some ((true, ()), ())) (kf := some ((false, ()), ())) (fun K n hn => ?_) (fun K n hn hp => ?_) (fun K n hn hp => ?_) (show es.length < N by omega)
  · rw [show ((0 : Nat) : Int) = 0 from rfl] at this
    rw [tLen_n, this]
    by_cases h : ∀ i, i < es.length → pairAt m es i
    · rw [if_pos h, decide_eq_true h]
    · rw [if_neg h, decide_eq_false h]
  · simp only [Zq27_l0, ilt_nf hn, br_f]
  · simp only [Zq27_l0, ilt_n hn, inb_n hn, br_t, chk_t]
    obtain ⟨⟨p1, p2, p3⟩, p4⟩ := hp
    rw [ilt_f (by omega), br_f, ile_f (by omega), br_f, ile_f (by omega), br_f]
    by_cases h0 : 0 < n
    · rw [ilt_0 h0, br_t, wrap_pred (by omega) h0, inb_n (by omega), chk_t]
      obtain ⟨r, r1, r2, _⟩ := comparePairs_eq hN (rdP es ((n - 1 : Nat) : Int)) ((rdP es n).1, (rdP es n).2)
      have := r2.2 (p4 h0)
      rw [r1]
      simp only [bind_some']
      rw [ile_f (by omega), br_f, wrap_succ (by omega)]
    · rw [ilt_0n h0, br_f, wrap_succ (by omega)]
  · simp only [Zq27_l0, ilt_n hn, inb_n hn, br_t, chk_t]
    by_cases q1 : (rdP es n).1 < 0
    · rw [ilt_t q1, br_t]
    · rw [ilt_f q1, br_f]
      by_cases q2 : (rdP es n).2 ≤ (rdP es n).1
      · rw [ile_t q2, br_t]
      · rw [ile_f q2, br_f]
        by_cases q3 : m ≤ (rdP es n).2
        · rw [ile_t q3, br_t]
        · rw [ile_f q3, br_f]
          have h0 : 0 < n := by
            rcases Nat.eq_zero_or_pos n with h0 | h0
            · exact absurd ⟨⟨by omega, by omega, by omega⟩, fun h' => by omega⟩ hp
            · exact h0
          have h4 : ¬ edgeLt (rdP es ((n - 1 : Nat) : Int)) (rdP es n) := fun h' => hp ⟨⟨by omega, by omega, by omega⟩, fun _ => h'⟩
          rw [ilt_0 h0, br_t, wrap_pred (by omega) h0, inb_n (by omega), chk_t]
          obtain ⟨r, r1, r2, _⟩ := comparePairs_eq hN (rdP es ((n - 1 : Nat) : Int)) ((rdP es n).1, (rdP es n).2)
          have : ¬ r < 0 := fun h => h4 (r2.1 h)
          rw [r1]
          simp only [bind_some']
          rw [ile_t (by omega), br_t]
theorem l2Good_eq {N : Nat} {g : Int × List (Int × Int)} (hx : g.2.length ≤ 1048576) (hN : 1048577 ≤ N) : Zq74 N g = some ((decide (goodG g), ()), ()) := by
  unfold Zq74
  rw [l1In_eq, bind_some']
  by_cases h : 0 ≤ g.1 ∧ g.1 ≤ 8
  · rw [decide_eq_true h, br_t, l2Pairs_eq h hx hN, bind_some']
    congr 3
    exact decide_eq_decide.2 ⟨fun h' => ⟨h, h'⟩, fun h' => h'.2⟩
  · rw [decide_eq_false h, br_f, decide_eq_false (show ¬ goodG g from fun h' => h h'.1)]
theorem IsGraph_eq {N : Nat} {g : Int × List (Int × Int)} (hx : g.2.length ≤ 1048576) (hN : 1048577 ≤ N) : Zq13 N g = some ((decide (goodG g), ()), ()) := by
  unfold Zq13
  rw [between_eq, bind_some']
  by_cases h : 0 ≤ g.1 ∧ g.1 ≤ 8
  · rw [decide_eq_true h, br_t, isPairs_eq h hx hN, bind_some']
    congr 3
    exact decide_eq_decide.2 ⟨fun h' => ⟨h, h'⟩, fun h' => h'.2⟩
  · rw [decide_eq_false h, br_f, decide_eq_false (show ¬ goodG g from fun h' => h h'.1)]
def colCase (g : Int × List (Int × Int)) (k : Int) : Prop := goodG g ∧ 1 ≤ k ∧ k ≤ 5
def proper (g : Int × List (Int × Int)) (k : Int) (cs : List Int) : Prop := (cs.length : Int) = g.1 ∧ (∀ x ∈ cs, 0 ≤ x ∧ x ≤ k - 1) ∧ ∀ e ∈ g.2, rdI cs e.1 ≠ rdI cs e.2
theorem l5Ask_eq {N : Nat} {g : Int × List (Int × Int)} {k : Int} (hx : g.2.length ≤ 1048576) (hN : 1048577 ≤ N) : Zq84 N g k = some ((decide (colCase g k), ()), ()) := by
  unfold Zq84 colCase
  simp only [l2Good_eq hx hN, bind_some', l1In_eq]
  by_cases h : goodG g <;> simp [h, br_ite]
theorem isColourCase_eq {N : Nat} {g : Int × List (Int × Int)} {k : Int} (hx : g.2.length ≤ 1048576) (hN : 1048577 ≤ N) : Zq25 N g k = some ((decide (colCase g k), ()), ()) := by
  unfold Zq25 colCase
  simp only [IsGraph_eq hx hN, bind_some', between_eq]
  by_cases h : goodG g <;> simp [h, br_ite]
def nearG (es : List (Int × Int)) (a b : Int) : Prop := (a, b) ∈ es ∨ (b, a) ∈ es
theorem l2Near_eq {N : Nat} {g : Int × List (Int × Int)} {a b : Int} (hx : g.2.length ≤ 1048576) (hN : 1048577 ≤ N) : Zq76 N g a b = some ((decide (nearG g.2 a b), ()), ()) := by
  obtain ⟨m, es⟩ := g
  simp only at hx
  unfold Zq76
  have := loop_all_if (P := ∀ e ∈ es, ¬ (e = (a, b) ∨ e = (b, a))) (m := es.length) (L := fun K i => Zq76_l0 N (fun x => some ((x, ()), ())) (fun (_ : Unit) => some ((false, ()), ())) K a b i m es) (fun i => ¬ (rdP es i = (a, b) ∨ rdP es i = (b, a))) all_rdP (kt := some ((false, ()), ())) (kf := some ((true, ()), ())) (fun K n hn => ?_) (fun K n hn hp => ?_) (fun K n hn hp => ?_) (show es.length < N by omega)
  · rw [show ((0 : Nat) : Int) = 0 from rfl] at this
    rw [this]
    by_cases h : nearG es a b
    · rw [if_neg (fun h' => by
        rcases h with h | h
        · exact h' _ h (Or.inl rfl)
        · exact h' _ h (Or.inr rfl)), decide_eq_true h]
    · rw [if_pos (fun e he h' => by
        rcases h' with h' | h'
        · exact h (Or.inl (h' ▸ he))
        · exact h (Or.inr (h' ▸ he))), decide_eq_false h]
  · simp only [Zq76_l0, ilt_lenf hn, br_f]
  · simp only [Zq76_l0, ilt_len hn, inb_n hn, br_t, chk_t]
    rw [wrap_succ (by omega)]
    rw [show rdP es n = ((rdP es n).1, (rdP es n).2) from rfl, Prod.mk.injEq, Prod.mk.injEq] at hp
    by_cases q1 : (rdP es n).1 = a
    · rw [ieq_t q1, br_t, ieq_f (fun h => hp (Or.inl ⟨q1, h⟩)), br_f]
      by_cases q2 : (rdP es n).1 = b
      · rw [ieq_t q2, br_t, ieq_f (fun h => hp (Or.inr ⟨q2, h⟩)), br_f]
      · rw [ieq_f q2, br_f]
    · rw [ieq_f q1, br_f]
      by_cases q2 : (rdP es n).1 = b
      · rw [ieq_t q2, br_t, ieq_f (fun h => hp (Or.inr ⟨q2, h⟩)), br_f]
      · rw [ieq_f q2, br_f]
  · simp only [Zq76_l0, ilt_len hn, inb_n hn, br_t, chk_t]
    rw [Decidable.not_not, show rdP es n = ((rdP es n).1, (rdP es n).2) from rfl, Prod.mk.injEq, Prod.mk.injEq] at hp
    by_cases q0 : (rdP es n).1 = a ∧ (rdP es n).2 = b
    · rw [ieq_t q0.1, br_t, ieq_t q0.2, br_t]
    · have hp' := hp.resolve_left q0
      rw [ieq_t hp'.1, ieq_t hp'.2, br_t, br_t]
      by_cases q1 : (rdP es n).1 = a
      · rw [ieq_t q1, br_t, ieq_f (fun h => q0 ⟨q1, h⟩), br_f]
      · rw [ieq_f q1, br_f]
theorem ContainsP_eq {N : Nat} {xs : List (Int × Int)} {v : Int × Int} (hx : xs.length ≤ 1048576) (hN : 1048577 ≤ N) : Zq47 N xs v = some ((decide (v ∈ xs), ()), ()) := by
  obtain ⟨a, b⟩ := v
  have go : ∀ (d n : Nat) (K : Nat), n + d = xs.length → d < K → ∃ i : Int, Zq49_l0 N (fun x => some ((x, ()), ())) (fun (_ : Unit) => some ((-1, ()), ())) K xs (xs.length : Int) n a b = some ((i, ()), ()) ∧ decide (0 ≤ i) = decide ((a, b) ∈ xs.drop n) := by
    intro d
    induction d with
    | zero =>
      intro n K hd hK
      obtain ⟨k, rfl⟩ := succ_of hK
      have hn : ¬ n < xs.length := by omega
      simp only [Zq49_l0, ilt_nf hn, br_f]
      rw [List.drop_of_length_le (by omega)]
      exact ⟨-1, rfl, rfl⟩
    | succ d ih =>
      intro n K hd hK
      obtain ⟨k, rfl⟩ := succ_of hK
      have hn : n < xs.length := by omega
      simp only [Zq49_l0, ilt_n hn, br_t, inb_n hn, chk_t]
      obtain ⟨⟨y1, y2⟩, r, e1, e2, e3⟩ := drop_split hn
      rw [rdP_n hn, e1, e2]
      simp only
      by_cases h : a = y1 ∧ b = y2
      · rw [ieq_t h.1, ieq_t h.2, Bool.and_self, br_t]
        exact ⟨_, rfl, by simp [h.1, h.2]⟩
      · have hq : (ieq a y1 && ieq b y2) = false := by
          rw [ieq_d, ieq_d, ← Bool.decide_and]
          exact decide_eq_false h
        rw [hq, br_f, wrap_succ (by omega)]
        obtain ⟨i, h1, h2⟩ := ih (n + 1) k (by omega) (by omega)
        refine ⟨i, h1, ?_⟩
        rw [h2, e3]
        simp [h]
  unfold Zq47 Zq49
  obtain ⟨i, h1, h2⟩ := go xs.length 0 N (by omega) (by omega)
  simp only [Int.natCast_zero, List.drop_zero] at h1 h2
  rw [tLen_n]
  simp only [h1, bind_some']
  rw [ile_d, h2]
theorem Graph_has_eq {N : Nat} {g : Int × List (Int × Int)} {a b : Int} (hed : ∀ e ∈ g.2, e.1 < e.2) (hx : g.2.length ≤ 1048576) (hN : 1048577 ≤ N) : Zq9 N g a b = some ((decide (nearG g.2 a b), ()), ()) := by
  unfold Zq9 Zq32
  simp only [bind_some', ContainsP_eq hx hN]
  congr 3
  refine decide_eq_decide.2 ⟨fun h => ?_, fun h => ?_⟩
  · by_cases h1 : b < a
    · rw [if_pos h1, if_neg (by omega)] at h
      exact Or.inr h
    · rw [if_neg h1] at h
      by_cases h2 : b > a
      · rw [if_pos h2] at h
        exact Or.inl h
      · have : a = b := by omega
        rw [if_neg h2] at h
        exact Or.inl (by rw [← this]; exact h)
  · rcases h with h | h
    · have := hed _ h
      simp only at this
      rw [if_neg (by omega), if_pos (by omega)]
      exact h
    · have := hed _ h
      simp only at this
      rw [if_pos (by omega), if_neg (by omega)]
      exact h
def asc (xs : List Int) : Prop := xs.Pairwise (· ≤ ·)
theorem asc_perm : ∀ {a b : List Int}, asc a → asc b → a.Perm b → a = b := by
  intro a
  induction a with
  | nil => intro b _ _ hp; exact (List.nil_perm.1 hp).symm
  | cons x a ih =>
    intro b ha hb hp
    cases b with
    | nil => exact absurd (List.perm_nil.1 hp) (by simp)
    | cons y b =>
      obtain ⟨a1, a2⟩ := List.pairwise_cons.1 ha
      obtain ⟨b1, b2⟩ := List.pairwise_cons.1 hb
      have e : x = y := by
        have h1 : x ∈ y :: b := hp.mem_iff.1 (List.mem_cons_self ..)
        have h2 : y ∈ x :: a := hp.mem_iff.2 (List.mem_cons_self ..)
        rcases List.mem_cons.1 h1 with h1 | h1
        · exact h1
        · rcases List.mem_cons.1 h2 with h2 | h2
          · exact h2.symm
          · have := a1 y h2
            have := b1 x h1
            omega
      subst e
      rw [ih a2 b2 (List.Perm.cons_inv hp)]
theorem mergeI_asc (xs : List Int) : asc (mergeI xs) := by
  have := List.pairwise_mergeSort (le := fun x y : Int => decide (x ≤ y)) (fun a b c h1 h2 => by simp at *; omega) (fun a b => by simp; omega) xs
  exact this.imp fun h => by simpa using h
theorem mergeI_perm (xs : List Int) : (mergeI xs).Perm xs := List.mergeSort_perm ..
theorem Sort_any {N : Nat} {xs : List Int} (hx : xs.length < 4611686018427387904) : Zq52 N xs = some ((), (mergeI xs, ())) := by
  unfold Zq52 sortIF
  rw [if_pos hx]
theorem Sort_asc {N : Nat} {xs : List Int} (h : asc xs) (hx : xs.length < 1024) (hN : 1048577 ≤ N) : Zq52 N xs = some ((), (xs, ())) := by
  rw [Sort_any (by omega)]
  congr 3
  exact asc_perm (mergeI_asc xs) h (mergeI_perm xs)
theorem iter_app {p : Nat → Prop} [DecidablePred p] : ∀ (d n : Nat) (o : List Int), iter (fun n o => if p n then o ++ [(n : Int)] else o) d n o = o ++ ((List.range' n d).filter fun i => decide (p i)).map (fun i : Nat => (i : Int)) := by
  intro d
  induction d with
  | zero => intro n o; simp [iter]
  | succ d ih =>
    intro n o
    unfold iter
    rw [ih, List.range'_succ]
    by_cases h : p n <;> simp [h]
noncomputable def nbr (m : Nat) (es : List (Int × Int)) (x : Int) : List Int := ((List.range' 0 m).filter fun i : Nat => decide (nearG es x (i : Int))).map (fun i : Nat => (i : Int))
theorem mem_nbr {m : Nat} {es : List (Int × Int)} {x y : Int} : y ∈ nbr m es x ↔ ∃ i : Nat, i < m ∧ nearG es x i ∧ y = i := by
  unfold nbr
  rw [List.mem_map]
  constructor
  · rintro ⟨i, hi, rfl⟩
    obtain ⟨h1, h2⟩ := List.mem_filter.1 hi
    exact ⟨i, by simpa using List.mem_range'_1.1 h1, of_decide_eq_true h2, rfl⟩
  · rintro ⟨i, h1, h2, rfl⟩
    exact ⟨i, List.mem_filter.2 ⟨List.mem_range'_1.2 (by omega), decide_eq_true h2⟩, rfl⟩
theorem nbr_len (m : Nat) (es : List (Int × Int)) (x : Int) : (nbr m es x).length ≤ m := by
  unfold nbr
  rw [List.length_map]
  exact Nat.le_trans (List.length_filter_le ..) (by simp)
theorem near_ne {g : Int × List (Int × Int)} (hg : goodG g) {a : Int} : ¬ nearG g.2 a a := by
  rintro (h | h)
  · have := goodG_edges hg _ h
    simp only at this
    omega
  · have := goodG_edges hg _ h
    simp only at this
    omega
theorem neighbors_eq {N : Nat} {m : Nat} {es : List (Int × Int)} {x : Int} (hg : goodG ((m : Int), es)) (hx : es.length ≤ 1048576) (hN : 1048577 ≤ N) : Zq10 N ((m : Int), es) x = some ((nbr m es x, ()), ()) := by
  have hed : ∀ e ∈ es, e.1 < e.2 := fun e he => (goodG_edges hg e he).2.1
  have hm := hg.1
  simp only at hm
  unfold Zq10
  refine (loop_iter (L := fun K n o => Zq10_l0 N (fun o => some ((o, ()), ())) K x (m : Int) n (m : Int) es o) (k := fun o => some ((o, ()), ())) (Inv := fun n o => o.length ≤ n) (step := fun n o => if nearG es x (n : Int) then o ++ [(n : Int)] else o) (fun K n s hn _ => ?_) (fun K n s hn hs => ?_) (fun n s hn h => ?_) (s := []) (m := m) (K := N) (by omega) (Nat.zero_le _)).trans ?_
  · simp only [Zq10_l0, ilt_nf hn, br_f]
  · simp only [Zq10_l0, ilt_n hn, br_t, Graph_has_eq (g := ((m : Int), es)) hed hx hN, bind_some']
    rw [wrap_succ (by omega), room_ok (by simp; omega), chk_t]
    by_cases h : nearG es x (n : Int)
    · have hne : (n : Int) ≠ x := fun e => near_ne hg (a := x) (by rw [e] at h; exact h)
      rw [ine_t hne, br_t, decide_eq_true h, br_t, if_pos h]
      rfl
    · rw [if_neg h, decide_eq_false h, br_f, br_same]
  · by_cases hc : nearG es x (n : Int)
    · rw [if_pos hc]; simp; omega
    · rw [if_neg hc]; omega
  · rw [iter_app]
    rfl
theorem rdI_set {cs : List Int} {x : Nat} (hx : x < cs.length) (v y : Int) (hy : 0 ≤ y) : rdI (tSet cs (x : Int) v) y = if y = x then v else rdI cs y := by
  obtain ⟨n, rfl⟩ : ∃ n : Nat, y = n := ⟨y.toNat, by omega⟩
  rw [tSet_n]
  unfold rdI
  rw [Int.toNat_natCast, List.getD, List.getD, List.getElem?_set]
  by_cases h : x = n
  · subst h
    simp [hx]
  · have : ¬ ((n : Int) = (x : Int)) := by omega
    simp [h, this]
theorem wrap64 {n : Nat} (h : n < 18446744073709551616) : IntKind.u64.wrap (n : Int) = (n : Int) := by
  unfold IntKind.wrap
  simp only [IntKind.bits, IntKind.signed, Bool.false_and]
  have : (n : Int) % (2 ^ 64 : Int) = n := Int.emod_eq_of_lt (by omega) (by omega)
  rw [this]
  rfl
theorem ofInt64 {n : Nat} (h : n < 18446744073709551616) : (BitVec.ofInt 64 (n : Int)).toNat = n := by
  rw [BitVec.toNat_ofInt]
  omega
theorem orN {a b : Nat} (ha : a < 4294967296) (hb : b < 4294967296) : bitop .or .u64 (a : Int) (b : Int) = ((a ||| b : Nat) : Int) := by
  show IntKind.u64.wrap (((BitVec.ofInt 64 (a : Int) ||| BitVec.ofInt 64 (b : Int)).toNat : Nat) : Int) = _
  rw [BitVec.toNat_or, ofInt64 (by omega), ofInt64 (by omega)]
  have : a ||| b < 2 ^ 32 := Nat.or_lt_two_pow ha hb
  exact wrap64 (by omega)
theorem andN {a b : Nat} (ha : a < 4294967296) (hb : b < 4294967296) : bitop .and .u64 (a : Int) (b : Int) = ((a &&& b : Nat) : Int) := by
  show IntKind.u64.wrap (((BitVec.ofInt 64 (a : Int) &&& BitVec.ofInt 64 (b : Int)).toNat : Nat) : Int) = _
  rw [BitVec.toNat_and, ofInt64 (by omega), ofInt64 (by omega)]
  have : a &&& b < 2 ^ 32 := Nat.and_lt_two_pow _ hb
  exact wrap64 (by omega)
theorem shl8 : ∀ n : Nat, n < 9 → shlI .u64 1 (n : Int) = ((2 ^ n : Nat) : Int)
  | 0, _ => by kernel_rfl
  | 1, _ => by kernel_rfl
  | 2, _ => by kernel_rfl
  | 3, _ => by kernel_rfl
  | 4, _ => by kernel_rfl
  | 5, _ => by kernel_rfl
  | 6, _ => by kernel_rfl
  | 7, _ => by kernel_rfl
  | 8, _ => by kernel_rfl
  | n + 9, h => by omega
theorem less8 {a c : Nat} (ha : a < 256) (hc : c < 8) : ∃ b : Nat, bitop .andNot .u64 (a : Int) ((2 ^ c : Nat) : Int) = (b : Int) ∧ b < 256 ∧ ∀ i, b.testBit i = (a.testBit i && decide (i ≠ c)) := by
  have hk : ((List.range 256).all fun a => (List.range 8).all fun c => decide (bitop .andNot .u64 (a : Int) ((2 ^ c : Nat) : Int) = ((a &&& (255 ^^^ 2 ^ c) : Nat) : Int))) = true := by kernel_rfl
  have h1 := of_decide_eq_true (List.all_eq_true.1 (List.all_eq_true.1 hk a (List.mem_range.2 ha)) c (List.mem_range.2 hc))
  refine ⟨_, h1, Nat.and_lt_two_pow (n := 8) _ (Nat.xor_lt_two_pow (by omega) (Nat.pow_lt_pow_right (by omega) hc)), fun i => ?_⟩
  rw [Nat.testBit_and, Nat.testBit_xor, Nat.testBit_two_pow]
  by_cases hi : i < 8
  · have h255 : (255 : Nat).testBit i = true := by
      have : (255 : Nat) = 2 ^ 8 - 1 := rfl
      rw [this, Nat.testBit_two_pow_sub_one]
      exact decide_eq_true hi
    rw [h255]
    by_cases h : c = i
    · simp [h]
    · have h' : i ≠ c := fun e => h e.symm
      simp [h, h']
  · have : a.testBit i = false := Nat.testBit_lt_two_pow (Nat.lt_of_lt_of_le ha (Nat.pow_le_pow_right (n := 2) (i := 8) (by omega) (by omega)))
    rw [this]
    rfl
theorem bit8 {a c : Nat} (ha : a < 256) (hc : c < 8) : ieq (bitop .and .u64 (shrI .u64 (a : Int) (c : Int)) 1) 1 = a.testBit c := by
  have hk : ((List.range 256).all fun a => (List.range 8).all fun c => ieq (bitop .and .u64 (shrI .u64 (a : Int) (c : Int)) 1) 1 == a.testBit c) = true := by kernel_rfl
  exact eq_of_beq (List.all_eq_true.1 (List.all_eq_true.1 hk a (List.mem_range.2 ha)) c (List.mem_range.2 hc))
noncomputable def pcC (s : Nat) : Bool := match Zq43 0 (s : Int) with
  | some r => r.1.1 == (((List.range 8).filter fun c => s.testBit c).length : Int)
  | none => false
theorem pc256 {s : Nat} (hs : s < 256) (N : Nat) : Zq21 N (s : Int) = some (((((List.range 8).filter fun c => s.testBit c).length : Int), ()), ()) := by
  have hc : ((List.range 256).all pcC) = true := by kernel_rfl
  have h2 : pcC s = true := List.all_eq_true.1 hc s (List.mem_range.2 hs)
  have h3 : (((Zq43 0 (s : Int)).get rfl).1.1 == (((List.range 8).filter fun c => s.testBit c).length : Int)) = true := h2
  have h4 := eq_of_beq h3
  unfold Zq21 Zq42
  show some ((((Zq43 0 (s : Int)).get rfl).1.1, ()), ()) = _
  rw [h4]
theorem bagOf_eq {N : Nat} {xs : List Int} (hx : ∀ y ∈ xs, 0 ≤ y ∧ y < 8) (hl : xs.length ≤ 1048576) (hN : 1048577 ≤ N) : ∃ a : Nat, Zq19 N xs = some (((a : Int), ()), ()) ∧ a < 256 ∧ ∀ c, a.testBit c = true ↔ (c : Int) ∈ xs := by
  have key := loop_list (xs := xs) (L := fun K n s => Zq19_l0 N (fun out => some ((out, ()), ())) K s xs (xs.length : Int) n) (k := fun s => some ((s, ()), ())) (fun (s : Int) y => bitop .or .u64 s (shlI .u64 1 y))
    (fun n s => ∃ a : Nat, s = a ∧ a < 256 ∧ ∀ c, a.testBit c = true ↔ (c : Int) ∈ xs.take n) (fun K n s hn _ => ?_) (fun K n s hn _ => ?_) (fun n s hn h => ?_) (s := 0) (K := N) (by omega) ⟨0, rfl, by omega, fun c => by simp⟩
  · obtain ⟨h1, a, h2, h3, h4⟩ := key
    refine ⟨a, ?_, h3, fun c => by rw [h4 c, List.take_length]⟩
    unfold Zq19
    rw [← h2, tLen_n]
    exact h1
  · simp only [Zq19_l0, ilt_nf hn, br_f]
  · have hy := hx _ (List.getElem_mem hn)
    simp only [Zq19_l0, ilt_n hn, br_t, inb_n hn, chk_t]
    rw [rdI_n hn, ile_t (by omega), chk_t, wrap_succ (by omega)]
  · obtain ⟨a, h2, h3, h4⟩ := h
    have hy := hx _ (List.getElem_mem hn)
    obtain ⟨ny, ey⟩ : ∃ q : Nat, xs[n] = q := ⟨xs[n].toNat, by omega⟩
    have hny : ny < 8 := by omega
    have hp : 2 ^ ny < 256 := Nat.pow_lt_pow_right (n := 8) (by omega) hny
    refine ⟨a ||| 2 ^ ny, ?_, Nat.or_lt_two_pow (n := 8) h3 hp, fun c => ?_⟩
    · rw [h2, ey, shl8 ny (by omega), orN (by omega) (by omega)]
    · rw [Nat.testBit_or, Bool.or_eq_true, h4 c, Nat.testBit_two_pow, decide_eq_true_eq, List.take_add_one, List.getElem?_eq_getElem hn]
      simp only [Option.toList_some, List.mem_append, List.mem_singleton]
      constructor
      · rintro (h | h)
        · exact .inl h
        · exact .inr (by rw [ey, h])
      · rintro (h | h)
        · exact .inl h
        · rw [ey] at h
          exact .inr (by omega)
theorem bagList_eq {N : Nat} {a : Nat} (ha : a < 256) (hN : 1048577 ≤ N) : Zq20 N (a : Int) = some ((((List.range' 0 8).filter fun c => decide (a.testBit c = true)).map (fun c : Nat => (c : Int)), ()), ()) := by
  unfold Zq20
  refine (loop_iter (L := fun K n o => Zq20_l0 N (fun o => some ((o, ()), ())) K (a : Int) n o) (k := fun o => some ((o, ()), ())) (Inv := fun n o => o.length ≤ n) (step := fun n o => if a.testBit n = true then o ++ [(n : Int)] else o) (fun K n s hn _ => ?_) (fun K n s hn hs => ?_) (fun n s hn h => ?_) (s := []) (m := 8) (K := N) (by omega) (Nat.zero_le _)).trans ?_
  · simp only [Zq20_l0]
    rw [ilt_f (by omega), br_f]
  · simp only [Zq20_l0]
    rw [ilt_t (by omega), br_t, ile_t (by omega), chk_t, bit8 ha hn, wrap_succ (by omega), room_ok (by simp; omega), chk_t, br_ite]
    by_cases h : a.testBit n = true
    · rw [if_pos h, if_pos h]
      rfl
    · rw [if_neg h, if_neg h]
  · by_cases hc : a.testBit n = true
    · rw [if_pos hc]; simp; omega
    · rw [if_neg hc]; omega
  · rw [iter_app]
    rfl
theorem iter_fold {σ : Type} {p : Nat → Prop} [DecidablePred p] (f : σ → Nat → σ) : ∀ (d n : Nat) (s : σ), iter (fun n s => if p n then f s n else s) d n s = ((List.range' n d).filter fun i => decide (p i)).foldl f s := by
  intro d
  induction d with
  | zero => intro n s; rfl
  | succ d ih =>
    intro n s
    unfold iter
    rw [ih, List.range'_succ]
    by_cases h : p n <;> simp [h]
theorem l2Neighbors_eq {N : Nat} {m : Nat} {es : List (Int × Int)} {x : Int} (hm : m ≤ 8) (hx : es.length ≤ 1048576) (hN : 1048577 ≤ N) : Zq77 N ((m : Int), es) x = some ((nbr m es x, ()), ()) := by
  unfold Zq77
  refine (loop_iter (L := fun K n o => Zq77_l0 N (fun o => some ((o, ()), ())) K x n (m : Int) es o) (k := fun o => some ((o, ()), ())) (Inv := fun n o => o.length ≤ n) (step := fun n o => if nearG es x (n : Int) then o ++ [(n : Int)] else o) (fun K n s hn _ => ?_) (fun K n s hn hs => ?_) (fun n s hn h => ?_) (s := []) (m := m) (K := N) (by omega) (Nat.zero_le _)).trans ?_
  · simp only [Zq77_l0, ilt_nf hn, br_f]
  · simp only [Zq77_l0, ilt_n hn, br_t, l2Near_eq (g := ((m : Int), es)) hx hN, bind_some']
    rw [wrap_succ (by omega), room_ok (by simp; omega), chk_t]
    by_cases h : nearG es x (n : Int)
    · rw [decide_eq_true h, br_t, if_pos h]
      rfl
    · rw [if_neg h, decide_eq_false h, br_f]
  · by_cases hc : nearG es x (n : Int)
    · rw [if_pos hc]; simp; omega
    · rw [if_neg hc]; omega
  · rw [iter_app]
    rfl
theorem foldl_filter {α : Type} (p : α → Bool) : ∀ (xs o : List α), xs.foldl (fun o x => if p x = true then o ++ [x] else o) o = o ++ xs.filter p := by
  intro xs
  induction xs with
  | nil => intro o; simp
  | cons x xs ih =>
    intro o
    rw [List.foldl_cons, ih]
    by_cases h : p x = true <;> simp [h]
theorem l3Only_eq {N : Nat} {a b : List Int} (ha : a.length ≤ 1048576) (hb : b.length ≤ 1048576) (hN : 1048577 ≤ N) : spec_l3Only N a b = some ((a.filter fun x => !decide (x ∈ b), ()), ()) := by
  unfold spec_l3Only
  refine (loop_list (xs := a) (L := fun K n o => spec_l3Only_l0 N (fun o => some ((o, ()), ())) K a b n o) (k := fun o => some ((o, ()), ())) (fun o x => if (!decide (x ∈ b)) = true then o ++ [x] else o) (fun n o => o.length ≤ n) (fun K n s hn _ => ?_) (fun K n s hn hs => ?_) (fun n s hn h => ?_) (s := []) (K := N) (by omega) (Nat.zero_le _)).1.trans ?_
  · simp only [spec_l3Only_l0, ilt_lenf hn, br_f]
  · simp only [spec_l3Only_l0, ilt_len hn, br_t, inb_n hn, chk_t, l1Has_eq hb hN, bind_some']
    rw [wrap_succ (by omega), room_ok (by simp; omega), chk_t, br_ite, rdI_n hn]
    by_cases h : (!decide (a[n] ∈ b)) = true
    · rw [if_pos h, if_pos h]
      rfl
    · rw [if_neg h, if_neg h]
  · by_cases h' : (!decide (s ∈ ([] : List (List Int)))) = true
    · by_cases hc : (!decide (a[n] ∈ b)) = true
      · simp only [if_pos hc]; simp; omega
      · simp only [if_neg hc]; omega
    · simp at h'
  · rw [foldl_filter, List.nil_append]
noncomputable def dgP (m : Nat) (es : List (Int × Int)) (out : List Int) (x : Int) : Nat := ((nbr m es x).filter fun y => !decide (y ∈ out)).length
noncomputable def cand (m : Nat) (out : List Int) : List Nat := (List.range' 0 m).filter fun c => decide ((c : Int) ∉ out)
theorem mem_cand {m : Nat} {out : List Int} {c : Nat} : c ∈ cand m out ↔ c < m ∧ (c : Int) ∉ out := by
  unfold cand
  rw [List.mem_filter, List.mem_range'_1, decide_eq_true_eq]
  exact ⟨fun h => ⟨by omega, h.2⟩, fun h => ⟨by omega, h.2⟩⟩
theorem range8 {m : Nat} (hm : m ≤ 8) (p : Nat → Bool) (hp : ∀ c, p c = true → c < m) : (List.range' 0 8).filter p = (List.range' 0 m).filter p := by
  have e : List.range' 0 8 = List.range' 0 m ++ List.range' m (8 - m) := by
    have := List.range'_append_1 (s := 0) (m := m) (n := 8 - m)
    rw [Nat.zero_add, show m + (8 - m) = 8 by omega] at this
    exact this.symm
  have h0 : (List.range' m (8 - m)).filter p = [] := List.filter_eq_nil_iff.2 fun c hc h => by
    have h1 := List.mem_range'_1.1 hc
    have h2 := hp c h
    omega
  rw [e, List.filter_append, h0, List.append_nil]
theorem deg_eq {m r a : Nat} {es : List (Int × Int)} {out : List Int} {x : Int} (hm : m ≤ 8) (hr : ∀ c, r.testBit c = true ↔ (c : Int) ∈ nbr m es x) (ha : ∀ c, a.testBit c = true ↔ c < m ∧ (c : Int) ∉ out) : ((List.range 8).filter fun c => (r &&& a).testBit c).length = dgP m es out x := by
  unfold dgP nbr
  rw [List.filter_map, List.length_map, List.filter_filter, List.range_eq_range', range8 hm]
  · congr 1
    refine List.filter_congr fun c hc => ?_
    have hcm := List.mem_range'_1.1 hc
    rw [Nat.testBit_and, Bool.eq_iff_iff, Bool.and_eq_true, Bool.and_eq_true, hr c, ha c, mem_nbr]
    simp only [Function.comp, Bool.not_eq_true', decide_eq_false_iff_not, decide_eq_true_eq]
    constructor
    · rintro ⟨⟨i, h1, h2, h3⟩, h4, h5⟩
      have : i = c := by omega
      subst this
      exact ⟨h5, h2⟩
    · rintro ⟨h1, h2⟩
      exact ⟨⟨c, by omega, h2, rfl⟩, by omega, h1⟩
  · intro c h
    rw [Nat.testBit_and, Bool.and_eq_true] at h
    exact ((ha c).1 h.2).1
theorem dgP_lt {m : Nat} {es : List (Int × Int)} (hg : goodG ((m : Int), es)) {out : List Int} {x : Nat} (hx : x < m) : dgP m es out x < m := by
  unfold dgP nbr
  refine Nat.lt_of_le_of_lt (List.length_filter_le ..) ?_
  rw [List.length_map]
  have := List.length_filter_lt_length_iff_exists (l := List.range' 0 m) (p := fun i : Nat => decide (nearG es x (i : Int))) |>.2 ⟨x, List.mem_range'_1.2 (by omega), by
    rw [decide_eq_true_eq]
    exact near_ne hg (a := (x : Int))⟩
  simpa using this
noncomputable def scS (m : Nat) (es : List (Int × Int)) (out : List Int) (s : Int × Int) (x : Nat) : Int × Int := if s.1 < 0 ∨ (dgP m es out x : Int) < s.2 then ((x : Int), (dgP m es out x : Int)) else s
noncomputable def scI (m : Nat) (es : List (Int × Int)) (out : List Int) (s : Int × Int) (x : Nat) : Int × Int := if (dgP m es out x : Int) < s.2 then ((x : Int), (dgP m es out x : Int)) else s
theorem scan_rel {m : Nat} {es : List (Int × Int)} {out : List Int} (hm : m ≤ 8) (hg : goodG ((m : Int), es)) : ∀ (xs : List Nat) (s t : Int × Int), (∀ x ∈ xs, x < m) → (s = (-1, 0) ∧ t = (-1, 8) ∨ s = t ∧ 0 ≤ s.1) → xs ≠ [] →
    xs.foldl (scS m es out) s = xs.foldl (scI m es out) t ∧ ((∃ b ∈ xs, (xs.foldl (scS m es out) s).1 = (b : Int)) ∨ xs.foldl (scS m es out) s = s ∧ 0 ≤ s.1) := by
  intro xs
  induction xs with
  | nil => intro s t _ _ h; exact absurd rfl h
  | cons x xs ih =>
    intro s t hx hst _
    have hd := dgP_lt hg (out := out) (hx x (List.mem_cons_self ..))
    have hstep : scS m es out s x = scI m es out t x ∧ 0 ≤ (scS m es out s x).1 ∧ ((scS m es out s x).1 = (x : Int) ∨ scS m es out s x = s ∧ 0 ≤ s.1) := by
      unfold scS scI
      rcases hst with ⟨rfl, rfl⟩ | ⟨rfl, h0⟩
      · rw [if_pos (Or.inl (by omega)), if_pos (by simp only; omega)]
        exact ⟨rfl, by simp only; omega, .inl rfl⟩
      · by_cases h : (dgP m es out x : Int) < s.2
        · rw [if_pos (Or.inr h), if_pos h]
          exact ⟨rfl, by simp only; omega, .inl rfl⟩
        · rw [if_neg (fun h' => h'.elim (by omega) h), if_neg h]
          exact ⟨rfl, h0, .inr ⟨rfl, h0⟩⟩
    obtain ⟨h1, h2, h3⟩ := hstep
    rw [List.foldl_cons, List.foldl_cons]
    by_cases hn : xs = []
    · subst hn
      refine ⟨h1, ?_⟩
      rcases h3 with h3 | h3
      · exact .inl ⟨x, List.mem_cons_self .., h3⟩
      · exact .inr h3
    · obtain ⟨q1, q2⟩ := ih _ (scI m es out t x) (fun y hy => hx y (List.mem_cons_of_mem _ hy)) (.inr ⟨h1, h2⟩) hn
      refine ⟨q1, ?_⟩
      rcases q2 with ⟨b, hb, e⟩ | ⟨e, _⟩
      · exact .inl ⟨b, List.mem_cons_of_mem _ hb, e⟩
      · rcases h3 with h3 | ⟨h3, h4⟩
        · exact .inl ⟨x, List.mem_cons_self .., by rw [e, h3]⟩
        · exact .inr ⟨by rw [e, h3], h4⟩
theorem spec_scan_eq {R : Type} {N : Nat} (k0 : Int → Int → Int → Int → List (Int × Int) → List Int → Option R) {m : Nat} {es : List (Int × Int)} {out : List Int} {most : Int} (hm : m ≤ 8) (hx : es.length ≤ 1048576) (ho : out.length ≤ 1048576) (hN : 1048577 ≤ N) :
    spec_l5Peeling_l0_0 N k0 N most (-1) 0 0 (m : Int) es out = k0 most ((cand m out).foldl (scS m es out) (-1, 0)).1 ((cand m out).foldl (scS m es out) (-1, 0)).2 (m : Int) es out := by
  refine (loop_iter (L := fun K n (s : Int × Int) => spec_l5Peeling_l0_0 N k0 K most s.1 s.2 n (m : Int) es out) (k := fun s => k0 most s.1 s.2 (m : Int) es out) (Inv := fun _ _ => True) (step := fun n s => if (n : Int) ∉ out then scS m es out s n else s) (fun K n s hn _ => ?_) (fun K n s hn hs => ?_) (fun n s hn h => trivial) (s := (-1, 0)) (m := m) (K := N) (by omega) trivial).trans ?_
  · simp only [spec_l5Peeling_l0_0, ilt_nf hn, br_f]
  · have hl := nbr_len m es (n : Int)
    simp only [spec_l5Peeling_l0_0, ilt_n hn, br_t, l2Neighbors_eq hm hx hN, l3Only_eq (show (nbr m es (n : Int)).length ≤ 1048576 by omega) ho hN, l1Has_eq ho hN, bind_some']
    rw [wrap_succ (by omega)]
    by_cases h : (n : Int) ∈ out
    · rw [decide_eq_true h, Bool.not_true, br_f, if_neg (fun h' => h' h)]
    · rw [decide_eq_false h, Bool.not_false, br_t, if_pos h]
      unfold scS
      have e : tLen ((nbr m es (n : Int)).filter fun x => !decide (x ∈ out)) = (dgP m es out n : Int) := rfl
      rw [e]
      by_cases h1 : s.1 < 0
      · rw [ilt_t h1, br_t, if_pos (Or.inl h1)]
      · rw [ilt_f h1, br_f]
        by_cases h2 : (dgP m es out n : Int) < s.2
        · rw [ilt_t h2, br_t, if_pos (Or.inr h2)]
        · rw [ilt_f h2, br_f, if_neg (fun h' => h'.elim h1 h2)]
  · rw [iter_fold]
    rfl
theorem impl_scan_eq {R : Type} {N : Nat} (k0 : Int → Int → Int → Int → Int → List (Int × Int) → List Int → Option R) {m a : Nat} {es : List (Int × Int)} {out : List Int} {most : Int} (hm : m ≤ 8) (hg : goodG ((m : Int), es)) (hx : es.length ≤ 1048576) (ha : a < 256) (hb : ∀ c, a.testBit c = true ↔ c < m ∧ (c : Int) ∉ out) (hN : 1048577 ≤ N) :
    Zq17_l0_0 N k0 N most a (-1) 8 ((((cand m out).map (fun c : Nat => (c : Int))).length : Nat) : Int) 0 (m : Int) es out ((cand m out).map (fun c : Nat => (c : Int))) = k0 most a ((cand m out).foldl (scI m es out) (-1, 8)).1 ((cand m out).foldl (scI m es out) (-1, 8)).2 (m : Int) es out := by
  have hlen : (cand m out).length ≤ m := by
    unfold cand
    exact Nat.le_trans (List.length_filter_le ..) (by simp)
  have key := (loop_list (xs := (cand m out).map (fun c : Nat => (c : Int))) (L := fun K n (s : Int × Int) => Zq17_l0_0 N k0 K most a s.1 s.2 ((((cand m out).map (fun c : Nat => (c : Int))).length : Nat) : Int) n (m : Int) es out ((cand m out).map (fun c : Nat => (c : Int)))) (k := fun s => k0 most a s.1 s.2 (m : Int) es out) (fun s x => scI m es out s x.toNat) (fun _ _ => True) (fun K n s hn _ => ?_) (fun K n s hn hs => ?_) (fun n s hn h => trivial) (s := (-1, 8)) (K := N) (by simp; omega) trivial).1
  · refine key.trans ?_
    rw [List.foldl_map]
    rfl
  · simp only [Zq17_l0_0, ilt_nf hn, br_f]
  · have hl2 : n < (cand m out).length := by simpa using hn
    have hel : ((cand m out).map (fun c : Nat => (c : Int)))[n] = (((cand m out)[n] : Nat) : Int) := by simp
    have hnl := nbr_len m es ((((cand m out)[n] : Nat) : Int))
    obtain ⟨r, r1, r2, r3⟩ := bagOf_eq (N := N) (xs := nbr m es ((((cand m out)[n] : Nat) : Int))) (fun y hy => by
      obtain ⟨i, hi, _, rfl⟩ := mem_nbr.1 hy
      omega) (by omega) hN
    have hra : r &&& a < 256 := Nat.and_lt_two_pow (n := 8) _ ha
    simp only [Zq17_l0_0, ilt_n hn, br_t, inb_n hn, chk_t]
    rw [rdI_n hn, hel, neighbors_eq hg hx hN]
    simp only [bind_some', r1]
    rw [andN (by omega) (by omega), pc256 hra, deg_eq hm r3 hb]
    simp only [bind_some']
    rw [wrap_succ (by omega), Int.toNat_natCast]
    unfold scI
    by_cases h : (dgP m es out ((((cand m out)[n] : Nat) : Int)) : Int) < s.2
    · rw [ilt_t h, br_t, if_pos h]
    · rw [ilt_f h, br_f, if_neg h]
theorem cand_less {m : Nat} {out : List Int} {b : Nat} (hb : b ∈ cand m out) : (cand m (out ++ [(b : Int)])).length + 1 = (cand m out).length := by
  have hnd : (cand m out).Nodup := by
    unfold cand
    exact List.Pairwise.filter _ (List.nodup_range')
  have e : cand m (out ++ [(b : Int)]) = (cand m out).filter (fun x => x != b) := by
    unfold cand
    rw [List.filter_filter]
    refine List.filter_congr fun c _ => ?_
    rw [Bool.eq_iff_iff, Bool.and_eq_true, decide_eq_true_eq, decide_eq_true_eq, bne_iff_ne]
    simp only [List.mem_append, List.mem_singleton, not_or]
    constructor
    · rintro ⟨h1, h2⟩
      exact ⟨by omega, h1⟩
    · rintro ⟨h1, h2⟩
      exact ⟨h2, by omega⟩
  rw [e, ← hnd.erase_eq_filter, List.length_erase_of_mem hb]
  have := List.length_pos_of_mem hb
  omega
theorem peel_ex {N : Nat} {m : Nat} {es : List (Int × Int)} (hm : m ≤ 8) (hg : goodG ((m : Int), es)) (hx : es.length ≤ 1048576) (hN : 1048577 ≤ N) : ∀ (d : Nat) (out : List Int) (most : Int) (a K1 K2 : Nat), (cand m out).length = d → out.length + d = m → a < 256 → (∀ c, a.testBit c = true ↔ c < m ∧ (c : Int) ∉ out) → d < K1 → d < K2 →
    ∃ r : List Int × Int, r.1.length = m ∧ spec_l5Peeling_l0 N (fun most o => some ((o, most, ()), ())) K1 most (m : Int) es out = some ((r.1, r.2, ()), ()) ∧ Zq17_l0 N (fun most o => some ((o, most, true, ()), ())) K2 most a (m : Int) es out = some ((r.1, r.2, true, ()), ()) := by
  intro d
  induction d with
  | zero =>
    intro out most a K1 K2 hc ho ha hb hK1 hK2
    obtain ⟨k1, rfl⟩ := succ_of hK1
    obtain ⟨k2, rfl⟩ := succ_of hK2
    have hnil := List.length_eq_zero_iff.1 hc
    have h0 : a = 0 := Nat.eq_of_testBit_eq fun i => by
      rw [Nat.zero_testBit]
      refine Bool.eq_false_iff.2 fun h => ?_
      have := mem_cand.2 ((hb i).1 h)
      rw [hnil] at this
      cases this
    refine ⟨(out, most), by simp only; omega, ?_, ?_⟩
    · simp only [spec_l5Peeling_l0]
      rw [ilt_f (by rw [tLen_n]; omega), br_f]
    · simp only [Zq17_l0]
      rw [h0, show ine ((0 : Nat) : Int) 0 = false from rfl, br_f]
  | succ d ih =>
    intro out most a K1 K2 hc ho ha hb hK1 hK2
    obtain ⟨k1, rfl⟩ := succ_of hK1
    obtain ⟨k2, rfl⟩ := succ_of hK2
    have hne : cand m out ≠ [] := fun h => by rw [h] at hc; simp at hc
    obtain ⟨q1, q2⟩ := scan_rel (out := out) hm hg (cand m out) (-1, 0) (-1, 8) (fun x h => (mem_cand.1 h).1) (.inl ⟨rfl, rfl⟩) hne
    obtain ⟨b, hbc, hbe⟩ : ∃ b ∈ cand m out, ((cand m out).foldl (scS m es out) (-1, 0)).1 = (b : Int) := by
      rcases q2 with h | ⟨_, h⟩
      · exact h
      · exact absurd h (by simp)
    obtain ⟨hbm, hbo⟩ := mem_cand.1 hbc
    have ha0 : a ≠ 0 := fun h => by
      have := (hb b).2 ⟨hbm, hbo⟩
      rw [h, Nat.zero_testBit] at this
      cases this
    have hl : (List.range' 0 8).filter (fun c => decide (a.testBit c = true)) = cand m out := by
      rw [range8 hm _ fun c h => ((hb c).1 (of_decide_eq_true h)).1]
      unfold cand
      refine List.filter_congr fun c hc => ?_
      have := List.mem_range'_1.1 hc
      refine decide_eq_decide.2 ((hb c).trans ⟨fun h => h.2, fun h => ⟨by omega, h⟩⟩)
    obtain ⟨a', e1, e2, e3⟩ := less8 (c := b) ha (by omega)
    have hcl := cand_less hbc
    obtain ⟨r, r1, r2, r3⟩ := ih (out ++ [(b : Int)]) (if ((cand m out).foldl (scS m es out) (-1, 0)).2 < most then most else ((cand m out).foldl (scS m es out) (-1, 0)).2) a' k1 k2 (by omega) (by simp; omega) e2 (fun c => by
      rw [e3 c, Bool.and_eq_true, hb c, decide_eq_true_eq]
      simp only [List.mem_append, List.mem_singleton, not_or]
      constructor
      · rintro ⟨⟨h1, h2⟩, h3⟩
        exact ⟨h1, h2, by omega⟩
      · rintro ⟨h1, h2, h3⟩
        exact ⟨⟨h1, h2⟩, by omega⟩) (by omega) (by omega)
    refine ⟨r, r1, ?_, ?_⟩
    · simp only [spec_l5Peeling_l0]
      rw [ilt_t (by rw [tLen_n]; omega), br_t, spec_scan_eq _ hm hx (by omega) hN, room_ok (by simp; omega), chk_t, l1Most_eq]
      simp only [bind_some']
      rw [hbe]
      exact r2
    · simp only [Zq17_l0]
      rw [ine_t (by omega), br_t, bagList_eq ha hN]
      simp only [bind_some']
      rw [hl, tLen_n, impl_scan_eq _ hm hg hx ha hb hN, ← q1, hbe, room_ok (by simp; omega), chk_t, ile_t (by omega), chk_t, shl8 b (by omega), e1]
      have em : (if ((cand m out).foldl (scS m es out) (-1, 0)).2 > most then ((cand m out).foldl (scS m es out) (-1, 0)).2 else most) = (if ((cand m out).foldl (scS m es out) (-1, 0)).2 < most then most else ((cand m out).foldl (scS m es out) (-1, 0)).2) := by
        by_cases h : ((cand m out).foldl (scS m es out) (-1, 0)).2 > most
        · rw [if_pos h, if_neg (by omega)]
        · rw [if_neg h]
          by_cases h' : ((cand m out).foldl (scS m es out) (-1, 0)).2 < most
          · rw [if_pos h']
          · rw [if_neg h']; omega
      rw [em]
      exact r3
theorem all8 : ∀ m : Nat, m ≤ 8 → IntKind.u64.wrap (shlI .u64 1 (m : Int) - 1) = ((2 ^ m - 1 : Nat) : Int)
  | 0, _ => by kernel_rfl
  | 1, _ => by kernel_rfl
  | 2, _ => by kernel_rfl
  | 3, _ => by kernel_rfl
  | 4, _ => by kernel_rfl
  | 5, _ => by kernel_rfl
  | 6, _ => by kernel_rfl
  | 7, _ => by kernel_rfl
  | 8, _ => by kernel_rfl
  | n + 9, h => by omega
theorem peel_eq {N : Nat} {g : Int × List (Int × Int)} (hx : g.2.length ≤ 1048576) (hN : 1048577 ≤ N) : ∃ r : List Int × Int × Bool, r.1.length ≤ 8 ∧ spec_PeelingOf N g = some ((r.1, r.2.1, r.2.2, ()), ()) ∧ Zq17 N g = some ((r.1, r.2.1, r.2.2, ()), ()) := by
  unfold spec_PeelingOf Zq17 spec_l5Peeling Zq5
  simp only [l2Good_eq hx hN, IsGraph_eq hx hN, bind_some']
  by_cases hg : goodG g
  · obtain ⟨m0, es⟩ := g
    have hm := hg.1
    simp only at hx hm
    obtain ⟨m, rfl⟩ : ∃ m : Nat, m0 = m := ⟨m0.toNat, by omega⟩
    have hm8 : m ≤ 8 := by omega
    have hp : 2 ^ m ≤ 256 := show 2 ^ m ≤ 2 ^ 8 from Nat.pow_le_pow_right (by omega) hm8
    have hpos : 0 < 2 ^ m := Nat.pos_of_ne_zero (by simp)
    have hc : (cand m []).length = m := by
      unfold cand
      rw [List.filter_eq_self.2 (fun c _ => decide_eq_true (by simp))]
      simp
    obtain ⟨r, r1, r2, r3⟩ := peel_ex (N := N) hm8 hg hx hN m [] (-1) (2 ^ m - 1) N N hc (by simp) (by omega) (fun c => by rw [Nat.testBit_two_pow_sub_one, decide_eq_true_eq]; simp) (by omega) (by omega)
    refine ⟨(r.1, r.2, true), by simp only; omega, ?_, ?_⟩
    · rw [decide_eq_true hg, Bool.not_true, br_f, r2]
      rfl
    · rw [decide_eq_true hg, Bool.not_true, br_f, ile_t (by omega), chk_t, all8 m hm8]
      simp only [bind_some']
      exact r3
  · refine ⟨([], 0, false), Nat.zero_le _, ?_, ?_⟩
    · rw [decide_eq_false hg, Bool.not_false, br_t]
    · rw [decide_eq_false hg, Bool.not_false, br_t]
theorem nodup_le : ∀ {a b : List Int}, a.Nodup → (∀ x ∈ a, x ∈ b) → a.length ≤ b.length := by
  intro a
  induction a with
  | nil => intro b _ _; exact Nat.zero_le _
  | cons x a ih =>
    intro b hn hs
    obtain ⟨h1, h2⟩ := List.nodup_cons.1 hn
    have hx := hs x (List.mem_cons_self ..)
    have := ih (b := b.erase x) h2 fun y hy => (List.mem_erase_of_ne (fun (e : y = x) => h1 (e ▸ hy))).2 (hs y (List.mem_cons_of_mem _ hy))
    rw [List.length_erase_of_mem hx] at this
    have := List.length_pos_of_mem hx
    rw [List.length_cons]
    omega
def strict (xs : List Int) : Prop := xs.Pairwise (· < ·)
theorem strict_nodup {xs : List Int} (h : strict xs) : xs.Nodup := h.imp fun hab e => by omega
def inM (m : Nat) (o : List Int) : Prop := o.Nodup ∧ ∀ z ∈ o, 0 ≤ z ∧ z < (m : Int)
theorem inM_len {m : Nat} {o : List Int} (h : inM m o) : o.length ≤ m := by
  have := nodup_le (b := (List.range m).map fun i : Nat => (i : Int)) h.1 fun z hz => by
    have := h.2 z hz
    exact List.mem_map.2 ⟨z.toNat, List.mem_range.2 (by omega), by omega⟩
  simpa using this
def stepsC (f : Nat → List (List Int) → List (List Int)) : Nat → Nat → List (List Int) → List (List Int)
  | 0, _, l => l
  | r + 1, c, l => if l.length ≤ 300 then stepsC f r (c + 1) (f c l) else l
def freeC (es : List (Int × Int)) (b : List Int) (c : Int) : Prop := ∀ y : Nat, y < b.length → ¬ (rdI b y = c ∧ nearG es y (b.length : Int))
noncomputable def moreC (k : Nat) (es : List (Int × Int)) : Nat → List Int → List (List Int) → List (List Int)
  | 0, b, l => l ++ [b]
  | d + 1, b, l => stepsC (fun c l => if freeC es b (c : Int) then moreC k es d (b ++ [(c : Int)]) l else l) k 0 l
theorem stepsC_inv {f : Nat → List (List Int) → List (List Int)} {p : List (List Int) → Prop} (h : ∀ c l, l.length ≤ 300 → p l → p (f c l)) : ∀ (r c : Nat) (l : List (List Int)), p l → p (stepsC f r c l) := by
  intro r
  induction r with
  | zero => intro c l hl; exact hl
  | succ r ih =>
    intro c l hl
    unfold stepsC
    by_cases h3 : l.length ≤ 300
    · rw [if_pos h3]; exact ih _ _ (h c l h3 hl)
    · rw [if_neg h3]; exact hl
theorem moreC_len {k : Nat} {es : List (Int × Int)} : ∀ (d : Nat) (b : List Int) (l : List (List Int)), l.length ≤ 300 → (moreC k es d b l).length ≤ 301 := by
  intro d
  induction d with
  | zero => intro b l h; simp [moreC]; omega
  | succ d ih =>
    intro b l h
    unfold moreC
    refine stepsC_inv (p := fun l => l.length ≤ 301) (fun c l h1 h2 => ?_) k 0 l (by omega)
    by_cases hf : freeC es b (c : Int)
    · rw [if_pos hf]; exact ih _ _ h1
    · rw [if_neg hf]; exact h2
theorem moreC_rows {k : Nat} {es : List (Int × Int)} {m : Nat} : ∀ (d : Nat) (b : List Int) (l : List (List Int)), b.length + d = m → (∀ x ∈ l, x.length = m) → ∀ x ∈ moreC k es d b l, x.length = m := by
  intro d
  induction d with
  | zero =>
    intro b l hb h x hx
    simp only [moreC, List.mem_append, List.mem_singleton] at hx
    rcases hx with hx | rfl
    · exact h x hx
    · omega
  | succ d ih =>
    intro b l hb h
    unfold moreC
    refine stepsC_inv (p := fun l => ∀ x ∈ l, x.length = m) (fun c l h1 h2 => ?_) k 0 l h
    by_cases hf : freeC es b (c : Int)
    · rw [if_pos hf]; exact ih _ _ (by simp; omega) h2
    · rw [if_neg hf]; exact h2
theorem l5More_l0_0_eq {R : Type} {N : Nat} (hN : 1048577 ≤ N) {slf : (Int × List (Int × Int)) → Int → List Int → List (List Int) → Option ((List (List Int) × Unit) × Unit)} {k0 : Int → List Int → Int → Bool → Int → Bool → List (List Int) → Int → List (Int × Int) → Option R}
    {k c : Int} {b : List Int} {a : Int} {z : Bool} {o : List (List Int)} {m : Int} {es : List (Int × Int)} (hx : es.length ≤ 1048576) (hb : b.length ≤ 1048576) : ∀ (d n K : Nat) (f : Bool), n + d = b.length → d < K →
    Zq88_l0_0 N slf k0 K k b c f (n : Int) a z o m es = k0 k b c (f && decide (∀ y : Nat, n ≤ y → y < b.length → ¬ (rdI b y = c ∧ nearG es y (b.length : Int)))) a z o m es := by
  intro d
  induction d with
  | zero =>
    intro n K f hd hK
    obtain ⟨K, rfl⟩ := succ_of hK
    simp only [Zq88_l0_0, ilt_lenf (show ¬ n < b.length by omega), br_f]
    rw [decide_eq_true (fun y h1 h2 => by omega), Bool.and_true]
  | succ d ih =>
    intro n K f hd hK
    obtain ⟨K, rfl⟩ := succ_of hK
    have hn : n < b.length := by omega
    simp only [Zq88_l0_0, ilt_len hn, br_t, inb_n hn, chk_t]
    rw [wrap_succ (by omega), ih (n + 1) K false (by omega) (by omega), ih (n + 1) K true (by omega) (by omega), l2Near_eq (g := (m, es)) hx hN, bind_some', ih (n + 1) K _ (by omega) (by omega)]
    cases f with
    | false => simp [br_f]
    | true =>
      rw [br_t]
      by_cases h1 : rdI b n = c
      · rw [ine_f h1, br_f]
        congr 1
        rw [Bool.true_and]
        by_cases h2 : nearG es n (b.length : Int)
        · have : ¬ ∀ y : Nat, n ≤ y → y < b.length → ¬ (rdI b y = c ∧ nearG es y (b.length : Int)) := fun h => h n (Nat.le_refl _) hn ⟨h1, h2⟩
          rw [decide_eq_false this, tLen_n, decide_eq_true h2]
          rfl
        · rw [tLen_n, decide_eq_false h2, Bool.not_false, Bool.true_and]
          refine decide_eq_decide.2 ⟨fun h y h3 h4 h5 => ?_, fun h y h3 h4 => h y (by omega) h4⟩
          by_cases e : y = n
          · subst e; exact h2 h5.2
          · exact h y (by omega) h4 h5
      · rw [ine_t h1, br_t]
        congr 1
        rw [Bool.true_and, Bool.true_and]
        refine decide_eq_decide.2 ⟨fun h y h3 h4 h5 => ?_, fun h y h3 h4 => h y (by omega) h4⟩
        by_cases e : y = n
        · subst e; exact h1 h5.1
        · exact h y (by omega) h4 h5
end Go.Proofs.YtkffaahlpdlkoaaGreat
