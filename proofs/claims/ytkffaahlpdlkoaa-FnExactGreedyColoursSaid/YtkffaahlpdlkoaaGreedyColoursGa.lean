/- Statements on data alone. -/
import Derived.Test.YtkffaahlpdlkoaaPvPure
import Derived.Test.YtkffaahlpdlkoaaGreedyColoursFb
set_option linter.all false
set_option linter.all false
namespace Go.Proofs.Ytkffaahlpdlkoaa
open Go Go.PV Classical
theorem toIntS_l0_eq {R : Type} (N : Nat) (k0 : List Int → Option R) (xs : List Int) (hx : xs.length ≤ 1099511627776) : ∀ (d n : Nat) (o : List Int) (K : Nat), n + d = xs.length → d < K → o.length = xs.length →
    laws_toIntS_l0 N k0 K xs n o = k0 (o.take n ++ xs.drop n) := by
  intro d
  induction d with
  | zero =>
    intro n o K hd hK ho
    obtain ⟨k, rfl⟩ := succ_of hK
    have hn : ¬ n < xs.length := by omega
    simp only [laws_toIntS_l0, ilt_lenf hn, br_f]
    rw [List.take_of_length_le (by omega), List.drop_of_length_le (by omega), List.append_nil]
  | succ d ih =>
    intro n o K hd hK ho
    obtain ⟨k, rfl⟩ := succ_of hK
    have hn : n < xs.length := by omega
    have hno : n < o.length := by omega
    simp only [laws_toIntS_l0, ilt_len hn, inb_n hn, inb_n hno, br_t, chk_t]
    rw [wrap_succ (by omega), tSet_n, rdI_n hn, ih (n + 1) _ k (by omega) (by omega) (by simpa using ho)]
    congr 1
    rw [drop_cons hn, List.take_add_one, List.getElem?_set_self (by omega), List.take_set_of_le (Nat.le_refl n)]
    simp
theorem toIntS_eq {N : Nat} {xs : List Int} (hx : xs.length ≤ 1048576) (hN : 1048577 ≤ N) : laws_toIntS N xs = some ((xs, ()), ()) := by
  unfold laws_toIntS
  simp only [tLen_n, ile_t (show (0 : Int) ≤ (xs.length : Int) by omega), ile_t (Int.le_refl _), fits_ok (show xs.length ≤ 1099511627776 by omega), Bool.and_self, chk_t]
  have := toIntS_l0_eq N (fun o => some ((o, ()), ())) xs (by omega) xs.length 0 (tRep (xs.length : Int) 0) N (by omega) (by omega) (by simp [tRep])
  simp only [Int.natCast_zero, List.take_zero, List.drop_zero, List.nil_append] at this
  exact this
theorem eqIntS_l0_eq {R : Type} (N : Nat) (k0 : Bool → Option R) (k1 : Unit → Option R) (a b : List Int) (hx : a.length ≤ 1099511627776) (hl : a.length = b.length) : ∀ (d n : Nat) (K : Nat), n + d = a.length → d < K →
    laws_eqIntS_l0 N k0 k1 K a b n = if a.drop n = b.drop n then k1 () else k0 false := by
  intro d
  induction d with
  | zero =>
    intro n K hd hK
    obtain ⟨k, rfl⟩ := succ_of hK
    have hn : ¬ n < a.length := by omega
    simp only [laws_eqIntS_l0, ilt_lenf hn, br_f]
    rw [if_pos]
    rw [List.drop_of_length_le (by omega), List.drop_of_length_le (by omega)]
  | succ d ih =>
    intro n K hd hK
    obtain ⟨k, rfl⟩ := succ_of hK
    have hn : n < a.length := by omega
    have hnb : n < b.length := by omega
    simp only [laws_eqIntS_l0, ilt_len hn, inb_n hn, inb_n hnb, br_t, chk_t]
    rw [wrap_succ (by omega), rdI_n hn, rdI_n hnb, ih (n + 1) k (by omega) (by omega), drop_cons hn, drop_cons hnb]
    by_cases he : a[n] = b[n]
    · rw [ine_f he, br_f, he]
      simp only [List.cons.injEq, true_and]
    · rw [ine_t he, br_t, if_neg]
      intro h
      injection h with h _
      exact he h
theorem eqIntS_eq {N : Nat} {a b : List Int} (hx : a.length ≤ 1099511627776) (hN : a.length < N) : laws_eqIntS N a b = some ((decide (a = b), ()), ()) := by
  unfold laws_eqIntS
  simp only [tLen_n]
  by_cases hl : a.length = b.length
  · rw [ine_f (by omega), br_f]
    have := eqIntS_l0_eq N (fun x => some ((x, ()), ())) (fun _ => some ((true, ()), ())) a b hx hl a.length 0 N (by omega) (by omega)
    simp only [Int.natCast_zero, List.drop_zero] at this
    rw [this]
    by_cases h : a = b <;> simp [h]
  · rw [ine_t (by omega), br_t]
    have : a ≠ b := fun h => hl (by rw [h])
    simp [this]

/-! ### How much a law lets in -/
theorem all_rdI {xs : List Int} {p : Int → Prop} : (∀ x ∈ xs, p x) ↔ ∀ i : Nat, i < xs.length → p (rdI xs i) := by
  constructor
  · intro h i hi
    rw [rdI_n hi]
    exact h _ (List.getElem_mem hi)
  · intro h x hx
    obtain ⟨i, hi, rfl⟩ := List.mem_iff_getElem.1 hx
    have := h i hi
    rwa [rdI_n hi] at this
theorem all_rdP {xs : List (Int × Int)} {p : Int × Int → Prop} : (∀ x ∈ xs, p x) ↔ ∀ i : Nat, i < xs.length → p (rdP xs i) := by
  constructor
  · intro h i hi
    rw [rdP_n hi]
    exact h _ (List.getElem_mem hi)
  · intro h x hx
    obtain ⟨i, hi, rfl⟩ := List.mem_iff_getElem.1 hx
    have := h i hi
    rwa [rdP_n hi] at this
def findAt {α : Type} (f : α → Bool) : List α → Nat → Int
  | [], _ => -1
  | x :: xs, n => if f x = true then (n : Int) else findAt f xs (n + 1)
theorem findAt_cons {α : Type} (f : α → Bool) (x : α) (xs : List α) (n : Nat) : findAt f (x :: xs) n = if f x = true then (n : Int) else findAt f xs (n + 1) := rfl
theorem findAt_ge {α : Type} (f : α → Bool) : ∀ (xs : List α) (n : Nat), decide (0 ≤ findAt f xs n) = xs.any f := by
  intro xs
  induction xs with
  | nil => intro n; rfl
  | cons x xs ih =>
    intro n
    unfold findAt
    by_cases h : f x = true
    · rw [if_pos h]
      simp [h]
    · rw [if_neg h, ih]
      simp [h]
theorem IndexFunc_LI_int_l0_eq {R : Type} (N : Nat) (k0 : Int → Option R) (k1 : Unit → Option R) (xs : List (Int)) (f : Int → Option Bool) (g : Int → Bool) (hf : ∀ x ∈ xs, f x = some (g x)) (hx : xs.length ≤ 1099511627776) : ∀ (d n : Nat) (K : Nat), n + d = xs.length → d < K →
    slices_IndexFunc_LI_int_l0 N k0 k1 K xs f (xs.length : Int) n = if (xs.drop n).any g = true then k0 (findAt g (xs.drop n) n) else k1 () := by
  intro d
  induction d with
  | zero =>
    intro n K hd hK
    obtain ⟨k, rfl⟩ := succ_of hK
    have hn : ¬ n < xs.length := by omega
    simp only [slices_IndexFunc_LI_int_l0, ilt_nf hn, br_f]
    rw [List.drop_of_length_le (by omega)]
    simp
  | succ d ih =>
    intro n K hd hK
    obtain ⟨k, rfl⟩ := succ_of hK
    have hn : n < xs.length := by omega
    simp only [slices_IndexFunc_LI_int_l0, ilt_n hn, inb_n hn, br_t, chk_t]
    obtain ⟨y, r, e1, e2, e3⟩ := drop_split hn
    rw [wrap_succ (by omega), rdI_n hn, ih (n + 1) k (by omega) (by omega), hf _ (List.getElem_mem hn), bind_some', br_ite, e1, e2, e3, findAt_cons]
    by_cases h : g y = true
    · simp [h]
    · simp [h]
theorem ContainsFunc_LI_int_eq {N : Nat} {xs : List (Int)} {f : Int → Option Bool} {g : Int → Bool} (hf : ∀ x ∈ xs, f x = some (g x)) (hx : xs.length ≤ 1099511627776) (hN : xs.length < N) :
    slices_ContainsFunc_LI_int N xs f = some ((xs.any g, ()), ()) := by
  unfold slices_ContainsFunc_LI_int slices_IndexFunc_LI_int
  have := IndexFunc_LI_int_l0_eq N (fun x => some ((x, ()), ())) (fun _ => some (((-1 : Int), ()), ())) xs f g hf hx xs.length 0 N (by omega) (by omega)
  simp only [Int.natCast_zero, List.drop_zero] at this
  rw [tLen_n, this]
  by_cases h : xs.any g = true
  · rw [if_pos h, bind_some', ile_d, findAt_ge]
  · rw [if_neg h, bind_some']
    simp only [Bool.not_eq_true] at h
    rw [h]
    rfl
theorem l1In_eq (N : Nat) (x a b : Int) : spec_l1In N x a b = some ((decide (a ≤ x ∧ x ≤ b), ()), ()) := by
  unfold spec_l1In
  rw [br_ite, ile_d, ile_d]
  by_cases h : a ≤ x <;> by_cases h' : x ≤ b <;> simp [h, h']
theorem between_eq (N : Nat) (n low high : Int) : impl_between N n low high = some ((decide (low ≤ n ∧ n ≤ high), ()), ()) := by
  unfold impl_between
  rw [br_ite, ile_d, ile_d]
  by_cases h : low ≤ n <;> by_cases h' : n ≤ high <;> simp [h, h']
def risingAt (lo hi : Int) (xs : List Int) (i : Nat) : Prop := (lo ≤ rdI xs i ∧ rdI xs i ≤ hi) ∧ (0 < i → rdI xs ((i - 1 : Nat) : Int) < rdI xs i)
def rising (lo hi : Int) (xs : List Int) : Prop := ∀ i, i < xs.length → risingAt lo hi xs i
theorem isRising_eq {N : Nat} {m : Int} {xs : List Int} (hx : xs.length ≤ 1048576) (hm : 0 ≤ m ∧ m ≤ 4611686018427387904) (hN : 1048577 ≤ N) : impl_isRising N xs m = some ((decide (rising 0 (m - 1) xs), ()), ()) := by
  unfold impl_isRising
  have := loop_all_if (P := rising 0 (m - 1) xs) (L := fun K i => impl_isRising_l0 N (fun x => some ((x, ()), ())) (fun (_ : Unit) => some ((true, ()), ())) K xs m xs (xs.length : Int) i) (risingAt 0 (m - 1) xs) Iff.rfl (kt := some ((true, ()), ())) (kf := some ((false, ()), ())) (fun K n hn => ?_) (fun K n hn hp => ?_) (fun K n hn hp => ?_) (show xs.length < N by omega)
  · rw [show ((0 : Nat) : Int) = 0 from rfl] at this
    rw [tLen_n, this]
    by_cases h : rising 0 (m - 1) xs <;> simp [h]
  · simp only [impl_isRising_l0, ilt_nf hn, br_f]
  · simp only [impl_isRising_l0, ilt_n hn, br_t, inb_n hn, chk_t, between_eq, bind_some', wrap_ok (show -9223372036854775808 ≤ m - 1 by omega) (show m - 1 < 9223372036854775808 by omega)]
    obtain ⟨h1, h2⟩ := hp
    rw [decide_eq_true h1, Bool.not_true, br_f]
    by_cases h0 : 0 < n
    · rw [ilt_0 h0, br_t, wrap_pred (by omega) h0, inb_n (by omega), chk_t, ile_f (by have := h2 h0; omega), br_f, wrap_succ (by omega)]
    · rw [ilt_0n h0, br_f, wrap_succ (by omega)]
  · simp only [impl_isRising_l0, ilt_n hn, br_t, inb_n hn, chk_t, between_eq, bind_some', wrap_ok (show -9223372036854775808 ≤ m - 1 by omega) (show m - 1 < 9223372036854775808 by omega)]
    by_cases h1 : 0 ≤ rdI xs n ∧ rdI xs n ≤ m - 1
    · rw [decide_eq_true h1, Bool.not_true, br_f]
      have h0 : 0 < n := by
        rcases Nat.eq_zero_or_pos n with h0 | h0
        · exact absurd ⟨h1, fun h' => by omega⟩ hp
        · exact h0
      have h4 : ¬ rdI xs ((n - 1 : Nat) : Int) < rdI xs n := fun h' => hp ⟨h1, fun _ => h'⟩
      rw [ilt_0 h0, br_t, wrap_pred (by omega) h0, inb_n (by omega), chk_t, ile_t (by omega), br_t]
    · rw [decide_eq_false h1, Bool.not_false, br_t]
def iotaI : Int → Nat → List Int
  | _, 0 => []
  | k, n + 1 => k :: iotaI (k + 1) n
theorem iotaI_len : ∀ (n : Nat) (k : Int), (iotaI k n).length = n := by
  intro n
  induction n with
  | zero => intro k; rfl
  | succ n ih => intro k; unfold iotaI; rw [List.length_cons, ih]
theorem markIntS_eq {N : Nat} {a : List Int} {k : Int} (hk : 0 ≤ k ∧ k ≤ 2305843009213693952) (ha : a.length ≤ 1048576) (hN : 1048577 ≤ N) : laws_markIntS N a k = some ((k + a.length, ()), (iotaI k a.length, ())) := by
  have go : ∀ (d n : Nat) (o : List Int) (K : Nat) (kv : Int), n + d = o.length → o.length ≤ 1048576 → d < K → 0 ≤ kv → kv + d ≤ 4611686018427387904 →
      laws_markIntS_l0 N (fun kv1 o => some ((kv1, ()), (o, ()))) K kv n o = some ((kv + d, ()), (o.take n ++ iotaI kv d, ())) := by
    intro d
    induction d with
    | zero =>
      intro n o K kv hd ho hK h0 h1
      obtain ⟨k, rfl⟩ := succ_of hK
      have hn : ¬ n < o.length := by omega
      simp only [laws_markIntS_l0, ilt_lenf hn, br_f, iotaI, List.append_nil]
      rw [List.take_of_length_le (by omega)]
      simp
    | succ d ih =>
      intro n o K kv hd ho hK h0 h1
      obtain ⟨k, rfl⟩ := succ_of hK
      have hn : n < o.length := by omega
      simp only [laws_markIntS_l0, ilt_len hn, br_t, inb_n hn, chk_t]
      rw [wrap_succ (by omega), wrap_ok (by omega) (by omega), tSet_n, ih (n + 1) _ k _ (by simp; omega) (by simpa using ho) (by omega) (by omega) (by omega)]
      congr 2
      · congr 1
        omega
      · rw [List.take_add_one, List.getElem?_set_self (by omega), List.take_set_of_le (Nat.le_refl n)]
        simp [iotaI]
  unfold laws_markIntS
  have := go a.length 0 a N k (by omega) ha (by omega) hk.1 (by omega)
  simpa using this
theorem heldIntS_eq {N : Nat} {n : Nat} {k : Int} (hk : 0 ≤ k ∧ k ≤ 2305843009213693952) (ha : n ≤ 1048576) (hN : 1048577 ≤ N) : laws_heldIntS N (iotaI k n) k = some ((k + n, ()), ()) := by
  have go : ∀ (d n : Nat) (xs : List Int) (K : Nat) (kv : Int), n + d = xs.length → xs.length ≤ 1048576 → d < K → 0 ≤ kv → kv + d ≤ 4611686018427387904 → xs.drop n = iotaI kv d →
      laws_heldIntS_l0 N (fun x => some ((x, ()), ())) (fun kv1 => some ((kv1, ()), ())) K xs kv n = some ((kv + d, ()), ()) := by
    intro d
    induction d with
    | zero =>
      intro n xs K kv hd ho hK h0 h1 e
      obtain ⟨k, rfl⟩ := succ_of hK
      have hn : ¬ n < xs.length := by omega
      simp only [laws_heldIntS_l0, ilt_lenf hn, br_f]
      simp
    | succ d ih =>
      intro n xs K kv hd ho hK h0 h1 e
      obtain ⟨k, rfl⟩ := succ_of hK
      have hn : n < xs.length := by omega
      rw [drop_cons hn] at e
      injection e with e1 e2
      simp only [laws_heldIntS_l0, ilt_len hn, br_t, inb_n hn, chk_t]
      rw [rdI_n hn, ine_f e1, br_f, wrap_succ (by omega), wrap_ok (by omega) (by omega), ih (n + 1) _ k _ (by omega) ho (by omega) (by omega) (by omega) e2]
      congr 3
      omega
  unfold laws_heldIntS
  have hl := iotaI_len n k
  have := go n 0 (iotaI k n) N k (by omega) (by omega) (by omega) hk.1 (by omega) rfl
  simpa using this
theorem l1Has_eq {N : Nat} {xs : List Int} {v : Int} (hx : xs.length ≤ 1048576) (hN : 1048577 ≤ N) : spec_l1Has N xs v = some ((decide (v ∈ xs), ()), ()) := by
  unfold spec_l1Has
  have := loop_all_if (P := ∀ x ∈ xs, x ≠ v) (L := fun K i => spec_l1Has_l0 N (fun x => some ((x, ()), ())) (fun (_ : Unit) => some ((false, ()), ())) K xs v i) (fun i => rdI xs i ≠ v) all_rdI (kt := some ((false, ()), ())) (kf := some ((true, ()), ())) (fun K n hn => ?_) (fun K n hn hp => ?_) (fun K n hn hp => ?_) (show xs.length < N by omega)
  · rw [show ((0 : Nat) : Int) = 0 from rfl] at this
    rw [this]
    by_cases h : v ∈ xs
    · rw [if_neg (fun h' => h' v h rfl), decide_eq_true h]
    · rw [if_pos (fun x hx (h' : x = v) => h (h' ▸ hx)), decide_eq_false h]
  · simp only [spec_l1Has_l0, ilt_lenf hn, br_f]
  · simp only [spec_l1Has_l0, ilt_len hn, br_t, inb_n hn, chk_t]
    rw [ieq_f hp, br_f, wrap_succ (by omega)]
  · simp only [spec_l1Has_l0, ilt_len hn, br_t, inb_n hn, chk_t]
    rw [ieq_t (Decidable.not_not.1 hp), br_t]
theorem exists_first (Q : Nat → Prop) (m : Nat) : ∃ v, v ≤ m ∧ (∀ i, i < v → ¬ Q i) ∧ (v < m → Q v) := by
  induction m with
  | zero => exact ⟨0, Nat.le_refl _, fun i h => absurd h (Nat.not_lt_zero _), fun h => absurd h (Nat.not_lt_zero _)⟩
  | succ m ih =>
    obtain ⟨v, h1, h2, h3⟩ := ih
    by_cases hv : v < m
    · exact ⟨v, by omega, h2, fun _ => h3 hv⟩
    · have e : v = m := by omega
      subst e
      by_cases hq : Q v
      · exact ⟨v, by omega, h2, fun _ => hq⟩
      · refine ⟨v + 1, Nat.le_refl _, fun i hi => ?_, fun h => absurd h (Nat.lt_irrefl _)⟩
        by_cases hi' : i < v
        · exact h2 i hi'
        · have : i = v := by omega
          subst this
          exact hq
theorem szIntA2S_eq (N : Nat) {xs : List (Int × Int)} {left : Int} (hl : 0 ≤ left ∧ left ≤ 1048576) (hx : xs.length ≤ 9223372036854775807) : laws_szIntA2S N xs left = some ((if (xs.length : Int) ≤ left then left - xs.length else -1, ()), ()) := by
  unfold laws_szIntA2S
  rw [tLen_n, wrap_ok (by omega) (by omega)]
  by_cases h : (xs.length : Int) ≤ left
  · rw [ilt_f (by omega), br_f, if_pos h]
  · rw [ilt_t (by omega), br_t, if_neg h]
theorem szGraph_eq {N : Nat} {g : Int × List (Int × Int)} (hx : g.2.length ≤ 9223372036854775807) :
    ∃ r : Int, laws_szGraph N g 1048576 = some ((r, ()), ()) ∧ (0 ≤ r → g.2.length ≤ 1048576) := by
  unfold laws_szGraph
  rw [szIntA2S_eq N (by omega) hx, bind_some']
  by_cases h : (g.2.length : Int) ≤ 1048576
  · simp only [if_pos h]
    rw [ilt_f (by omega), br_f]
    exact ⟨_, rfl, fun _ => by omega⟩
  · simp only [if_neg h]
    rw [ilt_t (by omega), br_t]
    exact ⟨-1, rfl, fun h => by omega⟩
theorem toIntA2_eq (N : Nat) (a : Int × Int) : laws_toIntA2 N a = some ((a, ()), ()) := rfl
theorem toIntA2S_eq {N : Nat} {xs : List (Int × Int)} (hx : xs.length ≤ 1048576) (hN : 1048577 ≤ N) : laws_toIntA2S N xs = some ((xs, ()), ()) := by
  have go : ∀ (d n : Nat) (o : List (Int × Int)) (K : Nat), n + d = xs.length → d < K → o.length = xs.length →
      laws_toIntA2S_l0 N (fun o => some ((o, ()), ())) K xs n o = some ((o.take n ++ xs.drop n, ()), ()) := by
    intro d
    induction d with
    | zero =>
      intro n o K hd hK ho
      obtain ⟨k, rfl⟩ := succ_of hK
      have hn : ¬ n < xs.length := by omega
      simp only [laws_toIntA2S_l0, ilt_lenf hn, br_f]
      rw [List.take_of_length_le (by omega), List.drop_of_length_le (by omega), List.append_nil]
    | succ d ih =>
      intro n o K hd hK ho
      obtain ⟨k, rfl⟩ := succ_of hK
      have hn : n < xs.length := by omega
      have hno : n < o.length := by omega
      simp only [laws_toIntA2S_l0, ilt_len hn, inb_n hn, inb_n hno, br_t, chk_t, toIntA2_eq, bind_some']
      rw [wrap_succ (by omega), tSet_n, rdP_n hn, ih (n + 1) _ k (by omega) (by omega) (by simpa using ho)]
      congr 3
      obtain ⟨y, r, e1, e2, e3⟩ := drop_split hn
      rw [e1, e2, e3, List.take_add_one, List.getElem?_set_self (by omega), List.take_set_of_le (Nat.le_refl n)]
      simp
  unfold laws_toIntA2S
  simp only [tLen_n, ile_t (show (0 : Int) ≤ (xs.length : Int) by omega), ile_t (Int.le_refl _), fits_ok (show xs.length ≤ 1099511627776 by omega), Bool.and_self, chk_t]
  have := go xs.length 0 (tRep (xs.length : Int) (0, 0)) N (by omega) (by omega) (by simp [tRep])
  simp only [Int.natCast_zero, List.take_zero, List.drop_zero, List.nil_append] at this
  exact this
theorem toGraph_eq {N : Nat} {g : Int × List (Int × Int)} (hx : g.2.length ≤ 1048576) (hN : 1048577 ≤ N) : laws_toGraph N g = some ((g, ()), ()) := by
  unfold laws_toGraph
  rw [toIntA2S_eq hx hN, bind_some']
theorem eqIntA2_eq (N : Nat) (a b : Int × Int) : laws_eqIntA2 N a b = some ((decide (a = b), ()), ()) := by
  obtain ⟨a1, a2⟩ := a
  obtain ⟨b1, b2⟩ := b
  unfold laws_eqIntA2 laws_eqIntA2_l0
  by_cases h1 : a1 = b1
  · rw [ine_f h1, br_f]
    by_cases h2 : a2 = b2
    · rw [ine_f h2, br_f]; simp [h1, h2]
    · rw [ine_t h2, br_t]; simp [h2]
  · rw [ine_t h1, br_t]; simp [h1]
theorem eqIntA2S_eq {N : Nat} {a b : List (Int × Int)} (hx : a.length ≤ 1048576) (hN : 1048577 ≤ N) : laws_eqIntA2S N a b = some ((decide (a = b), ()), ()) := by
  unfold laws_eqIntA2S
  simp only [tLen_n]
  by_cases hl : a.length = b.length
  · rw [ine_f (by omega), br_f]
    have := loop_all_if (P := a = b) (m := a.length) (L := fun K i => laws_eqIntA2S_l0 N (fun x => some ((x, ()), ())) (fun (_ : Unit) => some ((true, ()), ())) K a b i) (fun i => rdP a i = rdP b i) ⟨fun h i _ => by rw [h], fun h => List.ext_getElem hl fun i h1 h2 => by have := h i h1; rwa [rdP_n h1, rdP_n h2] at this⟩ (kt := some ((true, ()), ())) (kf := some ((false, ()), ())) (fun K n hn => ?_) (fun K n hn hp => ?_) (fun K n hn hp => ?_) (show a.length < N by omega)
    · rw [show ((0 : Nat) : Int) = 0 from rfl] at this
      rw [this]
      by_cases h : a = b <;> simp [h]
    · simp only [laws_eqIntA2S_l0, ilt_lenf hn, br_f]
    · simp only [laws_eqIntA2S_l0, ilt_len hn, inb_n hn, inb_n (show n < b.length by omega), br_t, chk_t, eqIntA2_eq, bind_some']
      rw [decide_eq_true hp, Bool.not_true, br_f, wrap_succ (by omega)]
    · simp only [laws_eqIntA2S_l0, ilt_len hn, inb_n hn, inb_n (show n < b.length by omega), br_t, chk_t, eqIntA2_eq, bind_some']
      rw [decide_eq_false hp, Bool.not_false, br_t]
  · rw [ine_t (by omega), br_t]
    have : a ≠ b := fun h => hl (by rw [h])
    simp [this]
theorem eqGraph_eq {N : Nat} {a b : Int × List (Int × Int)} (hx : a.2.length ≤ 1048576) (hN : 1048577 ≤ N) : laws_eqGraph N a b = some ((decide (a = b), ()), ()) := by
  obtain ⟨a1, a2⟩ := a
  obtain ⟨b1, b2⟩ := b
  unfold laws_eqGraph
  by_cases h1 : a1 = b1
  · rw [ine_f h1, br_f, eqIntA2S_eq hx hN, bind_some', br_ite]
    by_cases h2 : a2 = b2 <;> simp [h1, h2]
  · rw [ine_t h1, br_t]
    simp [h1]
def edgeLt (a b : Int × Int) : Prop := a.1 < b.1 ∨ a.1 = b.1 ∧ a.2 < b.2
def pairAt (m : Int) (es : List (Int × Int)) (i : Nat) : Prop := (0 ≤ (rdP es i).1 ∧ (rdP es i).1 < (rdP es i).2 ∧ (rdP es i).2 < m) ∧ (0 < i → edgeLt (rdP es ((i - 1 : Nat) : Int)) (rdP es i))
def goodG (g : Int × List (Int × Int)) : Prop := (0 ≤ g.1 ∧ g.1 ≤ 8) ∧ ∀ i, i < g.2.length → pairAt g.1 g.2 i
theorem goodG_edges {g : Int × List (Int × Int)} (h : goodG g) : ∀ e ∈ g.2, 0 ≤ e.1 ∧ e.1 < e.2 ∧ e.2 < g.1 :=
  all_rdP.2 fun i hi => (h.2 i hi).1
theorem l2Edge_eq (N : Nat) (a b : Int × Int) : spec_l2Edge N a b = some ((decide (edgeLt a b), ()), ()) := by
  unfold spec_l2Edge edgeLt
  by_cases h1 : a.1 < b.1
  · rw [ilt_t h1, br_t]; simp [h1]
  · rw [ilt_f h1, br_f]
    by_cases h2 : a.1 = b.1
    · rw [ieq_t h2, br_t, ilt_d]; simp [h2]
    · rw [ieq_f h2, br_f]; simp [h1, h2]
theorem compare_eq (N : Nat) (x y : Int) : cmp_Compare_int N x y = some ((if x < y then -1 else if y < x then 1 else 0, ()), ()) := by
  unfold cmp_Compare_int cmp_isNaN_int
  simp only [bind_some', ine_f (rfl : x = x), ine_f (rfl : y = y), br_f]
  by_cases h1 : x < y
  · rw [ilt_t h1, br_t, if_pos h1]
  · rw [ilt_f h1, br_f, if_neg h1]
    by_cases h2 : y < x
    · rw [ilt_t h2, br_t, if_pos h2]
    · rw [ilt_f h2, br_f, if_neg h2]
theorem Or2_eq {N : Nat} (hN : 1048577 ≤ N) (a b : Int) : cmp_Or_int N [a, b] = some ((if a = 0 then b else a, ()), ()) := by
  obtain ⟨k, rfl⟩ : ∃ k, N = k + 3 := ⟨N - 3, by omega⟩
  unfold cmp_Or_int
  rw [show tLen [a, b] = 2 from rfl]
  simp only [cmp_Or_int_l0]
  rw [show inb [a, b] 0 = true from rfl, show rdI [a, b] 0 = a from rfl, show IntKind.i64.wrap (0 + 1) = 1 from rfl, show inb [a, b] 1 = true from rfl, show rdI [a, b] 1 = b from rfl, show IntKind.i64.wrap (1 + 1) = 2 from rfl, show ilt 0 2 = true from rfl, show ilt 1 2 = true from rfl, show ilt 2 2 = false from rfl, chk_t, chk_t, br_t, br_t, br_f]
  by_cases h : a = 0
  · rw [ine_f h, br_f, if_pos h]
    by_cases h' : b = 0
    · rw [ine_f h', br_f, h']
    · rw [ine_t h', br_t]
  · rw [ine_t h, br_t, if_neg h]
theorem comparePairs_eq {N : Nat} (hN : 1048577 ≤ N) (a b : Int × Int) : ∃ r : Int, impl_comparePairs N a b = some ((r, ()), ()) ∧ (r < 0 ↔ edgeLt a b) ∧ (r = 0 ↔ a = b) := by
  obtain ⟨a1, a2⟩ := a
  obtain ⟨b1, b2⟩ := b
  unfold impl_comparePairs edgeLt
  simp only [compare_eq, bind_some', Or2_eq hN]
  refine ⟨_, rfl, ?_, ?_⟩
  · by_cases h1 : a1 < b1
    · simp [h1]
    · by_cases h2 : b1 < a1
      · simp [h1, h2]; omega
      · have : a1 = b1 := by omega
        simp only [if_neg h1, if_neg h2, if_pos, this, Int.lt_irrefl, false_or, true_and]
        by_cases h3 : a2 < b2
        · simp [h3]
        · by_cases h4 : b2 < a2
          · simp [h3, h4]
          · simp [h3, h4]
  · rw [Prod.mk.injEq]
    by_cases h1 : a1 < b1
    · simp [h1]; omega
    · by_cases h2 : b1 < a1
      · simp [h1, h2]; omega
      · have : a1 = b1 := by omega
        simp only [if_neg h1, if_neg h2, if_pos, this, true_and]
        by_cases h3 : a2 < b2
        · simp [h3]; omega
        · by_cases h4 : b2 < a2
          · simp [h3, h4]; omega
          · simp [h3, h4]; omega
theorem l2Pairs_eq {N : Nat} {m : Int} {es : List (Int × Int)} (hm : 0 ≤ m ∧ m ≤ 8) (hx : es.length ≤ 1048576) (hN : 1048577 ≤ N) : spec_l2Pairs N es m = some ((decide (∀ i, i < es.length → pairAt m es i), ()), ()) := by
  unfold spec_l2Pairs
  have := loop_all_if (P := ∀ i, i < es.length → pairAt m es i) (m := es.length) (L := fun K i => spec_l2Pairs_l0 N (fun x => some ((x, ()), ())) (fun (_ : Unit) => some ((true, ()), ())) K es m i) (pairAt m es) Iff.rfl (kt := some ((true, ()), ())) (kf := some ((false, ()), ())) (fun K n hn => ?_) (fun K n hn hp => ?_) (fun K n hn hp => ?_) (show es.length < N by omega)
  · rw [show ((0 : Nat) : Int) = 0 from rfl] at this
    rw [this]
    by_cases h : ∀ i, i < es.length → pairAt m es i
    · rw [if_pos h, decide_eq_true h]
    · rw [if_neg h, decide_eq_false h]
  · simp only [spec_l2Pairs_l0, ilt_lenf hn, br_f]
  · simp only [spec_l2Pairs_l0, ilt_len hn, inb_n hn, br_t, chk_t, l1In_eq, l2Edge_eq, bind_some', wrap_ok (show -9223372036854775808 ≤ m - 1 by omega) (show m - 1 < 9223372036854775808 by omega)]
    obtain ⟨⟨p1, p2, p3⟩, p4⟩ := hp
    rw [decide_eq_true (show 0 ≤ (rdP es n).1 ∧ (rdP es n).1 ≤ m - 1 by omega), decide_eq_true (show 0 ≤ (rdP es n).2 ∧ (rdP es n).2 ≤ m - 1 by omega), Bool.not_true, br_f, br_f, ile_f (by omega), br_f]
    by_cases h0 : 0 < n
    · rw [ilt_0 h0, br_t, wrap_pred (by omega) h0, inb_n (by omega), chk_t, decide_eq_true (p4 h0), Bool.not_true, br_f, wrap_succ (by omega)]
    · rw [ilt_0n h0, br_f, wrap_succ (by omega)]
  · simp only [spec_l2Pairs_l0, ilt_len hn, inb_n hn, br_t, chk_t, l1In_eq, l2Edge_eq, bind_some', wrap_ok (show -9223372036854775808 ≤ m - 1 by omega) (show m - 1 < 9223372036854775808 by omega)]
    by_cases q1 : 0 ≤ (rdP es n).1 ∧ (rdP es n).1 ≤ m - 1
    · rw [decide_eq_true q1, Bool.not_true, br_f]
      by_cases q2 : 0 ≤ (rdP es n).2 ∧ (rdP es n).2 ≤ m - 1
      · rw [decide_eq_true q2, Bool.not_true, br_f]
        by_cases q3 : (rdP es n).2 ≤ (rdP es n).1
        · rw [ile_t q3, br_t]
        · rw [ile_f q3, br_f]
          have h0 : 0 < n := by
            rcases Nat.eq_zero_or_pos n with h0 | h0
            · exact absurd ⟨⟨by omega, by omega, by omega⟩, fun h' => by omega⟩ hp
            · exact h0
          have h4 : ¬ edgeLt (rdP es ((n - 1 : Nat) : Int)) (rdP es n) := fun h' => hp ⟨⟨by omega, by omega, by omega⟩, fun _ => h'⟩
          rw [ilt_0 h0, br_t, wrap_pred (by omega) h0, inb_n (by omega), chk_t, decide_eq_false h4, Bool.not_false, br_t]
      · rw [decide_eq_false q2, Bool.not_false, br_t]
    · rw [decide_eq_false q1, Bool.not_false, br_t]
theorem isPairs_eq {N : Nat} {m : Int} {es : List (Int × Int)} (hm : 0 ≤ m ∧ m ≤ 8) (hx : es.length ≤ 1048576) (hN : 1048577 ≤ N) : impl_isPairs N es m = some ((decide (∀ i, i < es.length → pairAt m es i), ()), ()) := by
  unfold impl_isPairs
  have := loop_all_if (P := ∀ i, i < es.length → pairAt m es i) (m := es.length) (L := fun K i => impl_isPairs_l0 N (fun x => some ((x, ()), ())) (fun (_ : Unit) => some ((true, ()), ())) K es m es (es.length : Int) i) (pairAt m es) Iff.rfl (kt := some ((true, ()), ())) (kf := some ((false, ()), ())) (fun K n hn => ?_) (fun K n hn hp => ?_) (fun K n hn hp => ?_) (show es.length < N by omega)
  · rw [show ((0 : Nat) : Int) = 0 from rfl] at this
    rw [tLen_n, this]
    by_cases h : ∀ i, i < es.length → pairAt m es i
    · rw [if_pos h, decide_eq_true h]
    · rw [if_neg h, decide_eq_false h]
  · simp only [impl_isPairs_l0, ilt_nf hn, br_f]
  · simp only [impl_isPairs_l0, ilt_n hn, inb_n hn, br_t, chk_t]
    obtain ⟨⟨p1, p2, p3⟩, p4⟩ := hp
    rw [ilt_f (by omega), br_f, ile_f (by omega), br_f, ile_f (by omega), br_f]
    by_cases h0 : 0 < n
    · rw [ilt_0 h0, br_t, wrap_pred (by omega) h0, inb_n (by omega), chk_t]
      obtain ⟨r, r1, r2, _⟩ := comparePairs_eq hN (rdP es ((n - 1 : Nat) : Int)) ((rdP es n).1, (rdP es n).2)
      have := r2.2 (p4 h0)
      rw [r1]
      simp only [bind_some']
      rw [ile_f (by omega), br_f, wrap_succ (by omega)]
    · rw [ilt_0n h0, br_f, wrap_succ (by omega)]
  · simp only [impl_isPairs_l0, ilt_n hn, inb_n hn, br_t, chk_t]
    by_cases q1 : (rdP es n).1 < 0
    · rw [ilt_t q1, br_t]
    · rw [ilt_f q1, br_f]
      by_cases q2 : (rdP es n).2 ≤ (rdP es n).1
      · rw [ile_t q2, br_t]
      · rw [ile_f q2, br_f]
        by_cases q3 : m ≤ (rdP es n).2
        · rw [ile_t q3, br_t]
        · rw [ile_f q3, br_f]
          have h0 : 0 < n := by
            rcases Nat.eq_zero_or_pos n with h0 | h0
            · exact absurd ⟨⟨by omega, by omega, by omega⟩, fun h' => by omega⟩ hp
            · exact h0
          have h4 : ¬ edgeLt (rdP es ((n - 1 : Nat) : Int)) (rdP es n) := fun h' => hp ⟨⟨by omega, by omega, by omega⟩, fun _ => h'⟩
          rw [ilt_0 h0, br_t, wrap_pred (by omega) h0, inb_n (by omega), chk_t]
          obtain ⟨r, r1, r2, _⟩ := comparePairs_eq hN (rdP es ((n - 1 : Nat) : Int)) ((rdP es n).1, (rdP es n).2)
          have : ¬ r < 0 := fun h => h4 (r2.1 h)
          rw [r1]
          simp only [bind_some']
          rw [ile_t (by omega), br_t]
theorem l2Good_eq {N : Nat} {g : Int × List (Int × Int)} (hx : g.2.length ≤ 1048576) (hN : 1048577 ≤ N) : spec_l2Good N g = some ((decide (goodG g), ()), ()) := by
  unfold spec_l2Good
  rw [l1In_eq, bind_some']
  by_cases h : 0 ≤ g.1 ∧ g.1 ≤ 8
  · rw [decide_eq_true h, br_t, l2Pairs_eq h hx hN, bind_some']
    congr 3
    exact decide_eq_decide.2 ⟨fun h' => ⟨h, h'⟩, fun h' => h'.2⟩
  · rw [decide_eq_false h, br_f, decide_eq_false (show ¬ goodG g from fun h' => h h'.1)]
theorem IsGraph_eq {N : Nat} {g : Int × List (Int × Int)} (hx : g.2.length ≤ 1048576) (hN : 1048577 ≤ N) : impl_IsGraph N g = some ((decide (goodG g), ()), ()) := by
  unfold impl_IsGraph
  rw [between_eq, bind_some']
  by_cases h : 0 ≤ g.1 ∧ g.1 ≤ 8
  · rw [decide_eq_true h, br_t, isPairs_eq h hx hN, bind_some']
    congr 3
    exact decide_eq_decide.2 ⟨fun h' => ⟨h, h'⟩, fun h' => h'.2⟩
  · rw [decide_eq_false h, br_f, decide_eq_false (show ¬ goodG g from fun h' => h h'.1)]
def nearG (es : List (Int × Int)) (a b : Int) : Prop := (a, b) ∈ es ∨ (b, a) ∈ es
theorem l2Near_eq {N : Nat} {g : Int × List (Int × Int)} {a b : Int} (hx : g.2.length ≤ 1048576) (hN : 1048577 ≤ N) : spec_l2Near N g a b = some ((decide (nearG g.2 a b), ()), ()) := by
  obtain ⟨m, es⟩ := g
  simp only at hx
  unfold spec_l2Near
  have := loop_all_if (P := ∀ e ∈ es, ¬ (e = (a, b) ∨ e = (b, a))) (m := es.length) (L := fun K i => spec_l2Near_l0 N (fun x => some ((x, ()), ())) (fun (_ : Unit) => some ((false, ()), ())) K a b i m es) (fun i => ¬ (rdP es i = (a, b) ∨ rdP es i = (b, a))) all_rdP (kt := some ((false, ()), ())) (kf := some ((true, ()), ())) (fun K n hn => ?_) (fun K n hn hp => ?_) (fun K n hn hp => ?_) (show es.length < N by omega)
  · rw [show ((0 : Nat) : Int) = 0 from rfl] at this
    rw [this]
    by_cases h : nearG es a b
    · rw [if_neg (fun h' => by
        rcases h with h | h
        · exact h' _ h (Or.inl rfl)
        · exact h' _ h (Or.inr rfl)), decide_eq_true h]
    · rw [if_pos (fun e he h' => by
        rcases h' with h' | h'
        · exact h (Or.inl (h' ▸ he))
        · exact h (Or.inr (h' ▸ he))), decide_eq_false h]
  · simp only [spec_l2Near_l0, ilt_lenf hn, br_f]
  · simp only [spec_l2Near_l0, ilt_len hn, inb_n hn, br_t, chk_t]
    rw [wrap_succ (by omega)]
    rw [show rdP es n = ((rdP es n).1, (rdP es n).2) from rfl, Prod.mk.injEq, Prod.mk.injEq] at hp
    by_cases q1 : (rdP es n).1 = a
    · rw [ieq_t q1, br_t, ieq_f (fun h => hp (Or.inl ⟨q1, h⟩)), br_f]
      by_cases q2 : (rdP es n).1 = b
      · rw [ieq_t q2, br_t, ieq_f (fun h => hp (Or.inr ⟨q2, h⟩)), br_f]
      · rw [ieq_f q2, br_f]
    · rw [ieq_f q1, br_f]
      by_cases q2 : (rdP es n).1 = b
      · rw [ieq_t q2, br_t, ieq_f (fun h => hp (Or.inr ⟨q2, h⟩)), br_f]
      · rw [ieq_f q2, br_f]
  · simp only [spec_l2Near_l0, ilt_len hn, inb_n hn, br_t, chk_t]
    rw [Decidable.not_not, show rdP es n = ((rdP es n).1, (rdP es n).2) from rfl, Prod.mk.injEq, Prod.mk.injEq] at hp
    by_cases q0 : (rdP es n).1 = a ∧ (rdP es n).2 = b
    · rw [ieq_t q0.1, br_t, ieq_t q0.2, br_t]
    · have hp' := hp.resolve_left q0
      rw [ieq_t hp'.1, ieq_t hp'.2, br_t, br_t]
      by_cases q1 : (rdP es n).1 = a
      · rw [ieq_t q1, br_t, ieq_f (fun h => q0 ⟨q1, h⟩), br_f]
      · rw [ieq_f q1, br_f]
theorem ContainsP_eq {N : Nat} {xs : List (Int × Int)} {v : Int × Int} (hx : xs.length ≤ 1048576) (hN : 1048577 ≤ N) : slices_Contains_LP_P2 N xs v = some ((decide (v ∈ xs), ()), ()) := by
  obtain ⟨a, b⟩ := v
  have go : ∀ (d n : Nat) (K : Nat), n + d = xs.length → d < K → ∃ i : Int, slices_Index_LP_P2_l0 N (fun x => some ((x, ()), ())) (fun (_ : Unit) => some ((-1, ()), ())) K xs (xs.length : Int) n a b = some ((i, ()), ()) ∧ decide (0 ≤ i) = decide ((a, b) ∈ xs.drop n) := by
    intro d
    induction d with
    | zero =>
      intro n K hd hK
      obtain ⟨k, rfl⟩ := succ_of hK
      have hn : ¬ n < xs.length := by omega
      simp only [slices_Index_LP_P2_l0, ilt_nf hn, br_f]
      rw [List.drop_of_length_le (by omega)]
      exact ⟨-1, rfl, rfl⟩
    | succ d ih =>
      intro n K hd hK
      obtain ⟨k, rfl⟩ := succ_of hK
      have hn : n < xs.length := by omega
      simp only [slices_Index_LP_P2_l0, ilt_n hn, br_t, inb_n hn, chk_t]
      obtain ⟨⟨y1, y2⟩, r, e1, e2, e3⟩ := drop_split hn
      rw [rdP_n hn, e1, e2]
      simp only
      by_cases h : a = y1 ∧ b = y2
      · rw [ieq_t h.1, ieq_t h.2, Bool.and_self, br_t]
        exact ⟨_, rfl, by simp [h.1, h.2]⟩
      · have hq : (ieq a y1 && ieq b y2) = false := by
          rw [ieq_d, ieq_d, ← Bool.decide_and]
          exact decide_eq_false h
        rw [hq, br_f, wrap_succ (by omega)]
        obtain ⟨i, h1, h2⟩ := ih (n + 1) k (by omega) (by omega)
        refine ⟨i, h1, ?_⟩
        rw [h2, e3]
        simp [h]
  unfold slices_Contains_LP_P2 slices_Index_LP_P2
  obtain ⟨i, h1, h2⟩ := go xs.length 0 N (by omega) (by omega)
  simp only [Int.natCast_zero, List.drop_zero] at h1 h2
  rw [tLen_n]
  simp only [h1, bind_some']
  rw [ile_d, h2]
theorem Graph_has_eq {N : Nat} {g : Int × List (Int × Int)} {a b : Int} (hed : ∀ e ∈ g.2, e.1 < e.2) (hx : g.2.length ≤ 1048576) (hN : 1048577 ≤ N) : impl_Graph_has N g a b = some ((decide (nearG g.2 a b), ()), ()) := by
  unfold impl_Graph_has impl_pair
  simp only [bind_some', ContainsP_eq hx hN]
  congr 3
  refine decide_eq_decide.2 ⟨fun h => ?_, fun h => ?_⟩
  · by_cases h1 : b < a
    · rw [if_pos h1, if_neg (by omega)] at h
      exact Or.inr h
    · rw [if_neg h1] at h
      by_cases h2 : b > a
      · rw [if_pos h2] at h
        exact Or.inl h
      · have : a = b := by omega
        rw [if_neg h2] at h
        exact Or.inl (by rw [← this]; exact h)
  · rcases h with h | h
    · have := hed _ h
      simp only at this
      rw [if_neg (by omega), if_pos (by omega)]
      exact h
    · have := hed _ h
      simp only at this
      rw [if_pos (by omega), if_neg (by omega)]
      exact h
def asc (xs : List Int) : Prop := xs.Pairwise (· ≤ ·)
theorem asc_perm : ∀ {a b : List Int}, asc a → asc b → a.Perm b → a = b := by
  intro a
  induction a with
  | nil => intro b _ _ hp; exact (List.nil_perm.1 hp).symm
  | cons x a ih =>
    intro b ha hb hp
    cases b with
    | nil => exact absurd (List.perm_nil.1 hp) (by simp)
    | cons y b =>
      obtain ⟨a1, a2⟩ := List.pairwise_cons.1 ha
      obtain ⟨b1, b2⟩ := List.pairwise_cons.1 hb
      have e : x = y := by
        have h1 : x ∈ y :: b := hp.mem_iff.1 (List.mem_cons_self ..)
        have h2 : y ∈ x :: a := hp.mem_iff.2 (List.mem_cons_self ..)
        rcases List.mem_cons.1 h1 with h1 | h1
        · exact h1
        · rcases List.mem_cons.1 h2 with h2 | h2
          · exact h2.symm
          · have := a1 y h2
            have := b1 x h1
            omega
      subst e
      rw [ih a2 b2 (List.Perm.cons_inv hp)]
theorem mergeI_asc (xs : List Int) : asc (mergeI xs) := by
  have := List.pairwise_mergeSort (le := fun x y : Int => decide (x ≤ y)) (fun a b c h1 h2 => by simp at *; omega) (fun a b => by simp; omega) xs
  exact this.imp fun h => by simpa using h
theorem mergeI_perm (xs : List Int) : (mergeI xs).Perm xs := List.mergeSort_perm ..
theorem markGraph_eq {N : Nat} {g : Int × List (Int × Int)} {k : Int} (hk : 0 ≤ k ∧ k ≤ 1152921504606846976) (hx : g.2.length ≤ 1048576) (hN : 1048577 ≤ N) : ∃ g', laws_markGraph N g k = some ((k + 2 * g.2.length, ()), (g', ())) := by
  have go : ∀ (d n : Nat) (o : List (Int × Int)) (K : Nat) (kv : Int), n + d = o.length → o.length ≤ 1048576 → d < K → 0 ≤ kv → kv + 2 * d ≤ 2305843009213693952 →
      ∃ o', laws_markIntA2S_l0 N (fun kv1 o => some ((kv1, ()), (o, ()))) K kv n o = some ((kv + 2 * d, ()), (o', ())) := by
    intro d
    induction d with
    | zero =>
      intro n o K kv hd ho hK h0 h1
      obtain ⟨k, rfl⟩ := succ_of hK
      simp only [laws_markIntA2S_l0, ilt_lenf (show ¬ n < o.length by omega), br_f]
      exact ⟨o, by simp⟩
    | succ d ih =>
      intro n o K kv hd ho hK h0 h1
      obtain ⟨k, rfl⟩ := succ_of hK
      have hn : n < o.length := by omega
      have hn2 : ∀ v, inb (tSet o (n : Int) v) (n : Int) = true := fun v => inb_n (by rw [tSet_n]; simpa using hn)
      simp only [laws_markIntA2S_l0, laws_markIntA2S_l0_0, ilt_len hn, br_t, inb_n hn, hn2, chk_t]
      rw [wrap_succ (by omega), wrap_ok (show -9223372036854775808 ≤ kv + 1 by omega) (by omega), wrap_ok (show -9223372036854775808 ≤ kv + 1 + 1 by omega) (by omega)]
      obtain ⟨o', h⟩ := ih (n + 1) (tSet (tSet o (n : Int) (kv, (rdP o n).2)) n ((rdP (tSet o (n : Int) (kv, (rdP o n).2)) n).1, kv + 1)) k (kv + 1 + 1) (by simp only [tSet_n, List.length_set]; omega) (by simp only [tSet_n, List.length_set]; omega) (by omega) (by omega) (by omega)
      refine ⟨o', h.trans ?_⟩
      congr 3
      omega
  unfold laws_markGraph laws_markIntA2S
  obtain ⟨o', h⟩ := go g.2.length 0 g.2 N k (by omega) hx (by omega) hk.1 (by omega)
  rw [show ((0 : Nat) : Int) = 0 from rfl] at h
  exact ⟨(g.1, o'), by rw [h]; rfl⟩
theorem iter_app {p : Nat → Prop} [DecidablePred p] : ∀ (d n : Nat) (o : List Int), iter (fun n o => if p n then o ++ [(n : Int)] else o) d n o = o ++ ((List.range' n d).filter fun i => decide (p i)).map (fun i : Nat => (i : Int)) := by
  intro d
  induction d with
  | zero => intro n o; simp [iter]
  | succ d ih =>
    intro n o
    unfold iter
    rw [ih, List.range'_succ]
    by_cases h : p n <;> simp [h]
noncomputable def nbr (m : Nat) (es : List (Int × Int)) (x : Int) : List Int := ((List.range' 0 m).filter fun i : Nat => decide (nearG es x (i : Int))).map (fun i : Nat => (i : Int))
theorem mem_nbr {m : Nat} {es : List (Int × Int)} {x y : Int} : y ∈ nbr m es x ↔ ∃ i : Nat, i < m ∧ nearG es x i ∧ y = i := by
  unfold nbr
  rw [List.mem_map]
  constructor
  · rintro ⟨i, hi, rfl⟩
    obtain ⟨h1, h2⟩ := List.mem_filter.1 hi
    exact ⟨i, by simpa using List.mem_range'_1.1 h1, of_decide_eq_true h2, rfl⟩
  · rintro ⟨i, h1, h2, rfl⟩
    exact ⟨i, List.mem_filter.2 ⟨List.mem_range'_1.2 (by omega), decide_eq_true h2⟩, rfl⟩
theorem nbr_len (m : Nat) (es : List (Int × Int)) (x : Int) : (nbr m es x).length ≤ m := by
  unfold nbr
  rw [List.length_map]
  exact Nat.le_trans (List.length_filter_le ..) (by simp)
theorem near_ne {g : Int × List (Int × Int)} (hg : goodG g) {a : Int} : ¬ nearG g.2 a a := by
  rintro (h | h)
  · have := goodG_edges hg _ h
    simp only at this
    omega
  · have := goodG_edges hg _ h
    simp only at this
    omega
theorem neighbors_eq {N : Nat} {m : Nat} {es : List (Int × Int)} {x : Int} (hg : goodG ((m : Int), es)) (hx : es.length ≤ 1048576) (hN : 1048577 ≤ N) : impl_Graph_neighbors N ((m : Int), es) x = some ((nbr m es x, ()), ()) := by
  have hed : ∀ e ∈ es, e.1 < e.2 := fun e he => (goodG_edges hg e he).2.1
  have hm := hg.1
  simp only at hm
  unfold impl_Graph_neighbors
  refine (loop_iter (L := fun K n o => impl_Graph_neighbors_l0 N (fun o => some ((o, ()), ())) K x (m : Int) n (m : Int) es o) (k := fun o => some ((o, ()), ())) (Inv := fun n o => o.length ≤ n) (step := fun n o => if nearG es x (n : Int) then o ++ [(n : Int)] else o) (fun K n s hn _ => ?_) (fun K n s hn hs => ?_) (fun n s hn h => ?_) (s := []) (m := m) (K := N) (by omega) (Nat.zero_le _)).trans ?_
  · simp only [impl_Graph_neighbors_l0, ilt_nf hn, br_f]
  · simp only [impl_Graph_neighbors_l0, ilt_n hn, br_t, Graph_has_eq (g := ((m : Int), es)) hed hx hN, bind_some']
    rw [wrap_succ (by omega), room_ok (by simp; omega), chk_t]
    by_cases h : nearG es x (n : Int)
    · have hne : (n : Int) ≠ x := fun e => near_ne hg (a := x) (by rw [e] at h; exact h)
      rw [ine_t hne, br_t, decide_eq_true h, br_t, if_pos h]
      rfl
    · rw [if_neg h, decide_eq_false h, br_f, br_same]
  · by_cases hc : nearG es x (n : Int)
    · rw [if_pos hc]; simp; omega
    · rw [if_neg hc]; omega
  · rw [iter_app]
    rfl
theorem rdI_set {cs : List Int} {x : Nat} (hx : x < cs.length) (v y : Int) (hy : 0 ≤ y) : rdI (tSet cs (x : Int) v) y = if y = x then v else rdI cs y := by
  obtain ⟨n, rfl⟩ : ∃ n : Nat, y = n := ⟨y.toNat, by omega⟩
  rw [tSet_n]
  unfold rdI
  rw [Int.toNat_natCast, List.getD, List.getD, List.getElem?_set]
  by_cases h : x = n
  · subst h
    simp [hx]
  · have : ¬ ((n : Int) = (x : Int)) := by omega
    simp [h, this]
theorem wrap64 {n : Nat} (h : n < 18446744073709551616) : IntKind.u64.wrap (n : Int) = (n : Int) := by
  unfold IntKind.wrap
  simp only [IntKind.bits, IntKind.signed, Bool.false_and]
  have : (n : Int) % (2 ^ 64 : Int) = n := Int.emod_eq_of_lt (by omega) (by omega)
  rw [this]
  rfl
theorem ofInt64 {n : Nat} (h : n < 18446744073709551616) : (BitVec.ofInt 64 (n : Int)).toNat = n := by
  rw [BitVec.toNat_ofInt]
  omega
theorem andN {a b : Nat} (ha : a < 4294967296) (hb : b < 4294967296) : bitop .and .u64 (a : Int) (b : Int) = ((a &&& b : Nat) : Int) := by
  show IntKind.u64.wrap (((BitVec.ofInt 64 (a : Int) &&& BitVec.ofInt 64 (b : Int)).toNat : Nat) : Int) = _
  rw [BitVec.toNat_and, ofInt64 (by omega), ofInt64 (by omega)]
  have : a &&& b < 2 ^ 32 := Nat.and_lt_two_pow _ hb
  exact wrap64 (by omega)
theorem nodup_le : ∀ {a b : List Int}, a.Nodup → (∀ x ∈ a, x ∈ b) → a.length ≤ b.length := by
  intro a
  induction a with
  | nil => intro b _ _; exact Nat.zero_le _
  | cons x a ih =>
    intro b hn hs
    obtain ⟨h1, h2⟩ := List.nodup_cons.1 hn
    have hx := hs x (List.mem_cons_self ..)
    have := ih (b := b.erase x) h2 fun y hy => (List.mem_erase_of_ne (fun (e : y = x) => h1 (e ▸ hy))).2 (hs y (List.mem_cons_of_mem _ hy))
    rw [List.length_erase_of_mem hx] at this
    have := List.length_pos_of_mem hx
    rw [List.length_cons]
    omega
theorem nearG_symm {es : List (Int × Int)} {a b : Int} : nearG es a b ↔ nearG es b a := ⟨fun h => h.elim .inr .inl, fun h => h.elim .inr .inl⟩
def InN (n : Nat) (x : Int) : Prop := 0 ≤ x ∧ x < (n : Int)
theorem nat_of {n : Nat} {x : Int} (h : InN n x) : ∃ i : Nat, i < n ∧ x = (i : Int) := by
  obtain ⟨h1, h2⟩ := h
  exact ⟨x.toNat, by omega, by omega⟩
theorem in_nat {n i : Nat} (h : i < n) : InN n (i : Int) := ⟨by omega, by omega⟩
theorem shr32 {n : Nat} (h : n < 4294967296) : shrI .u64 (n : Int) 32 = 0 := by
  unfold shrI
  have : (n : Int).fdiv (2 ^ (min (32 : Int).toNat IntKind.u64.bits)) = (n : Int).fdiv 4294967296 := rfl
  rw [this, Int.fdiv_eq_ediv_of_nonneg _ (by omega)]
  omega
theorem and32 {n : Nat} (h : n < 4294967296) : bitop .and .u64 (n : Int) 4294967295 = n := by
  have := andN (a := n) (b := 4294967295) h (by omega)
  rw [show ((4294967295 : Nat) : Int) = 4294967295 from rfl] at this
  rw [this, show (4294967295 : Nat) = 2 ^ 32 - 1 from rfl, Nat.and_two_pow_sub_one_eq_mod]
  omega
theorem mul64_one {N m : Nat} (h : m < 4294967296) : math_bits_Mul N 1 (m : Int) = some ((0, (m : Int), ()), ()) := by
  have e1 : shrI .u64 1 32 = 0 := by have := shr32 (n := 1) (by omega); exact this
  have e2 : bitop .and .u64 1 4294967295 = 1 := by have := and32 (n := 1) (by omega); exact this
  have w0 : IntKind.u64.wrap 0 = 0 := by have := wrap64 (n := 0) (by omega); exact this
  have e3 : shrI .u64 0 32 = 0 := by have := shr32 (n := 0) (by omega); exact this
  have e4 : bitop .and .u64 0 4294967295 = 0 := by have := and32 (n := 0) (by omega); exact this
  unfold math_bits_Mul math_bits_Mul64
  simp only [e1, e2, shr32 h, and32 h, Int.zero_mul, Int.mul_zero, Int.one_mul, wrap64 (show m < 18446744073709551616 by omega), w0, Int.zero_add, Int.add_zero, e3, e4, bind_some']
theorem tMin_n (a b : Nat) : tMin (a : Int) (b : Int) = ((min a b : Nat) : Int) := by
  unfold tMin
  by_cases h : a ≤ b
  · rw [ile_t (by omega), Nat.min_eq_left h]; rfl
  · rw [ile_f (by omega), Nat.min_eq_right (by omega)]; rfl
theorem tPut_n {α : Type} (xs ys : List α) (l : Nat) : tPut xs (l : Int) ys = xs.take l ++ ys ++ xs.drop (l + ys.length) := by simp [tPut]
theorem Repeat_eq {N m : Nat} {v : Int} (hm : m ≤ 1048576) (hN : 1048577 ≤ N) : slices_Repeat_LI_int N [v] (m : Int) = some ((List.replicate m v, ()), ()) := by
  have go : ∀ (d n K : Nat), n + d = m → d < K → (0 < n ∨ m = 0) → slices_Repeat_LI_int_l0 N (fun o => some ((o, ()), ())) K n (List.replicate n v ++ List.replicate d 0) = some ((List.replicate m v, ()), ()) := by
    intro d
    induction d using Nat.strongRecOn with
    | _ d ih =>
      intro n K hd hK hn
      obtain ⟨k, rfl⟩ := succ_of hK
      have hlen : (List.replicate n v ++ List.replicate d 0).length = m := by simp; omega
      simp only [slices_Repeat_LI_int_l0]
      rw [tLen_n, hlen]
      by_cases h0 : d = 0
      · subst h0
        have : n = m := by omega
        subst this
        rw [ilt_nf (Nat.lt_irrefl n), br_f]
        simp
      · have hc0 : tCut (List.replicate n v ++ List.replicate d 0) 0 (n : Int) = List.replicate n v := by
          rw [show (0 : Int) = ((0 : Nat) : Int) from rfl, tCut_n]
          simp
        have hmin : tMin ((m : Int) - (n : Int)) (tLen (List.replicate n v)) = ((min d n : Nat) : Int) := by
          rw [tLen_n, List.length_replicate, show (m : Int) - (n : Int) = (d : Int) by omega, tMin_n]
        have hc1 : tCut (List.replicate n v) 0 ((min d n : Nat) : Int) = List.replicate (min d n) v := by
          rw [show (0 : Int) = ((0 : Nat) : Int) from rfl, tCut_n, List.take_replicate, List.drop_zero]
          congr 1
          omega
        rw [ilt_n (show n < m by omega), br_t, ile_t (show (0 : Int) ≤ (n : Int) by omega), ile_t (show (n : Int) ≤ (m : Int) by omega), ile_t (Int.le_refl (m : Int)), ile_t (Int.le_refl (0 : Int))]
        simp only [Bool.and_self, chk_t]
        rw [hc0, hmin, hc1]
        have hput : tPut (List.replicate n v ++ List.replicate d 0) (n : Int) (List.replicate (min d n) v) = List.replicate (n + min d n) v ++ List.replicate (d - min d n) 0 := by
          rw [tPut_n, List.take_left' (by simp), List.drop_append, List.length_replicate, List.length_replicate]
          rw [List.drop_of_length_le (by simp), List.nil_append, List.drop_replicate, List.replicate_append_replicate]
          congr 2
          omega
        rw [hput, wrap_ok (by omega) (by omega), show (n : Int) + ((min d n : Nat) : Int) = ((n + min d n : Nat) : Int) by omega]
        exact ih (d - min d n) (by omega) (n + min d n) k (by omega) (by omega) (.inl (by omega))
  unfold slices_Repeat_LI_int
  rw [ilt_f (by omega), br_f, show tLen [v] = ((1 : Nat) : Int) from rfl, wrap64 (by omega), wrap64 (by omega), show (((1 : Nat) : Int)) = 1 from rfl, mul64_one (by omega)]
  simp only [bind_some']
  rw [ilt_f (Int.lt_irrefl 0), br_f, ilt_f (by omega), br_f, wrap_ok (by omega) (by omega), ile_t (by omega), ile_t (Int.le_refl _), fits_ok (by omega)]
  simp only [Bool.and_self, chk_t]
  rw [tRep_n, tLen_n, List.length_replicate, show (1 : Int) = ((1 : Nat) : Int) from rfl, tMin_n]
  have hc : tCut [v] 0 ((min m 1 : Nat) : Int) = List.replicate (min m 1) v := by
    rw [show (0 : Int) = ((0 : Nat) : Int) from rfl, tCut_n]
    by_cases h0 : m = 0
    · subst h0; rfl
    · rw [show min m 1 = 1 by omega]; rfl
  have hp : tPut (List.replicate m (0 : Int)) 0 (List.replicate (min m 1) v) = List.replicate (min m 1) v ++ List.replicate (m - min m 1) 0 := by
    rw [show (0 : Int) = ((0 : Nat) : Int) from rfl, tPut_n]
    simp
  rw [hc, hp]
  exact go (m - min m 1) (min m 1) N (by omega) (by omega) (by omega)
theorem rd_ext {a b : List Int} (h : a.length = b.length) (he : ∀ i : Nat, i < a.length → rdI a (i : Int) = rdI b (i : Int)) : a = b := by
  refine List.ext_getElem h fun i h1 h2 => ?_
  have := he i h1
  rwa [rdI_n h1, rdI_n h2] at this
theorem perm_of : ∀ {a b : List Int}, a.Nodup → (∀ x ∈ a, x ∈ b) → b.length ≤ a.length → a.Perm b := by
  intro a
  induction a with
  | nil =>
    intro b _ _ h
    have : b = [] := List.eq_nil_of_length_eq_zero (by simpa using h)
    rw [this]
  | cons x a ih =>
    intro b hn hs hl
    obtain ⟨n1, n2⟩ := List.nodup_cons.1 hn
    have hx : x ∈ b := hs x (List.mem_cons_self ..)
    have h1 := List.perm_cons_erase hx
    have hl2 := List.length_erase_of_mem hx
    have hb0 : 0 < b.length := List.length_pos_of_mem hx
    refine (List.Perm.cons x (ih n2 (fun y hy => ?_) (by rw [hl2]; simp at hl; omega))).trans h1.symm
    have hy2 : y ∈ b := hs y (List.mem_cons_of_mem _ hy)
    exact (List.mem_erase_of_ne (fun e : y = x => n1 (by rw [← e]; exact hy))).2 hy2
noncomputable def upL (n : Nat) : List Int := (List.range n).map fun i : Nat => (i : Int)
theorem mem_upL {n : Nat} {c : Int} : c ∈ upL n ↔ 0 ≤ c ∧ c < (n : Int) := by
  unfold upL
  rw [List.mem_map]
  constructor
  · rintro ⟨i, hi, rfl⟩
    rw [List.mem_range] at hi
    omega
  · rintro ⟨h1, h2⟩
    exact ⟨c.toNat, List.mem_range.2 (by omega), by omega⟩
theorem upL_len (n : Nat) : (upL n).length = n := by simp [upL]
theorem upL_nodup (n : Nat) : (upL n).Nodup := by
  unfold upL
  refine List.Pairwise.map _ (fun a b h e => h ?_) List.nodup_range
  omega
theorem upL_asc (n : Nat) : asc (upL n) := by
  unfold upL
  refine List.Pairwise.map _ (fun a b h => ?_) List.pairwise_lt_range
  omega
theorem upL_rd {n i : Nat} (h : i < n) : rdI (upL n) (i : Int) = (i : Int) := by
  rw [rdI_n (by rw [upL_len]; exact h)]
  simp [upL]
def isOrd (xs : List Int) (m : Int) : Prop := (xs.length : Int) = m ∧ ∀ c : Int, 0 ≤ c → c < m → c ∈ xs
theorem ord_perm {xs : List Int} {n : Nat} (h : isOrd xs (n : Int)) : (upL n).Perm xs :=
  perm_of (upL_nodup n) (fun c hc => h.2 c (mem_upL.1 hc).1 (mem_upL.1 hc).2) (by rw [upL_len]; have := h.1; omega)
theorem rising_up (n : Nat) : rising 0 ((n : Int) - 1) (upL n) := by
  intro i hi
  rw [upL_len] at hi
  refine ⟨?_, fun h0 => ?_⟩
  · rw [upL_rd hi]
    omega
  · rw [upL_rd hi, upL_rd (by omega)]
    omega
theorem rising_low {xs : List Int} {hi : Int} (h : rising 0 hi xs) : ∀ i : Nat, i < xs.length → (i : Int) ≤ rdI xs (i : Int) := by
  intro i
  induction i with
  | zero => intro h0; exact (h 0 h0).1.1
  | succ i ih =>
    intro h0
    have h1 := ih (by omega)
    have h2 := (h (i + 1) h0).2 (by omega)
    rw [show i + 1 - 1 = i by omega] at h2
    omega
theorem rising_high {xs : List Int} {hi : Int} (h : rising 0 hi xs) : ∀ (d i : Nat), i + d + 1 = xs.length → rdI xs (i : Int) + (d : Int) ≤ hi := by
  intro d
  induction d with
  | zero =>
    intro i hl
    have := (h i (by omega)).1.2
    omega
  | succ d ih =>
    intro i hl
    have h1 := ih (i + 1) (by omega)
    have h2 := (h (i + 1) (by omega)).2 (by omega)
    rw [show i + 1 - 1 = i by omega] at h2
    omega
theorem rising_ord {xs : List Int} {n : Nat} (hl : xs.length = n) : rising 0 ((n : Int) - 1) (mergeI xs) ↔ isOrd xs (n : Int) := by
  have hp := mergeI_perm xs
  have hml : (mergeI xs).length = n := hp.length_eq.trans hl
  constructor
  · intro h
    refine ⟨by omega, fun c h0 h1 => ?_⟩
    have hc : c.toNat < (mergeI xs).length := by omega
    have a1 := rising_low h c.toNat hc
    have a2 := rising_high h (n - 1 - c.toNat) c.toNat (by omega)
    have e : rdI (mergeI xs) (c.toNat : Int) = c := by omega
    rw [rdI_n hc] at e
    exact hp.mem_iff.1 (e ▸ List.getElem_mem hc)
  · intro h
    have e : mergeI xs = upL n := asc_perm (mergeI_asc xs) (upL_asc n) (hp.trans (ord_perm h).symm)
    rw [e]
    exact rising_up n
theorem isOrder_eq {N : Nat} {xs : List Int} {m : Int} (hx : xs.length ≤ 1048576) (hN : 1048577 ≤ N) : impl_isOrder N xs m = some ((decide (isOrd xs m), ()), ()) := by
  unfold impl_isOrder
  rw [tLen_n]
  by_cases h : (xs.length : Int) = m
  · rw [ieq_t h, br_t]
    unfold slices_Values_LI_int slices_Sorted_int_kslices_Values_LI_int_c1 sortVF
    rw [bind_some']
    simp only []
    rw [if_pos (by omega), bind_some']
    simp only []
    have hml : (mergeI xs).length = xs.length := (mergeI_perm xs).length_eq
    rw [isRising_eq (by omega) (by omega) hN, bind_some']
    simp only []
    rw [← h, decide_eq_decide.2 (rising_ord rfl)]
  · rw [ieq_f h, br_f, decide_eq_false fun q => h q.1]
theorem l5Order_eq {N : Nat} {g : Int × List (Int × Int)} {xs : List Int} (hg : 0 ≤ g.1 ∧ g.1 ≤ 8) (hx : xs.length ≤ 1048576) (hN : 1048577 ≤ N) : spec_l5Order N g xs = some ((decide (isOrd xs g.1), ()), ()) := by
  unfold spec_l5Order
  obtain ⟨m, hm⟩ : ∃ m : Nat, g.1 = (m : Int) := ⟨g.1.toNat, by omega⟩
  have := loop_all_if (P := ∀ i : Nat, i < m → (i : Int) ∈ xs) (m := m) (L := fun K i => spec_l5Order_l0 N (fun x => some ((x, ()), ())) (fun order1 o o1 => some (((ieq (tLen order1) o), ()), ())) K xs (i : Int) (m : Int) g.2) (fun i : Nat => (i : Int) ∈ xs) Iff.rfl (kt := some ((ieq (tLen xs) (m : Int), ()), ())) (kf := some ((false, ()), ())) (fun K n hn => ?_) (fun K n hn hp => ?_) (fun K n hn hp => ?_) (show m < N by omega)
  · rw [show ((0 : Nat) : Int) = 0 from rfl] at this
    rw [hm, this]
    by_cases h : ∀ i : Nat, i < m → (i : Int) ∈ xs
    · rw [if_pos h, tLen_n, ieq_d]
      refine congrArg (fun b => some ((b, ()), ())) (decide_eq_decide.2 ⟨fun e => ⟨e, fun c h0 h1 => ?_⟩, fun q => q.1⟩)
      have := h c.toNat (by omega)
      rwa [show ((c.toNat : Nat) : Int) = c by omega] at this
    · rw [if_neg h, decide_eq_false fun q => h fun i hi => q.2 _ (by omega) (by omega)]
  · simp only [spec_l5Order_l0, ilt_nf hn, br_f]
  · simp only [spec_l5Order_l0, ilt_n hn, br_t]
    rw [l1Has_eq hx hN, bind_some', decide_eq_true hp]
    simp only [Bool.not_true, br_f]
    rw [wrap_succ (by omega)]
  · simp only [spec_l5Order_l0, ilt_n hn, br_t]
    rw [l1Has_eq hx hN, bind_some', decide_eq_false hp]
    simp only [Bool.not_false, br_t]
/-! ### Colours with other names -/
def freeN (m : Nat) (es : List (Int × Int)) (o : List Int) (x : Int) (c : Nat) : Prop := ∀ y ∈ nbr m es x, rdI o y ≠ (c : Int)
noncomputable def leastC (m : Nat) (es : List (Int × Int)) (o : List Int) (x : Int) : Nat := Classical.choose (exists_first (freeN m es o x) 9)
theorem leastC_spec (m : Nat) (es : List (Int × Int)) (o : List Int) (x : Int) : leastC m es o x ≤ 9 ∧ (∀ i, i < leastC m es o x → ¬ freeN m es o x i) ∧ (leastC m es o x < 9 → freeN m es o x (leastC m es o x)) := Classical.choose_spec (exists_first (freeN m es o x) 9)
theorem taken_le {o L : List Int} {c : Nat} (h : ∀ i : Nat, i < c → ∃ y ∈ L, rdI o y = (i : Int)) : c ≤ L.length := by
  have := nodup_le (a := upL c) (b := L.map (rdI o)) (upL_nodup c) fun z hz => by
    obtain ⟨h0, h1⟩ := mem_upL.1 hz
    obtain ⟨y, y1, y2⟩ := h z.toNat (by omega)
    exact List.mem_map.2 ⟨y, y1, by omega⟩
  rwa [upL_len, List.length_map] at this
theorem leastC_le {m : Nat} (hm : m ≤ 8) (es : List (Int × Int)) (o : List Int) (x : Int) : leastC m es o x ≤ 8 ∧ freeN m es o x (leastC m es o x) := by
  obtain ⟨h1, h2, h3⟩ := leastC_spec m es o x
  have := taken_le (o := o) (L := nbr m es x) (c := leastC m es o x) fun i hi => by
    have := h2 i hi
    unfold freeN at this
    refine Classical.byContradiction fun q => this fun y hy e => q ⟨y, hy, e⟩
  have := nbr_len m es x
  exact ⟨by omega, h3 (by omega)⟩
noncomputable def gstep (m : Nat) (es : List (Int × Int)) (o : List Int) (x : Int) : List Int := tSet o x (leastC m es o x : Int)
noncomputable def grL (m : Nat) (es : List (Int × Int)) (P : List Int) : List Int := P.foldl (gstep m es) (List.replicate m (-1))
theorem grL_snoc (m : Nat) (es : List (Int × Int)) (P : List Int) (x : Int) : grL m es (P ++ [x]) = tSet (grL m es P) x (leastC m es (grL m es P) x : Int) := by
  unfold grL
  rw [List.foldl_append]
  rfl
structure GInv (m : Nat) (es : List (Int × Int)) (P o : List Int) : Prop where
  len : o.length = m
  pos : ∀ y, InN m y → y ∈ P → 0 ≤ rdI o y ∧ rdI o y ≤ 8
  neg : ∀ y, InN m y → y ∉ P → rdI o y = -1
  col : ∀ y z, InN m y → InN m z → y ∈ P → z ∈ P → nearG es y z → rdI o y ≠ rdI o z
theorem ginv_nil (m : Nat) (es : List (Int × Int)) : GInv m es [] (grL m es []) := by
  refine ⟨by simp [grL], fun y _ h => absurd h (by simp), fun y hy _ => ?_, fun y z _ _ h => absurd h (by simp)⟩
  obtain ⟨i, hi, rfl⟩ := nat_of hy
  unfold grL
  rw [List.foldl_nil, rdI_n (by simpa using hi)]
  simp
theorem ginv_step {m : Nat} {es : List (Int × Int)} {P : List Int} {x : Int} (hm : m ≤ 8) (hir : ∀ y : Int, ¬ nearG es y y) (h : GInv m es P (grL m es P)) (hx : InN m x) (hp : x ∉ P) : GInv m es (P ++ [x]) (grL m es (P ++ [x])) := by
  obtain ⟨i, hi, rfl⟩ := nat_of hx
  obtain ⟨l1, l2⟩ := leastC_le hm es (grL m es P) (i : Int)
  have hlt : i < (grL m es P).length := by rw [h.len]; exact hi
  have hrd : ∀ y : Int, InN m y → rdI (grL m es (P ++ [(i : Int)])) y = if y = (i : Int) then (leastC m es (grL m es P) (i : Int) : Int) else rdI (grL m es P) y := fun y hy => by
    rw [grL_snoc]
    exact rdI_set hlt _ y hy.1
  have hfree : ∀ z : Int, InN m z → z ∈ P → nearG es (i : Int) z → (leastC m es (grL m es P) (i : Int) : Int) ≠ rdI (grL m es P) z := fun z hz _ hn e => by
    obtain ⟨j, hj, rfl⟩ := nat_of hz
    exact l2 _ (mem_nbr.2 ⟨j, hj, hn, rfl⟩) e.symm
  refine ⟨by rw [grL_snoc, tSet_n, List.length_set, h.len], fun y hy hyp => ?_, fun y hy hyp => ?_, fun y z hy hz hyp hzp hn => ?_⟩
  · rw [hrd y hy]
    split
    · omega
    · rename_i hne
      rcases List.mem_append.1 hyp with q | q
      · exact h.pos y hy q
      · exact absurd (List.mem_singleton.1 q) hne
  · rw [hrd y hy, if_neg fun e => hyp (List.mem_append.2 (.inr (List.mem_singleton.2 e)))]
    exact h.neg y hy fun q => hyp (List.mem_append.2 (.inl q))
  · rw [hrd y hy, hrd z hz]
    have side : ∀ w : Int, w ∈ P ++ [(i : Int)] → w ≠ (i : Int) → w ∈ P := fun w hw hne => by
      rcases List.mem_append.1 hw with q | q
      · exact q
      · exact absurd (List.mem_singleton.1 q) hne
    by_cases ey : y = (i : Int)
    · by_cases ez : z = (i : Int)
      · rw [ey, ez] at hn
        exact absurd hn (hir _)
      · rw [if_pos ey, if_neg ez]
        exact hfree z hz (side z hzp ez) (ey ▸ hn)
    · by_cases ez : z = (i : Int)
      · rw [if_neg ey, if_pos ez]
        exact fun e => hfree y hy (side y hyp ey) (ez ▸ nearG_symm.1 hn) e.symm
      · rw [if_neg ey, if_neg ez]
        exact h.col y z hy hz (side y hyp ey) (side z hzp ez) hn
theorem ginv_of {m : Nat} {es : List (Int × Int)} (hm : m ≤ 8) (hir : ∀ y : Int, ¬ nearG es y y) {order : List Int} (hn : order.Nodup) (hin : ∀ x ∈ order, InN m x) : ∀ n : Nat, n ≤ order.length → GInv m es (order.take n) (grL m es (order.take n)) := by
  intro n
  induction n with
  | zero => intro _; rw [List.take_zero]; exact ginv_nil m es
  | succ n ih =>
    intro h
    have hl : n < order.length := by omega
    rw [List.take_add_one, List.getElem?_eq_getElem hl]
    refine ginv_step hm hir (ih (by omega)) (hin _ (List.getElem_mem hl)) fun q => ?_
    obtain ⟨j, hj, e⟩ := List.getElem_of_mem q
    rw [List.length_take] at hj
    rw [List.getElem_take] at e
    have := (List.getElem_inj hn).1 e
    omega
theorem good_irr {g : Int × List (Int × Int)} (hg : goodG g) : ∀ y : Int, ¬ nearG g.2 y y := fun y h => by
  rcases h with h | h
  · have := goodG_edges hg _ h
    simp only at this
    omega
  · have := goodG_edges hg _ h
    simp only at this
    omega
theorem greedy_in {R : Type} {N m : Nat} {es : List (Int × Int)} {o : List Int} {x x4' x5 : Int} {x4 : List Int} {k0 : Int → List Int → Int → Int → Int → List (Int × Int) → Int → List Int → Option R} (hm : m ≤ 8) (hg : goodG ((m : Int), es)) (hes : es.length ≤ 1048576) (hl : o.length = m) (hN : 1048577 ≤ N) :
    ∀ (d c K : Nat), c + d = leastC m es o x → d < K → impl_GreedyColours_l0_0 N k0 K x x4 x4' x5 (m : Int) es (c : Int) o = k0 x x4 x4' x5 (m : Int) es (leastC m es o x : Int) o := by
  obtain ⟨l1, l2⟩ := leastC_le hm es o x
  have l3 := (leastC_spec m es o x).2.1
  have hc1 : ∀ (c : Nat), slices_ContainsFunc_LI_int N (nbr m es x) (fun y0 => (impl_GreedyColours_c1 N y0 o (c : Int)).bind fun z => some z.1.1) = some (((nbr m es x).any fun y => decide (rdI o y = (c : Int)), ()), ()) := fun c =>
    ContainsFunc_LI_int_eq (fun y hy => by
      obtain ⟨j, hj, _, rfl⟩ := mem_nbr.1 hy
      unfold impl_GreedyColours_c1
      rw [inb_n (by omega), chk_t, bind_some', ieq_d]) (by have := nbr_len m es x; omega) (by have := nbr_len m es x; omega)
  intro d
  induction d with
  | zero =>
    intro c K hc hK
    obtain ⟨K, rfl⟩ := succ_of hK
    have ec : c = leastC m es o x := by omega
    simp only [impl_GreedyColours_l0_0]
    rw [neighbors_eq hg hes hN, bind_some', hc1 c, bind_some']
    have : ((nbr m es x).any fun y => decide (rdI o y = (c : Int))) = false := by
      rw [List.any_eq_false]
      intro y hy
      rw [decide_eq_false (by rw [ec]; exact l2 y hy)]
      simp
    rw [this, br_f, ec]
  | succ d ih =>
    intro c K hc hK
    obtain ⟨K, rfl⟩ := succ_of hK
    simp only [impl_GreedyColours_l0_0]
    rw [neighbors_eq hg hes hN, bind_some', hc1 c, bind_some']
    have : ((nbr m es x).any fun y => decide (rdI o y = (c : Int))) = true := by
      rw [List.any_eq_true]
      have := l3 c (by omega)
      unfold freeN at this
      refine Classical.byContradiction fun q => this fun y hy e => q ⟨y, hy, decide_eq_true e⟩
    rw [this, br_t, wrap_succ (by omega)]
    exact ih (c + 1) K (by omega) (by omega)
theorem greedy_out {N m : Nat} {es : List (Int × Int)} {order : List Int} (hm : m ≤ 8) (hg : goodG ((m : Int), es)) (hes : es.length ≤ 1048576) (ho : order.length ≤ 8) (hn : order.Nodup) (hin : ∀ x ∈ order, InN m x) (hN : 1048577 ≤ N) {R : Type} (k0 : List Int → Option R) :
    ∀ (d n K : Nat), n + d = order.length → d < K → impl_GreedyColours_l0 N k0 K order (order.length : Int) (n : Int) (m : Int) es (grL m es (order.take n)) = k0 (grL m es order) := by
  intro d
  induction d with
  | zero =>
    intro n K hd hK
    obtain ⟨K, rfl⟩ := succ_of hK
    simp only [impl_GreedyColours_l0, ilt_nf (show ¬ n < order.length by omega), br_f]
    rw [List.take_of_length_le (by omega)]
  | succ d ih =>
    intro n K hd hK
    obtain ⟨K, rfl⟩ := succ_of hK
    have hl : n < order.length := by omega
    have hir : ∀ y : Int, ¬ nearG es y y := good_irr hg
    have hi := ginv_of hm hir hn hin n (by omega)
    have hlc := leastC_le hm es (grL m es (order.take n)) (rdI order (n : Int))
    have hx := hin _ (List.getElem_mem hl)
    simp only [impl_GreedyColours_l0, ilt_n hl, br_t, inb_n hl, chk_t]
    have h0 := greedy_in (N := N) (x := rdI order (n : Int)) (x4 := order) (x4' := (order.length : Int)) (x5 := (n : Int)) (k0 := fun x3 x4 x5 x6 o3 o4 o5 o6 => (chk (inb o6 x3) (impl_GreedyColours_l0 N k0 K x4 x5 (IntKind.i64.wrap (x6 + 1)) o3 o4 (tSet o6 x3 o5)))) hm hg hes hi.len hN (leastC m es (grL m es (order.take n)) (rdI order (n : Int))) 0 N (by omega) (by omega)
    rw [show ((0 : Nat) : Int) = 0 from rfl] at h0
    rw [h0]
    try simp only []
    rw [inb_i (by rw [rdI_n hl]; exact hx.1) (by rw [rdI_n hl, hi.len]; exact hx.2), chk_t, wrap_succ (by omega)]
    have e : tSet (grL m es (order.take n)) (rdI order (n : Int)) (leastC m es (grL m es (order.take n)) (rdI order (n : Int)) : Int) = grL m es (order.take (n + 1)) := by
      rw [List.take_add_one, List.getElem?_eq_getElem hl, rdI_n hl]
      exact (grL_snoc m es (order.take n) order[n]).symm
    rw [e]
    exact ih (n + 1) K (by omega) (by omega)
end Go.Proofs.Ytkffaahlpdlkoaa
