/- Plain lemmas on the words of the printed functions. -/
import Derived.Test.YtahehkidnfmfnaaGreatPvLaw
import Derived.OpenShut
set_option linter.all false
namespace Go.PV
open Go Go.WideShapes Go.ChangeShapes

section
variable {R : Type} {α β : Type}
theorem br_t (x y : Option R) : br true x y = x := rfl
theorem br_f (x y : Option R) : br false x y = y := rfl
theorem chk_t (x : Option R) : chk true x = x := rfl
theorem br_ite (b : Bool) (x y : Option R) : br b x y = if b = true then x else y := by cases b <;> rfl
theorem br_same (b : Bool) (x : Option R) : br b x x = x := by cases b <;> rfl
theorem amb_same (x : Option R) : amb x x = x := by unfold amb; simp
theorem ilt_d (a b : Int) : ilt a b = decide (a < b) := rfl
theorem ile_d (a b : Int) : ile a b = decide (a ≤ b) := rfl
theorem ieq_d (a b : Int) : ieq a b = decide (a = b) := by
  unfold ieq
  by_cases h : a = b <;> simp [h]
theorem ine_d (a b : Int) : ine a b = decide (a ≠ b) := by
  unfold ine
  by_cases h : a = b <;> simp [h]
theorem ilt_t {a b : Int} (h : a < b) : ilt a b = true := decide_eq_true h
theorem ilt_f {a b : Int} (h : ¬ a < b) : ilt a b = false := decide_eq_false h
theorem ile_t {a b : Int} (h : a ≤ b) : ile a b = true := decide_eq_true h
theorem ile_f {a b : Int} (h : ¬ a ≤ b) : ile a b = false := decide_eq_false h
theorem ieq_t {a b : Int} (h : a = b) : ieq a b = true := by rw [ieq_d]; exact decide_eq_true h
theorem ieq_f {a b : Int} (h : a ≠ b) : ieq a b = false := by rw [ieq_d]; exact decide_eq_false h
theorem ine_t {a b : Int} (h : a ≠ b) : ine a b = true := by rw [ine_d]; exact decide_eq_true h
theorem ine_f {a b : Int} (h : a = b) : ine a b = false := by rw [ine_d]; exact decide_eq_false (fun h' => h' h)
theorem tLen_n (xs : List α) : tLen xs = (xs.length : Int) := rfl
theorem ilt_n {n m : Nat} (h : n < m) : ilt (n : Int) (m : Int) = true := ilt_t (by omega)
theorem ilt_nf {n m : Nat} (h : ¬ n < m) : ilt (n : Int) (m : Int) = false := ilt_f (by omega)
theorem ilt_len {n : Nat} {xs : List α} (h : n < xs.length) : ilt (n : Int) (tLen xs) = true := ilt_n h
theorem ilt_lenf {n : Nat} {xs : List α} (h : ¬ n < xs.length) : ilt (n : Int) (tLen xs) = false := ilt_nf h
theorem inb_n {n : Nat} {xs : List α} (h : n < xs.length) : inb xs (n : Int) = true := by
  unfold inb
  rw [ile_t (by omega), ilt_len h]
  rfl
theorem rdI_n {xs : List Int} {n : Nat} (h : n < xs.length) : rdI xs (n : Int) = xs[n] := by simp [rdI, h]
theorem rdP_n {xs : List (Int × Int)} {n : Nat} (h : n < xs.length) : rdP xs (n : Int) = xs[n] := by simp [rdP, h]
theorem rdL_n {xs : List (List Int)} {n : Nat} (h : n < xs.length) : rdL xs (n : Int) = xs[n] := by simp [rdL, h]
theorem wrap_ok {n : Int} (h1 : -9223372036854775808 ≤ n) (h2 : n < 9223372036854775808) : IntKind.i64.wrap n = n := by
  unfold IntKind.wrap
  simp only [IntKind.bits, IntKind.signed, Bool.true_and, ge_iff_le, decide_eq_true_eq]
  by_cases h : 0 ≤ n
  · have e : n % (2 ^ 64 : Int) = n := Int.emod_eq_of_lt h (by omega)
    rw [e, if_neg (by omega)]
  · have e : n % (2 ^ 64 : Int) = n + 2 ^ 64 := by omega
    rw [e, if_pos (by omega)]
    omega
theorem wrap_succ {n : Nat} (h : n < 4611686018427387904) : IntKind.i64.wrap ((n : Int) + 1) = ((n + 1 : Nat) : Int) := by rw [wrap_ok (by omega) (by omega)]; rfl
theorem fits_ok {n : Nat} (h : n ≤ 1099511627776) : fits (n : Int) = true := Nat.ble_eq_true_of_le (by simpa using h)
theorem room_ok {xs : List α} {ys : List β} (h : xs.length + ys.length ≤ 1099511627776) : room xs ys = true := Nat.ble_eq_true_of_le h
theorem tApp_d (xs ys : List α) : tApp xs ys = xs ++ ys := rfl
theorem tSet_n (xs : List α) (n : Nat) (v : α) : tSet xs (n : Int) v = xs.set n v := by simp [tSet]
theorem tRep_n (n : Nat) (v : α) : tRep (n : Int) v = List.replicate n v := by simp [tRep]
theorem tCut_n (xs : List α) (a b : Nat) : tCut xs (a : Int) (b : Int) = (xs.take b).drop a := by simp [tCut]
theorem drop_cons {xs : List α} {n : Nat} (h : n < xs.length) : xs.drop n = xs[n] :: xs.drop (n + 1) := List.drop_eq_getElem_cons h
theorem drop_split {xs : List α} {n : Nat} (h : n < xs.length) : ∃ y r, xs.drop n = y :: r ∧ xs[n] = y ∧ xs.drop (n + 1) = r := ⟨_, _, List.drop_eq_getElem_cons h, rfl, rfl⟩
theorem succ_of {d K : Nat} (h : d < K) : ∃ k, K = k + 1 := ⟨K - 1, by omega⟩
theorem bind_some' (x : α) (f : α → Option β) : (some x).bind f = f x := rfl
theorem loop_all {L : Nat → Nat → Option R} {m : Nat} {p : Nat → Prop} {kt kf : Option R} (h0 : ∀ K n, ¬ n < m → L (K + 1) n = kt) (ht : ∀ K n, n < m → p n → L (K + 1) n = L K (n + 1)) (hf : ∀ K n, n < m → ¬ p n → L (K + 1) n = kf)
    {K : Nat} (hK : m < K) : ((∀ i, i < m → p i) → L K 0 = kt) ∧ ((¬ ∀ i, i < m → p i) → L K 0 = kf) := by
  have go : ∀ d n K, n + d = m → d < K → ((∀ i, n ≤ i → i < m → p i) → L K n = kt) ∧ ((¬ ∀ i, n ≤ i → i < m → p i) → L K n = kf) := by
    intro d
    induction d with
    | zero =>
      intro n K hd hK
      obtain ⟨k, rfl⟩ := succ_of hK
      exact ⟨fun _ => h0 k n (by omega), fun h => absurd (fun i h1 h2 => by omega) h⟩
    | succ d ih =>
      intro n K hd hK
      obtain ⟨k, rfl⟩ := succ_of hK
      by_cases hp : p n
      · rw [ht k n (by omega) hp]
        obtain ⟨h1, h2⟩ := ih (n + 1) k (by omega) (by omega)
        refine ⟨fun h => h1 fun i hi => h i (by omega), fun h => h2 fun h' => h fun i hi hm => ?_⟩
        by_cases hin : i = n
        · subst hin; exact hp
        · exact h' i (by omega) hm
      · rw [hf k n (by omega) hp]
        exact ⟨fun h => absurd (h n (Nat.le_refl n) (by omega)) hp, fun _ => rfl⟩
  obtain ⟨h1, h2⟩ := go m 0 K (by omega) hK
  exact ⟨fun h => h1 fun i _ => h i, fun h => h2 fun h' => h fun i => h' i (Nat.zero_le i)⟩
theorem loop_all_if {L : Nat → Nat → Option R} {m : Nat} {P : Prop} [Decidable P] (p : Nat → Prop) (hP : P ↔ ∀ i, i < m → p i) {kt kf : Option R} (h0 : ∀ K n, ¬ n < m → L (K + 1) n = kt) (ht : ∀ K n, n < m → p n → L (K + 1) n = L K (n + 1)) (hf : ∀ K n, n < m → ¬ p n → L (K + 1) n = kf)
    {K : Nat} (hK : m < K) : L K 0 = if P then kt else kf := by
  obtain ⟨h1, h2⟩ := loop_all (L := L) h0 ht hf hK
  by_cases h : P
  · rw [if_pos h]; exact h1 (hP.1 h)
  · rw [if_neg h]; exact h2 fun h' => h (hP.2 h')

def iter {σ : Type} (step : Nat → σ → σ) : Nat → Nat → σ → σ
  | 0, _, s => s
  | d + 1, n, s => iter step d (n + 1) (step n s)
theorem loop_iter {σ : Type} {L : Nat → Nat → σ → Option R} {m : Nat} {Inv : Nat → σ → Prop} {step : Nat → σ → σ} {k : σ → Option R} (h0 : ∀ K n s, ¬ n < m → Inv n s → L (K + 1) n s = k s)
    (h1 : ∀ K n s, n < m → Inv n s → L (K + 1) n s = L K (n + 1) (step n s)) (h2 : ∀ n s, n < m → Inv n s → Inv (n + 1) (step n s)) {K : Nat} {s : σ} (hK : m < K) (hs : Inv 0 s) : L K 0 s = k (iter step m 0 s) := by
  have go : ∀ d n K s, n + d = m → d < K → Inv n s → L K n s = k (iter step d n s) := by
    intro d
    induction d with
    | zero =>
      intro n K s hd hK hs
      obtain ⟨k, rfl⟩ := succ_of hK
      exact h0 k n s (by omega) hs
    | succ d ih =>
      intro n K s hd hK hs
      obtain ⟨k, rfl⟩ := succ_of hK
      rw [h1 k n s (by omega) hs, ih (n + 1) k _ (by omega) (by omega) (h2 n s (by omega) hs)]
      rfl
  exact go m 0 K s (by omega) hK hs

theorem loop_list {σ : Type} {xs : List α} {L : Nat → Nat → σ → Option R} (f : σ → α → σ) (Inv : Nat → σ → Prop) {k : σ → Option R} (h0 : ∀ K n s, ¬ n < xs.length → Inv n s → L (K + 1) n s = k s)
    (h1 : ∀ K n s (hn : n < xs.length), Inv n s → L (K + 1) n s = L K (n + 1) (f s xs[n])) (h2 : ∀ n s (hn : n < xs.length), Inv n s → Inv (n + 1) (f s xs[n])) {K : Nat} {s : σ} (hK : xs.length < K) (hs : Inv 0 s) :
    L K 0 s = k (xs.foldl f s) ∧ Inv xs.length (xs.foldl f s) := by
  have go : ∀ d n K s, n + d = xs.length → d < K → Inv n s → L K n s = k ((xs.drop n).foldl f s) ∧ Inv xs.length ((xs.drop n).foldl f s) := by
    intro d
    induction d with
    | zero =>
      intro n K s hd hK hs
      obtain ⟨k, rfl⟩ := succ_of hK
      rw [List.drop_of_length_le (by omega)]
      have e : n = xs.length := by omega
      exact ⟨h0 k n s (by omega) hs, by rw [← e]; exact hs⟩
    | succ d ih =>
      intro n K s hd hK hs
      obtain ⟨k, rfl⟩ := succ_of hK
      have hn : n < xs.length := by omega
      rw [h1 k n s hn hs, drop_cons hn, List.foldl_cons]
      exact ih (n + 1) k _ (by omega) (by omega) (h2 n s hn hs)
  have := go xs.length 0 K s (by omega) hK hs
  rwa [List.drop_zero] at this
theorem wrap_pred {n : Nat} (h : n < 4611686018427387904) (h0 : 0 < n) : IntKind.i64.wrap ((n : Int) - 1) = ((n - 1 : Nat) : Int) := by rw [wrap_ok (by omega) (by omega)]; omega
theorem inb_i {xs : List α} {i : Int} (h0 : 0 ≤ i) (h : i < xs.length) : inb xs i = true := by
  unfold inb
  rw [ile_t h0, tLen_n, ilt_t h]
  rfl
theorem ilt_0 {n : Nat} (h : 0 < n) : ilt 0 (n : Int) = true := ilt_t (by omega)
theorem ilt_0n {n : Nat} (h : ¬ 0 < n) : ilt 0 (n : Int) = false := ilt_f (by omega)
end
end Go.PV
