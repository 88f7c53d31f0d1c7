/- Plain lemmas on the words of the printed functions. -/
import Derived.Test.YtbnebekejbhopaaPvLaw
set_option linter.unusedVariables false
set_option linter.all false
namespace Go.PV
open Go

section
variable {R : Type} {α β : Type}
theorem br_t (x y : Option R) : br true x y = x := rfl
theorem br_f (x y : Option R) : br false x y = y := rfl
theorem chk_t (x : Option R) : chk true x = x := rfl
theorem br_ite (b : Bool) (x y : Option R) : br b x y = if b = true then x else y := by cases b <;> rfl
theorem chk_ite (b : Bool) (x : Option R) : chk b x = if b = true then x else none := by cases b <;> rfl
theorem br_same (b : Bool) (x : Option R) : br b x x = x := by cases b <;> rfl
theorem amb_same (x : Option R) : amb x x = x := by unfold amb; simp
theorem ilt_d (a b : Int) : ilt a b = decide (a < b) := rfl
theorem ile_d (a b : Int) : ile a b = decide (a ≤ b) := rfl
theorem ieq_d (a b : Int) : ieq a b = decide (a = b) := by
  unfold ieq
  by_cases h : a = b <;> simp [h]
theorem ine_d (a b : Int) : ine a b = decide (a ≠ b) := by
  unfold ine
  by_cases h : a = b <;> simp [h]
theorem ilt_t {a b : Int} (h : a < b) : ilt a b = true := decide_eq_true h
theorem ilt_f {a b : Int} (h : ¬ a < b) : ilt a b = false := decide_eq_false h
theorem ile_t {a b : Int} (h : a ≤ b) : ile a b = true := decide_eq_true h
theorem ile_f {a b : Int} (h : ¬ a ≤ b) : ile a b = false := decide_eq_false h
theorem ieq_t {a b : Int} (h : a = b) : ieq a b = true := by rw [ieq_d]; exact decide_eq_true h
theorem ieq_f {a b : Int} (h : a ≠ b) : ieq a b = false := by rw [ieq_d]; exact decide_eq_false h
theorem ine_t {a b : Int} (h : a ≠ b) : ine a b = true := by rw [ine_d]; exact decide_eq_true h
theorem ine_f {a b : Int} (h : a = b) : ine a b = false := by rw [ine_d]; exact decide_eq_false (fun h' => h' h)
theorem tLen_n (xs : List α) : tLen xs = (xs.length : Int) := rfl
theorem ilt_n {n m : Nat} (h : n < m) : ilt (n : Int) (m : Int) = true := ilt_t (by omega)
theorem ilt_nf {n m : Nat} (h : ¬ n < m) : ilt (n : Int) (m : Int) = false := ilt_f (by omega)
theorem ilt_len {n : Nat} {xs : List α} (h : n < xs.length) : ilt (n : Int) (tLen xs) = true := ilt_n h
theorem ilt_lenf {n : Nat} {xs : List α} (h : ¬ n < xs.length) : ilt (n : Int) (tLen xs) = false := ilt_nf h
theorem inb_n {n : Nat} {xs : List α} (h : n < xs.length) : inb xs (n : Int) = true := by
  unfold inb
  rw [ile_t (by omega), ilt_len h]
  rfl
theorem rd_n {t : Ty} {xs : List t.T} {n : Nat} (h : n < xs.length) : rd t xs (n : Int) = xs[n] := by simp [rd, h]
theorem wrap_ok {n : Int} (h1 : -9223372036854775808 ≤ n) (h2 : n < 9223372036854775808) : IntKind.i64.wrap n = n := by
  unfold IntKind.wrap
  simp only [IntKind.bits, IntKind.signed, Bool.true_and, ge_iff_le, decide_eq_true_eq]
  by_cases h : 0 ≤ n
  · have e : n % (2 ^ 64 : Int) = n := Int.emod_eq_of_lt h (by omega)
    rw [e, if_neg (by omega)]
  · have e : n % (2 ^ 64 : Int) = n + 2 ^ 64 := by omega
    rw [e, if_pos (by omega)]
    omega
theorem wrap_succ {n : Nat} (h : n < 4611686018427387904) : IntKind.i64.wrap ((n : Int) + 1) = ((n + 1 : Nat) : Int) := by rw [wrap_ok (by omega) (by omega)]; rfl
theorem fits_ok {n : Nat} (h : n ≤ 1099511627776) : fits (n : Int) = true := Nat.ble_eq_true_of_le (by simpa using h)
theorem room_ok {xs : List α} {ys : List β} (h : xs.length + ys.length ≤ 1099511627776) : room xs ys = true := Nat.ble_eq_true_of_le h
theorem tApp_d (xs ys : List α) : tApp xs ys = xs ++ ys := rfl
theorem tSet_n (xs : List α) (n : Nat) (v : α) : tSet xs (n : Int) v = xs.set n v := by simp [tSet]
theorem tRep_n (n : Nat) (v : α) : tRep (n : Int) v = List.replicate n v := by simp [tRep]
theorem tCut_n (xs : List α) (a b : Nat) : tCut xs (a : Int) (b : Int) = (xs.take b).drop a := by simp [tCut]
theorem drop_cons {xs : List α} {n : Nat} (h : n < xs.length) : xs.drop n = xs[n] :: xs.drop (n + 1) := List.drop_eq_getElem_cons h
theorem drop_split {xs : List α} {n : Nat} (h : n < xs.length) : ∃ y r, xs.drop n = y :: r ∧ xs[n] = y ∧ xs.drop (n + 1) = r := ⟨_, _, List.drop_eq_getElem_cons h, rfl, rfl⟩
theorem succ_of {d K : Nat} (h : d < K) : ∃ k, K = k + 1 := ⟨K - 1, by omega⟩
theorem bind_some' (x : α) (f : α → Option β) : (some x).bind f = f x := rfl
theorem not_bool (b : Bool) : (!b) = true ↔ b = false := by cases b <;> simp
end
end Go.PV
