/- Statements on data alone. -/
import Derived.Test.YthkejedgfhjdiaaPvPure
import Derived.Test.YthkejedgfhjdiaaNegateVarsFb
set_option linter.all false
set_option linter.all false
namespace Go.Proofs.Ythkejedgfhjdiaa
open Go Go.PV Classical
theorem toIntS_l0_eq {R : Type} (N : Nat) (k0 : List Int → Option R) (xs : List Int) (hx : xs.length ≤ 1099511627776) : ∀ (d n : Nat) (o : List Int) (K : Nat), n + d = xs.length → d < K → o.length = xs.length →
    laws_toIntS_l0 N k0 K xs n o = k0 (o.take n ++ xs.drop n) := by
  intro d
  induction d with
  | zero =>
    intro n o K hd hK ho
    obtain ⟨k, rfl⟩ := succ_of hK
    have hn : ¬ n < xs.length := by omega
    simp only [laws_toIntS_l0, ilt_lenf hn, br_f]
    rw [List.take_of_length_le (by omega), List.drop_of_length_le (by omega), List.append_nil]
  | succ d ih =>
    intro n o K hd hK ho
    obtain ⟨k, rfl⟩ := succ_of hK
    have hn : n < xs.length := by omega
    have hno : n < o.length := by omega
    simp only [laws_toIntS_l0, ilt_len hn, inb_n hn, inb_n hno, br_t, chk_t]
    rw [wrap_succ (by omega), tSet_n, rdI_n hn, ih (n + 1) _ k (by omega) (by omega) (by simpa using ho)]
    congr 1
    rw [drop_cons hn, List.take_add_one, List.getElem?_set_self (by omega), List.take_set_of_le (Nat.le_refl n)]
    simp
theorem toIntS_eq {N : Nat} {xs : List Int} (hx : xs.length ≤ 1048576) (hN : 1048577 ≤ N) : laws_toIntS N xs = some ((xs, ()), ()) := by
  unfold laws_toIntS
  simp only [tLen_n, ile_t (show (0 : Int) ≤ (xs.length : Int) by omega), ile_t (Int.le_refl _), fits_ok (show xs.length ≤ 1099511627776 by omega), Bool.and_self, chk_t]
  have := toIntS_l0_eq N (fun o => some ((o, ()), ())) xs (by omega) xs.length 0 (tRep (xs.length : Int) 0) N (by omega) (by omega) (by simp [tRep])
  simp only [Int.natCast_zero, List.take_zero, List.drop_zero, List.nil_append] at this
  exact this
theorem eqIntS_l0_eq {R : Type} (N : Nat) (k0 : Bool → Option R) (k1 : Unit → Option R) (a b : List Int) (hx : a.length ≤ 1099511627776) (hl : a.length = b.length) : ∀ (d n : Nat) (K : Nat), n + d = a.length → d < K →
    laws_eqIntS_l0 N k0 k1 K a b n = if a.drop n = b.drop n then k1 () else k0 false := by
  intro d
  induction d with
  | zero =>
    intro n K hd hK
    obtain ⟨k, rfl⟩ := succ_of hK
    have hn : ¬ n < a.length := by omega
    simp only [laws_eqIntS_l0, ilt_lenf hn, br_f]
    rw [if_pos]
    rw [List.drop_of_length_le (by omega), List.drop_of_length_le (by omega)]
  | succ d ih =>
    intro n K hd hK
    obtain ⟨k, rfl⟩ := succ_of hK
    have hn : n < a.length := by omega
    have hnb : n < b.length := by omega
    simp only [laws_eqIntS_l0, ilt_len hn, inb_n hn, inb_n hnb, br_t, chk_t]
    rw [wrap_succ (by omega), rdI_n hn, rdI_n hnb, ih (n + 1) k (by omega) (by omega), drop_cons hn, drop_cons hnb]
    by_cases he : a[n] = b[n]
    · rw [ine_f he, br_f, he]
      simp only [List.cons.injEq, true_and]
    · rw [ine_t he, br_t, if_neg]
      intro h
      injection h with h _
      exact he h
theorem eqIntS_eq {N : Nat} {a b : List Int} (hx : a.length ≤ 1099511627776) (hN : a.length < N) : laws_eqIntS N a b = some ((decide (a = b), ()), ()) := by
  unfold laws_eqIntS
  simp only [tLen_n]
  by_cases hl : a.length = b.length
  · rw [ine_f (by omega), br_f]
    have := eqIntS_l0_eq N (fun x => some ((x, ()), ())) (fun _ => some ((true, ()), ())) a b hx hl a.length 0 N (by omega) (by omega)
    simp only [Int.natCast_zero, List.drop_zero] at this
    rw [this]
    by_cases h : a = b <;> simp [h]
  · rw [ine_t (by omega), br_t]
    have : a ≠ b := fun h => hl (by rw [h])
    simp [this]

/-! ### How much a law lets in -/
theorem szIntS_eq (N : Nat) {xs : List Int} {left : Int} (hl : 0 ≤ left ∧ left ≤ 1048576) (hx : xs.length ≤ 9223372036854775807) : laws_szIntS N xs left = some ((if (xs.length : Int) ≤ left then left - xs.length else -1, ()), ()) := by
  unfold laws_szIntS
  rw [tLen_n, wrap_ok (by omega) (by omega)]
  by_cases h : (xs.length : Int) ≤ left
  · rw [ilt_f (by omega), br_f, if_pos h]
  · rw [ilt_t (by omega), br_t, if_neg h]
/-- What is left behind lists. -/
def szL : List (List Int) → Int → Int
  | [], l => l
  | x :: xs, l => if (x.length : Int) ≤ l then szL xs (l - x.length) else -1
theorem szL_le : ∀ (xs : List (List Int)) (l : Int), 0 ≤ l → 0 ≤ szL xs l → szL xs l ≤ l ∧ ∀ x ∈ xs, (x.length : Int) ≤ l := by
  intro xs
  induction xs with
  | nil => intro l h _; exact ⟨Int.le_refl l, by simp⟩
  | cons x xs ih =>
    intro l h0 h
    unfold szL at h ⊢
    by_cases hx : (x.length : Int) ≤ l
    · rw [if_pos hx] at h ⊢
      obtain ⟨h1, h2⟩ := ih _ (by omega) h
      refine ⟨by omega, fun y hy => ?_⟩
      rcases List.mem_cons.1 hy with rfl | hy
      · exact hx
      · have := h2 y hy
        omega
    · rw [if_neg hx] at h
      omega
theorem szIntSS_l0_eq {R : Type} (N : Nat) (k0 k1 : Int → Option R) (xs : List (List Int)) (hx : ∀ x ∈ xs, x.length ≤ 9223372036854775807) (hl : xs.length ≤ 1048576) : ∀ (d n : Nat) (left : Int) (K : Nat), n + d = xs.length → d < K → 0 ≤ left → left ≤ 1048576 →
    laws_szIntSS_l0 N k0 k1 K xs left n = if 0 ≤ szL (xs.drop n) left then k1 (szL (xs.drop n) left) else k0 (-1) := by
  intro d
  induction d with
  | zero =>
    intro n left K hd hK h0 h1
    obtain ⟨k, rfl⟩ := succ_of hK
    have hn : ¬ n < xs.length := by omega
    simp only [laws_szIntSS_l0, ilt_lenf hn, br_f]
    rw [List.drop_of_length_le (by omega)]
    simp [szL, h0]
  | succ d ih =>
    intro n left K hd hK h0 h1
    obtain ⟨k, rfl⟩ := succ_of hK
    have hn : n < xs.length := by omega
    simp only [laws_szIntSS_l0, ilt_len hn, inb_n hn, br_t, chk_t]
    obtain ⟨y, r, e1, e2, e3⟩ := drop_split hn
    have hy := hx _ (List.getElem_mem hn)
    rw [rdL_n hn, e2] at *
    rw [e2] at hy
    rw [szIntS_eq N ⟨h0, h1⟩ hy, bind_some', e1]
    unfold szL
    by_cases h : (y.length : Int) ≤ left
    · simp only [if_pos h]
      rw [ilt_f (by omega), br_f, wrap_succ (by omega), ih (n + 1) _ k (by omega) (by omega) (by omega) (by omega), e3]
    · simp only [if_neg h]
      rw [ilt_t (by omega), br_t, if_neg (by omega)]
theorem szIntSS_eq {N : Nat} {xs : List (List Int)} {left : Int} (h0 : 0 ≤ left ∧ left ≤ 1048576) (hx : xs.length ≤ 9223372036854775807) (hxs : ∀ x ∈ xs, x.length ≤ 9223372036854775807) (hN : 1048577 ≤ N) :
    ∃ r : Int, laws_szIntSS N xs left = some ((r, ()), ()) ∧ (0 ≤ r → r ≤ left ∧ (xs.length : Int) ≤ left ∧ ∀ x ∈ xs, (x.length : Int) ≤ left) := by
  unfold laws_szIntSS
  rw [tLen_n, wrap_ok (by omega) (by omega)]
  by_cases h : (xs.length : Int) ≤ left
  · rw [ilt_f (by omega), br_f]
    have := szIntSS_l0_eq N (fun x => some ((x, ()), ())) (fun left1 => some ((left1, ()), ())) xs hxs (by omega) xs.length 0 (left - xs.length) N (by omega) (by omega) (by omega) (by omega)
    simp only [Int.natCast_zero, List.drop_zero] at this
    rw [this]
    by_cases hs : 0 ≤ szL xs (left - xs.length)
    · rw [if_pos hs]
      obtain ⟨h1, h2⟩ := szL_le xs _ (by omega) hs
      exact ⟨_, rfl, fun _ => ⟨by omega, h, fun x hx => by have := h2 x hx; omega⟩⟩
    · rw [if_neg hs]
      exact ⟨_, rfl, fun h => by omega⟩
  · rw [ilt_t (by omega), br_t]
    exact ⟨_, rfl, fun h => by omega⟩
theorem szFormula_eq {N : Nat} {f : Int × List (List Int)} (hx : f.2.length ≤ 9223372036854775807) (hxs : ∀ x ∈ f.2, x.length ≤ 9223372036854775807) (hN : 1048577 ≤ N) :
    ∃ r : Int, laws_szFormula N f 1048576 = some ((r, ()), ()) ∧ (0 ≤ r → f.2.length ≤ 1048576 ∧ ∀ x ∈ f.2, x.length ≤ 1048576) := by
  obtain ⟨r, h1, h2⟩ := szIntSS_eq (left := 1048576) (by omega) hx hxs hN
  unfold laws_szFormula
  simp only [h1, bind_some']
  by_cases h : 0 ≤ r
  · rw [ilt_f (by omega), br_f]
    obtain ⟨_, h3, h4⟩ := h2 h
    exact ⟨r, rfl, fun _ => ⟨by omega, fun x hx => by have := h4 x hx; omega⟩⟩
  · rw [ilt_t (by omega), br_t]
    exact ⟨-1, rfl, fun h => by omega⟩
theorem toIntSS_l0_eq {R : Type} (N : Nat) (k0 : List (List Int) → Option R) (xs : List (List Int)) (hx : xs.length ≤ 1048576) (hxs : ∀ x ∈ xs, x.length ≤ 1048576) (hN : 1048577 ≤ N) : ∀ (d n : Nat) (o : List (List Int)) (K : Nat), n + d = xs.length → d < K → o.length = xs.length →
    laws_toIntSS_l0 N k0 K xs n o = k0 (o.take n ++ xs.drop n) := by
  intro d
  induction d with
  | zero =>
    intro n o K hd hK ho
    obtain ⟨k, rfl⟩ := succ_of hK
    have hn : ¬ n < xs.length := by omega
    simp only [laws_toIntSS_l0, ilt_lenf hn, br_f]
    rw [List.take_of_length_le (by omega), List.drop_of_length_le (by omega), List.append_nil]
  | succ d ih =>
    intro n o K hd hK ho
    obtain ⟨k, rfl⟩ := succ_of hK
    have hn : n < xs.length := by omega
    have hno : n < o.length := by omega
    simp only [laws_toIntSS_l0, ilt_len hn, inb_n hn, inb_n hno, br_t, chk_t]
    rw [rdL_n hn, toIntS_eq (hxs _ (List.getElem_mem hn)) hN, bind_some', wrap_succ (by omega), tSet_n, ih (n + 1) _ k (by omega) (by omega) (by simpa using ho)]
    congr 1
    rw [drop_cons hn, List.take_add_one, List.getElem?_set_self (by omega), List.take_set_of_le (Nat.le_refl n)]
    simp
theorem toIntSS_eq {N : Nat} {xs : List (List Int)} (hx : xs.length ≤ 1048576) (hxs : ∀ x ∈ xs, x.length ≤ 1048576) (hN : 1048577 ≤ N) : laws_toIntSS N xs = some ((xs, ()), ()) := by
  unfold laws_toIntSS
  simp only [tLen_n, ile_t (show (0 : Int) ≤ (xs.length : Int) by omega), ile_t (Int.le_refl _), fits_ok (show xs.length ≤ 1099511627776 by omega), Bool.and_self, chk_t]
  have := toIntSS_l0_eq N (fun o => some ((o, ()), ())) xs hx hxs hN xs.length 0 (tRep (xs.length : Int) []) N (by omega) (by omega) (by simp [tRep])
  simp only [Int.natCast_zero, List.take_zero, List.drop_zero, List.nil_append] at this
  exact this
theorem toFormula_eq {N : Nat} {f : Int × List (List Int)} (hx : f.2.length ≤ 1048576) (hxs : ∀ x ∈ f.2, x.length ≤ 1048576) (hN : 1048577 ≤ N) : laws_toFormula N f = some ((f, ()), ()) := by
  unfold laws_toFormula
  rw [toIntSS_eq hx hxs hN, bind_some']
theorem eqIntSS_l0_eq {R : Type} (N : Nat) (k0 : Bool → Option R) (k1 : Unit → Option R) (a b : List (List Int)) (hx : a.length ≤ 1099511627776) (hxs : ∀ x ∈ a, x.length ≤ 1048576) (hN : 1048577 ≤ N) (hl : a.length = b.length) : ∀ (d n : Nat) (K : Nat), n + d = a.length → d < K →
    laws_eqIntSS_l0 N k0 k1 K a b n = if a.drop n = b.drop n then k1 () else k0 false := by
  intro d
  induction d with
  | zero =>
    intro n K hd hK
    obtain ⟨k, rfl⟩ := succ_of hK
    have hn : ¬ n < a.length := by omega
    simp only [laws_eqIntSS_l0, ilt_lenf hn, br_f]
    rw [if_pos]
    rw [List.drop_of_length_le (by omega), List.drop_of_length_le (by omega)]
  | succ d ih =>
    intro n K hd hK
    obtain ⟨k, rfl⟩ := succ_of hK
    have hn : n < a.length := by omega
    have hnb : n < b.length := by omega
    simp only [laws_eqIntSS_l0, ilt_len hn, inb_n hn, inb_n hnb, br_t, chk_t]
    have ha := hxs _ (List.getElem_mem hn)
    rw [wrap_succ (by omega), rdL_n hn, rdL_n hnb, eqIntS_eq (by omega) (by omega), bind_some', ih (n + 1) k (by omega) (by omega), drop_cons hn, drop_cons hnb, br_ite]
    by_cases he : a[n] = b[n]
    · rw [he, if_neg (by simp)]
      simp only [List.cons.injEq, true_and]
    · rw [if_pos (by simp [he]), if_neg]
      intro h
      injection h with h _
      exact he h
theorem eqIntSS_eq {N : Nat} {a b : List (List Int)} (hx : a.length ≤ 1048576) (hxs : ∀ x ∈ a, x.length ≤ 1048576) (hN : 1048577 ≤ N) : laws_eqIntSS N a b = some ((decide (a = b), ()), ()) := by
  unfold laws_eqIntSS
  simp only [tLen_n]
  by_cases hl : a.length = b.length
  · rw [ine_f (by omega), br_f]
    have := eqIntSS_l0_eq N (fun x => some ((x, ()), ())) (fun _ => some ((true, ()), ())) a b (by omega) hxs hN hl a.length 0 N (by omega) (by omega)
    simp only [Int.natCast_zero, List.drop_zero] at this
    rw [this]
    by_cases h : a = b <;> simp [h]
  · rw [ine_t (by omega), br_t]
    have : a ≠ b := fun h => hl (by rw [h])
    simp [this]
theorem eqFormula_eq {N : Nat} {a b : Int × List (List Int)} (hx : a.2.length ≤ 1048576) (hxs : ∀ x ∈ a.2, x.length ≤ 1048576) (hN : 1048577 ≤ N) : laws_eqFormula N a b = some ((decide (a = b), ()), ()) := by
  obtain ⟨a1, a2⟩ := a
  obtain ⟨b1, b2⟩ := b
  unfold laws_eqFormula
  by_cases h1 : a1 = b1
  · rw [ine_f h1, br_f, eqIntSS_eq hx hxs hN, bind_some', br_ite]
    by_cases h2 : a2 = b2 <;> simp [h1, h2]
  · rw [ine_t h1, br_t]
    simp [h1]
theorem all_rdI {xs : List Int} {p : Int → Prop} : (∀ x ∈ xs, p x) ↔ ∀ i : Nat, i < xs.length → p (rdI xs i) := by
  constructor
  · intro h i hi
    rw [rdI_n hi]
    exact h _ (List.getElem_mem hi)
  · intro h x hx
    obtain ⟨i, hi, rfl⟩ := List.mem_iff_getElem.1 hx
    have := h i hi
    rwa [rdI_n hi] at this
theorem l1In_eq (N : Nat) (x a b : Int) : spec_l1In N x a b = some ((decide (a ≤ x ∧ x ≤ b), ()), ()) := by
  unfold spec_l1In
  rw [br_ite, ile_d, ile_d]
  by_cases h : a ≤ x <;> by_cases h' : x ≤ b <;> simp [h, h']
theorem between_eq (N : Nat) (n low high : Int) : impl_between N n low high = some ((decide (low ≤ n ∧ n ≤ high), ()), ()) := by
  unfold impl_between
  rw [br_ite, ile_d, ile_d]
  by_cases h : low ≤ n <;> by_cases h' : n ≤ high <;> simp [h, h']
def litOk (v : Int) (c : List Int) (k : Nat) : Prop := rdI c k ≠ 0 ∧ -v ≤ rdI c k ∧ rdI c k ≤ v ∧ (0 < k → rdI c ((k - 1 : Nat) : Int) < rdI c k)
def clauseOk (v : Int) (c : List Int) : Prop := ∀ k, k < c.length → litOk v c k
def goodF (f : Int × List (List Int)) : Prop := (0 ≤ f.1 ∧ f.1 ≤ 6) ∧ f.2.length ≤ 64 ∧ ∀ i, i < f.2.length → clauseOk f.1 (rdL f.2 i)
theorem spec_l6Literal_eq (N : Nat) {v : Int} (hv : 0 ≤ v ∧ v ≤ 6) (x : Int) : spec_l6Literal N v x = some ((decide (x ≠ 0 ∧ -v ≤ x ∧ x ≤ v), ()), ()) := by
  unfold spec_l6Literal
  rw [wrap_ok (by omega) (by omega), l1In_eq, bind_some', br_ite, ine_d]
  have e : (0 : Int) - v = -v := by omega
  rw [e]
  by_cases h : x = 0 <;> simp [h]
theorem l6Good_in_eq {R : Type} {N : Nat} (k0 : Bool → Option R) (k1 : Int → Int → List (List Int) → Option R) {v : Int} (hv : 0 ≤ v ∧ v ≤ 6) {cs : List (List Int)} {i : Nat} (hi : i < cs.length) (hc : (rdL cs i).length ≤ 1048576) (hN : 1048577 ≤ N) :
    spec_l6Good_l0_0 N k0 k1 N i 0 v cs = if clauseOk v (rdL cs i) then k1 i v cs else k0 false := by
  refine loop_all_if (K := N) (L := fun K k => spec_l6Good_l0_0 N k0 k1 K i k v cs) (m := (rdL cs i).length) (P := clauseOk v (rdL cs i)) (litOk v (rdL cs i)) Iff.rfl (fun K n hn => ?_) (fun K n hn hp => ?_) (fun K n hn hp => ?_) (by omega)
  · simp only [spec_l6Good_l0_0, inb_n hi, chk_t, ilt_lenf hn, br_f]
  · obtain ⟨h1, h2, h3, h4⟩ := hp
    simp only [spec_l6Good_l0_0, inb_n hi, chk_t, ilt_len hn, br_t, inb_n hn, spec_l6Literal_eq N hv, bind_some']
    rw [br_ite, if_neg (by simp [h1, h2, h3])]
    by_cases h0 : 0 < n
    · rw [ilt_0 h0, br_t, wrap_pred (by omega) h0, inb_n (by omega), chk_t, ile_f (by have := h4 h0; omega), br_f, wrap_succ (by omega)]
    · rw [ilt_0n h0, br_f, wrap_succ (by omega)]
  · simp only [spec_l6Good_l0_0, inb_n hi, chk_t, ilt_len hn, br_t, inb_n hn, spec_l6Literal_eq N hv, bind_some']
    by_cases h : rdI (rdL cs i) n ≠ 0 ∧ -v ≤ rdI (rdL cs i) n ∧ rdI (rdL cs i) n ≤ v
    · rw [br_ite, if_neg (by simp [h])]
      have h0 : 0 < n := by
        rcases Nat.eq_zero_or_pos n with h0 | h0
        · exact absurd ⟨h.1, h.2.1, h.2.2, fun h' => by omega⟩ hp
        · exact h0
      have h4 : ¬ rdI (rdL cs i) ((n - 1 : Nat) : Int) < rdI (rdL cs i) n := fun h' => hp ⟨h.1, h.2.1, h.2.2, fun _ => h'⟩
      rw [ilt_0 h0, br_t, wrap_pred (by omega) h0, inb_n (by omega), chk_t, ile_t (by omega), br_t]
    · rw [br_ite, if_pos (by simp only [Bool.not_eq_true', decide_eq_false_iff_not]; exact h)]
theorem spec_l6Good_eq {N : Nat} {f : Int × List (List Int)} (hl : f.2.length ≤ 1048576) (hc : ∀ c ∈ f.2, c.length ≤ 1048576) (hN : 1048577 ≤ N) : spec_l6Good N f = some ((decide (goodF f), ()), ()) := by
  obtain ⟨v, cs⟩ := f
  unfold spec_l6Good
  rw [l1In_eq, bind_some', br_ite]
  by_cases hv : 0 ≤ v ∧ v ≤ 6
  · rw [if_neg (by simp [hv]), tLen_n]
    by_cases h64 : cs.length ≤ 64
    · rw [ilt_f (show ¬ (64 : Int) < cs.length by omega), br_f]
      have := loop_all_if (L := fun K i => spec_l6Good_l0 N (fun x => some ((x, ()), ())) (fun (_ : Unit) => some ((true, ()), ())) K i v cs) (m := cs.length) (P := ∀ i, i < cs.length → clauseOk v (rdL cs i)) (fun i => clauseOk v (rdL cs i)) Iff.rfl (kt := some ((true, ()), ())) (kf := some ((false, ()), ())) (fun K n hn => ?_) (fun K n hn hp => ?_) (fun K n hn hp => ?_) (show cs.length < N by omega)
      · rw [show ((0 : Nat) : Int) = 0 from rfl] at this
        rw [this]
        by_cases h : ∀ i, i < cs.length → clauseOk v (rdL cs i)
        · rw [if_pos h, decide_eq_true (show goodF (v, cs) from ⟨hv, h64, h⟩)]
        · rw [if_neg h, decide_eq_false (show ¬ goodF (v, cs) from fun h' => h h'.2.2)]
      · simp only [spec_l6Good_l0, ilt_lenf hn, br_f]
      · simp only [spec_l6Good_l0, ilt_len hn, br_t]
        rw [l6Good_in_eq _ _ hv hn (rdL_len hc _) hN, if_pos hp, wrap_succ (by omega)]
      · simp only [spec_l6Good_l0, ilt_len hn, br_t]
        rw [l6Good_in_eq _ _ hv hn (rdL_len hc _) hN, if_neg hp]
    · rw [ilt_t (show (64 : Int) < cs.length by omega), br_t, decide_eq_false (show ¬ goodF (v, cs) from fun h => h64 h.2.1)]
  · rw [if_pos (by simp only [Bool.not_eq_true', decide_eq_false_iff_not]; exact hv), decide_eq_false (show ¬ goodF (v, cs) from fun h => hv h.1)]
theorem IsFormula_in_eq {R : Type} {N : Nat} (k0 : Bool → Option R) (k1 : List (List Int) → Int → Int → Int → List (List Int) → Option R) {v : Int} (hv : 0 ≤ v ∧ v ≤ 6) {c : List Int} {x3 : List (List Int)} {x4 x5 : Int} {cs : List (List Int)} (hc : c.length ≤ 1048576) (hN : 1048577 ≤ N) :
    impl_IsFormula_l0_0 N k0 k1 N c x3 x4 x5 c (c.length : Int) 0 v cs = if clauseOk v c then k1 x3 x4 x5 v cs else k0 false := by
  refine loop_all_if (K := N) (L := fun K k => impl_IsFormula_l0_0 N k0 k1 K c x3 x4 x5 c (c.length : Int) k v cs) (m := c.length) (P := clauseOk v c) (litOk v c) Iff.rfl (fun K n hn => ?_) (fun K n hn hp => ?_) (fun K n hn hp => ?_) (by omega)
  · simp only [impl_IsFormula_l0_0, ilt_nf hn, br_f]
  · obtain ⟨h1, h2, h3, h4⟩ := hp
    simp only [impl_IsFormula_l0_0, ilt_n hn, br_t, inb_n hn, chk_t, between_eq, bind_some', wrap_ok (show -9223372036854775808 ≤ 0 - v by omega) (show 0 - v < 9223372036854775808 by omega)]
    rw [ieq_f h1, br_f, br_ite, if_neg (by simp; omega)]
    by_cases h0 : 0 < n
    · rw [ilt_0 h0, br_t, wrap_pred (by omega) h0, inb_n (by omega), chk_t, ile_f (by have := h4 h0; omega), br_f, wrap_succ (by omega)]
    · rw [ilt_0n h0, br_f, wrap_succ (by omega)]
  · simp only [impl_IsFormula_l0_0, ilt_n hn, br_t, inb_n hn, chk_t, between_eq, bind_some', wrap_ok (show -9223372036854775808 ≤ 0 - v by omega) (show 0 - v < 9223372036854775808 by omega)]
    by_cases hz : rdI c n = 0
    · rw [ieq_t hz, br_t]
    · rw [ieq_f hz, br_f, br_ite]
      by_cases h : -v ≤ rdI c n ∧ rdI c n ≤ v
      · rw [if_neg (by simp; omega)]
        have h0 : 0 < n := by
          rcases Nat.eq_zero_or_pos n with h0 | h0
          · exact absurd ⟨hz, h.1, h.2, fun h' => by omega⟩ hp
          · exact h0
        have h4 : ¬ rdI c ((n - 1 : Nat) : Int) < rdI c n := fun h' => hp ⟨hz, h.1, h.2, fun _ => h'⟩
        rw [ilt_0 h0, br_t, wrap_pred (by omega) h0, inb_n (by omega), chk_t, ile_t (by omega), br_t]
      · rw [if_pos (by simp only [Bool.not_eq_true', decide_eq_false_iff_not]; omega)]
theorem impl_IsFormula_eq {N : Nat} {f : Int × List (List Int)} (hl : f.2.length ≤ 1048576) (hc : ∀ c ∈ f.2, c.length ≤ 1048576) (hN : 1048577 ≤ N) : impl_IsFormula N f = some ((decide (goodF f), ()), ()) := by
  obtain ⟨v, cs⟩ := f
  unfold impl_IsFormula
  rw [between_eq, bind_some', br_ite]
  by_cases hv : 0 ≤ v ∧ v ≤ 6
  · rw [if_neg (by simp [hv]), tLen_n]
    by_cases h64 : cs.length ≤ 64
    · rw [ilt_f (show ¬ (64 : Int) < cs.length by omega), br_f]
      have := loop_all_if (L := fun K i => impl_IsFormula_l0 N (fun x => some ((x, ()), ())) (fun (_ : Unit) => some ((true, ()), ())) K cs (cs.length : Int) i v cs) (m := cs.length) (P := ∀ i, i < cs.length → clauseOk v (rdL cs i)) (fun i => clauseOk v (rdL cs i)) Iff.rfl (kt := some ((true, ()), ())) (kf := some ((false, ()), ())) (fun K n hn => ?_) (fun K n hn hp => ?_) (fun K n hn hp => ?_) (show cs.length < N by omega)
      · rw [show ((0 : Nat) : Int) = 0 from rfl] at this
        rw [this]
        by_cases h : ∀ i, i < cs.length → clauseOk v (rdL cs i)
        · rw [if_pos h, decide_eq_true (show goodF (v, cs) from ⟨hv, h64, h⟩)]
        · rw [if_neg h, decide_eq_false (show ¬ goodF (v, cs) from fun h' => h h'.2.2)]
      · simp only [impl_IsFormula_l0, ilt_nf hn, br_f]
      · simp only [impl_IsFormula_l0, ilt_n hn, br_t, inb_n hn, chk_t, tLen_n]
        rw [IsFormula_in_eq _ _ hv (rdL_len hc _) hN, if_pos hp, wrap_succ (by omega)]
      · simp only [impl_IsFormula_l0, ilt_n hn, br_t, inb_n hn, chk_t, tLen_n]
        rw [IsFormula_in_eq _ _ hv (rdL_len hc _) hN, if_neg hp]
    · rw [ilt_t (show (64 : Int) < cs.length by omega), br_t, decide_eq_false (show ¬ goodF (v, cs) from fun h => h64 h.2.1)]
  · rw [if_pos (by simp only [Bool.not_eq_true', decide_eq_false_iff_not]; exact hv), decide_eq_false (show ¬ goodF (v, cs) from fun h => hv h.1)]
def risingAt (lo hi : Int) (xs : List Int) (i : Nat) : Prop := (lo ≤ rdI xs i ∧ rdI xs i ≤ hi) ∧ (0 < i → rdI xs ((i - 1 : Nat) : Int) < rdI xs i)
def rising (lo hi : Int) (xs : List Int) : Prop := ∀ i, i < xs.length → risingAt lo hi xs i
theorem l1Rising_eq {N : Nat} {lo hi : Int} {xs : List Int} (hx : xs.length ≤ 1048576) (hN : 1048577 ≤ N) : spec_l1Rising N xs lo hi = some ((decide (rising lo hi xs), ()), ()) := by
  unfold spec_l1Rising
  have := loop_all_if (P := rising lo hi xs) (L := fun K i => spec_l1Rising_l0 N (fun x => some ((x, ()), ())) (fun (_ : Unit) => some ((true, ()), ())) K xs lo hi i) (risingAt lo hi xs) Iff.rfl (kt := some ((true, ()), ())) (kf := some ((false, ()), ())) (fun K n hn => ?_) (fun K n hn hp => ?_) (fun K n hn hp => ?_) (show xs.length < N by omega)
  · rw [show ((0 : Nat) : Int) = 0 from rfl] at this
    rw [this]
    by_cases h : rising lo hi xs <;> simp [h]
  · simp only [spec_l1Rising_l0, ilt_lenf hn, br_f]
  · simp only [spec_l1Rising_l0, ilt_len hn, br_t, inb_n hn, chk_t, l1In_eq, bind_some']
    obtain ⟨h1, h2⟩ := hp
    rw [decide_eq_true h1, Bool.not_true, br_f]
    by_cases h0 : 0 < n
    · rw [ilt_0 h0, br_t, wrap_pred (by omega) h0, inb_n (by omega), chk_t, ile_f (by have := h2 h0; omega), br_f, wrap_succ (by omega)]
    · rw [ilt_0n h0, br_f, wrap_succ (by omega)]
  · simp only [spec_l1Rising_l0, ilt_len hn, br_t, inb_n hn, chk_t, l1In_eq, bind_some']
    by_cases h1 : lo ≤ rdI xs n ∧ rdI xs n ≤ hi
    · rw [decide_eq_true h1, Bool.not_true, br_f]
      have h0 : 0 < n := by
        rcases Nat.eq_zero_or_pos n with h0 | h0
        · exact absurd ⟨h1, fun h' => by omega⟩ hp
        · exact h0
      have h4 : ¬ rdI xs ((n - 1 : Nat) : Int) < rdI xs n := fun h' => hp ⟨h1, fun _ => h'⟩
      rw [ilt_0 h0, br_t, wrap_pred (by omega) h0, inb_n (by omega), chk_t, ile_t (by omega), br_t]
    · rw [decide_eq_false h1, Bool.not_false, br_t]
theorem isRising_eq {N : Nat} {m : Int} {xs : List Int} (hx : xs.length ≤ 1048576) (hm : 0 ≤ m ∧ m ≤ 4611686018427387904) (hN : 1048577 ≤ N) : impl_isRising N xs m = some ((decide (rising 0 (m - 1) xs), ()), ()) := by
  unfold impl_isRising
  have := loop_all_if (P := rising 0 (m - 1) xs) (L := fun K i => impl_isRising_l0 N (fun x => some ((x, ()), ())) (fun (_ : Unit) => some ((true, ()), ())) K xs m xs (xs.length : Int) i) (risingAt 0 (m - 1) xs) Iff.rfl (kt := some ((true, ()), ())) (kf := some ((false, ()), ())) (fun K n hn => ?_) (fun K n hn hp => ?_) (fun K n hn hp => ?_) (show xs.length < N by omega)
  · rw [show ((0 : Nat) : Int) = 0 from rfl] at this
    rw [tLen_n, this]
    by_cases h : rising 0 (m - 1) xs <;> simp [h]
  · simp only [impl_isRising_l0, ilt_nf hn, br_f]
  · simp only [impl_isRising_l0, ilt_n hn, br_t, inb_n hn, chk_t, between_eq, bind_some', wrap_ok (show -9223372036854775808 ≤ m - 1 by omega) (show m - 1 < 9223372036854775808 by omega)]
    obtain ⟨h1, h2⟩ := hp
    rw [decide_eq_true h1, Bool.not_true, br_f]
    by_cases h0 : 0 < n
    · rw [ilt_0 h0, br_t, wrap_pred (by omega) h0, inb_n (by omega), chk_t, ile_f (by have := h2 h0; omega), br_f, wrap_succ (by omega)]
    · rw [ilt_0n h0, br_f, wrap_succ (by omega)]
  · simp only [impl_isRising_l0, ilt_n hn, br_t, inb_n hn, chk_t, between_eq, bind_some', wrap_ok (show -9223372036854775808 ≤ m - 1 by omega) (show m - 1 < 9223372036854775808 by omega)]
    by_cases h1 : 0 ≤ rdI xs n ∧ rdI xs n ≤ m - 1
    · rw [decide_eq_true h1, Bool.not_true, br_f]
      have h0 : 0 < n := by
        rcases Nat.eq_zero_or_pos n with h0 | h0
        · exact absurd ⟨h1, fun h' => by omega⟩ hp
        · exact h0
      have h4 : ¬ rdI xs ((n - 1 : Nat) : Int) < rdI xs n := fun h' => hp ⟨h1, fun _ => h'⟩
      rw [ilt_0 h0, br_t, wrap_pred (by omega) h0, inb_n (by omega), chk_t, ile_t (by omega), br_t]
    · rw [decide_eq_false h1, Bool.not_false, br_t]
theorem l1Most_eq (N : Nat) (a b : Int) : spec_l1Most N a b = some ((if b < a then a else b, ()), ()) := by
  unfold spec_l1Most
  rw [br_ite, ilt_d]
  by_cases h : b < a <;> simp [h]
def iotaI : Int → Nat → List Int
  | _, 0 => []
  | k, n + 1 => k :: iotaI (k + 1) n
def iotaL : Int → List (List Int) → List (List Int)
  | _, [] => []
  | k, x :: xs => iotaI k x.length :: iotaL (k + x.length) xs
def sumL : List (List Int) → Int
  | [] => 0
  | x :: xs => x.length + sumL xs
theorem sumL_cons (x : List Int) (xs : List (List Int)) : sumL (x :: xs) = x.length + sumL xs := rfl
theorem iotaI_len : ∀ (n : Nat) (k : Int), (iotaI k n).length = n := by
  intro n
  induction n with
  | zero => intro k; rfl
  | succ n ih => intro k; unfold iotaI; rw [List.length_cons, ih]
theorem sumL_le {xs : List (List Int)} (h : ∀ x ∈ xs, x.length ≤ 1048576) : 0 ≤ sumL xs ∧ sumL xs ≤ 1048576 * (xs.length : Int) := by
  induction xs with
  | nil => exact ⟨Int.le_refl _, Int.le_refl _⟩
  | cons x xs ih =>
    obtain ⟨h1, h2⟩ := ih fun y hy => h y (List.mem_cons_of_mem _ hy)
    have := h x (List.mem_cons_self ..)
    unfold sumL
    rw [List.length_cons]
    omega
theorem markIntS_eq {N : Nat} {a : List Int} {k : Int} (hk : 0 ≤ k ∧ k ≤ 2305843009213693952) (ha : a.length ≤ 1048576) (hN : 1048577 ≤ N) : laws_markIntS N a k = some ((k + a.length, ()), (iotaI k a.length, ())) := by
  have go : ∀ (d n : Nat) (o : List Int) (K : Nat) (kv : Int), n + d = o.length → o.length ≤ 1048576 → d < K → 0 ≤ kv → kv + d ≤ 4611686018427387904 →
      laws_markIntS_l0 N (fun kv1 o => some ((kv1, ()), (o, ()))) K kv n o = some ((kv + d, ()), (o.take n ++ iotaI kv d, ())) := by
    intro d
    induction d with
    | zero =>
      intro n o K kv hd ho hK h0 h1
      obtain ⟨k, rfl⟩ := succ_of hK
      have hn : ¬ n < o.length := by omega
      simp only [laws_markIntS_l0, ilt_lenf hn, br_f, iotaI, List.append_nil]
      rw [List.take_of_length_le (by omega)]
      simp
    | succ d ih =>
      intro n o K kv hd ho hK h0 h1
      obtain ⟨k, rfl⟩ := succ_of hK
      have hn : n < o.length := by omega
      simp only [laws_markIntS_l0, ilt_len hn, br_t, inb_n hn, chk_t]
      rw [wrap_succ (by omega), wrap_ok (by omega) (by omega), tSet_n, ih (n + 1) _ k _ (by simp; omega) (by simpa using ho) (by omega) (by omega) (by omega)]
      congr 2
      · congr 1
        omega
      · rw [List.take_add_one, List.getElem?_set_self (by omega), List.take_set_of_le (Nat.le_refl n)]
        simp [iotaI]
  unfold laws_markIntS
  have := go a.length 0 a N k (by omega) ha (by omega) hk.1 (by omega)
  simpa using this
theorem heldIntS_eq {N : Nat} {n : Nat} {k : Int} (hk : 0 ≤ k ∧ k ≤ 2305843009213693952) (ha : n ≤ 1048576) (hN : 1048577 ≤ N) : laws_heldIntS N (iotaI k n) k = some ((k + n, ()), ()) := by
  have go : ∀ (d n : Nat) (xs : List Int) (K : Nat) (kv : Int), n + d = xs.length → xs.length ≤ 1048576 → d < K → 0 ≤ kv → kv + d ≤ 4611686018427387904 → xs.drop n = iotaI kv d →
      laws_heldIntS_l0 N (fun x => some ((x, ()), ())) (fun kv1 => some ((kv1, ()), ())) K xs kv n = some ((kv + d, ()), ()) := by
    intro d
    induction d with
    | zero =>
      intro n xs K kv hd ho hK h0 h1 e
      obtain ⟨k, rfl⟩ := succ_of hK
      have hn : ¬ n < xs.length := by omega
      simp only [laws_heldIntS_l0, ilt_lenf hn, br_f]
      simp
    | succ d ih =>
      intro n xs K kv hd ho hK h0 h1 e
      obtain ⟨k, rfl⟩ := succ_of hK
      have hn : n < xs.length := by omega
      rw [drop_cons hn] at e
      injection e with e1 e2
      simp only [laws_heldIntS_l0, ilt_len hn, br_t, inb_n hn, chk_t]
      rw [rdI_n hn, ine_f e1, br_f, wrap_succ (by omega), wrap_ok (by omega) (by omega), ih (n + 1) _ k _ (by omega) ho (by omega) (by omega) (by omega) e2]
      congr 3
      omega
  unfold laws_heldIntS
  have hl := iotaI_len n k
  have := go n 0 (iotaI k n) N k (by omega) (by omega) (by omega) hk.1 (by omega) rfl
  simpa using this
theorem markIntSS_eq {N : Nat} {a : List (List Int)} {k : Int} (hk : 0 ≤ k ∧ k ≤ 1152921504606846976) (ha : a.length ≤ 1048576) (has : ∀ x ∈ a, x.length ≤ 1048576) (hN : 1048577 ≤ N) : laws_markIntSS N a k = some ((k + sumL a, ()), (iotaL k a, ())) := by
  have go : ∀ (d n : Nat) (o : List (List Int)) (K : Nat) (kv : Int), n + d = o.length → o.length ≤ 1048576 → (∀ x ∈ o.drop n, x.length ≤ 1048576) → d < K → 0 ≤ kv → kv + 1048576 * d ≤ 2305843009213693952 →
      laws_markIntSS_l0 N (fun kv1 o => some ((kv1, ()), (o, ()))) K kv n o = some ((kv + sumL (o.drop n), ()), (o.take n ++ iotaL kv (o.drop n), ())) := by
    intro d
    induction d with
    | zero =>
      intro n o K kv hd ho hos hK h0 h1
      obtain ⟨k, rfl⟩ := succ_of hK
      have hn : ¬ n < o.length := by omega
      simp only [laws_markIntSS_l0, ilt_lenf hn, br_f]
      rw [List.take_of_length_le (by omega), List.drop_of_length_le (by omega)]
      simp [sumL, iotaL]
    | succ d ih =>
      intro n o K kv hd ho hos hK h0 h1
      obtain ⟨k, rfl⟩ := succ_of hK
      have hn : n < o.length := by omega
      rw [drop_cons hn] at hos ⊢
      have hl := hos _ (List.mem_cons_self ..)
      simp only [laws_markIntSS_l0, ilt_len hn, br_t, inb_n hn, chk_t]
      have e : (o.set n (iotaI kv o[n].length)).drop (n + 1) = o.drop (n + 1) := by rw [List.drop_set_of_lt (by omega)]
      rw [rdL_n hn, markIntS_eq ⟨h0, by omega⟩ hl hN]
      simp only [bind_some']
      rw [wrap_succ (by omega), tSet_n, ih (n + 1) _ k _ (by simp; omega) (by simpa using ho) (by rw [e]; exact fun x hx => hos x (List.mem_cons_of_mem _ hx)) (by omega) (by omega) (by omega), e]
      congr 2
      · congr 1
        rw [sumL_cons]
        omega
      · rw [List.take_add_one, List.getElem?_set_self (by omega), List.take_set_of_le (Nat.le_refl n)]
        simp [iotaL]
  unfold laws_markIntSS
  have := go a.length 0 a N k (by omega) ha (by simpa using has) (by omega) hk.1 (by omega)
  simpa using this
theorem heldIntSS_eq {N : Nat} {a : List (List Int)} {k : Int} (hk : 0 ≤ k ∧ k ≤ 1152921504606846976) (ha : a.length ≤ 1048576) (has : ∀ x ∈ a, x.length ≤ 1048576) (hN : 1048577 ≤ N) : laws_heldIntSS N (iotaL k a) k = some ((k + sumL a, ()), ()) := by
  have go : ∀ (b : List (List Int)) (n : Nat) (xs : List (List Int)) (K : Nat) (kv : Int), n + b.length = xs.length → xs.length ≤ 1048576 → (∀ x ∈ b, x.length ≤ 1048576) → b.length < K → 0 ≤ kv → kv + 1048576 * b.length ≤ 2305843009213693952 → xs.drop n = iotaL kv b →
      laws_heldIntSS_l0 N (fun x => some ((x, ()), ())) (fun kv1 => some ((kv1, ()), ())) K xs kv n = some ((kv + sumL b, ()), ()) := by
    intro b
    induction b with
    | nil =>
      intro n xs K kv hd ho hos hK h0 h1 e
      obtain ⟨k, rfl⟩ := succ_of hK
      have hn : ¬ n < xs.length := by simp at hd; omega
      simp only [laws_heldIntSS_l0, ilt_lenf hn, br_f]
      simp [sumL]
    | cons y b ih =>
      intro n xs K kv hd ho hos hK h0 h1 e
      obtain ⟨k, rfl⟩ := succ_of hK
      rw [List.length_cons] at hd hK h1
      have hn : n < xs.length := by omega
      rw [drop_cons hn] at e
      injection e with e1 e2
      have hl := hos _ (List.mem_cons_self ..)
      simp only [laws_heldIntSS_l0, ilt_len hn, br_t, inb_n hn, chk_t]
      rw [rdL_n hn, e1, heldIntS_eq ⟨h0, by omega⟩ hl hN]
      simp only [bind_some']
      rw [ilt_f (by omega), br_f, wrap_succ (by omega), ih (n + 1) _ k _ (by omega) ho (fun x hx => hos x (List.mem_cons_of_mem _ hx)) (by omega) (by omega) (by omega) e2]
      congr 3
      rw [sumL_cons]
      omega
  have len : ∀ (a : List (List Int)) (k : Int), (iotaL k a).length = a.length := by
    intro a
    induction a with
    | nil => intro k; rfl
    | cons x a ih => intro k; unfold iotaL; rw [List.length_cons, ih, List.length_cons]
  unfold laws_heldIntSS
  have hl := len a k
  have := go a 0 (iotaL k a) N k (by omega) (by omega) has (by omega) hk.1 (by omega) rfl
  simpa using this
theorem markFormula_eq {N : Nat} {a : Int × List (List Int)} {k : Int} (hk : 0 ≤ k ∧ k ≤ 1152921504606846976) (ha : a.2.length ≤ 1048576) (has : ∀ x ∈ a.2, x.length ≤ 1048576) (hN : 1048577 ≤ N) : laws_markFormula N a k = some ((k + sumL a.2, ()), ((a.1, iotaL k a.2), ())) := by
  unfold laws_markFormula
  simp only [markIntSS_eq hk ha has hN, bind_some']
theorem heldFormula_eq {N : Nat} {v : Int} {a : List (List Int)} {k : Int} (hk : 0 ≤ k ∧ k ≤ 1152921504606846976) (ha : a.length ≤ 1048576) (has : ∀ x ∈ a, x.length ≤ 1048576) (hN : 1048577 ≤ N) : laws_heldFormula N (v, iotaL k a) k = some ((k + sumL a, ()), ()) := by
  unfold laws_heldFormula
  have := sumL_le has
  simp only [heldIntSS_eq hk ha has hN, bind_some']
  rw [ilt_f (by omega), br_f]
theorem foldl_snoc {α : Type} : ∀ (xs o : List α), xs.foldl (fun o x => o ++ [x]) o = o ++ xs := by
  intro xs
  induction xs with
  | nil => intro o; simp
  | cons x xs ih => intro o; rw [List.foldl_cons, ih]; simp
theorem Clone_eq {N : Nat} {xs : List Int} (h : xs.length ≤ 1048576) : slices_Clone_LI_int N xs = some ((xs, ()), ()) := by
  unfold slices_Clone_LI_int
  rw [room_ok (by simp; omega), chk_t, br_ite, ieq_d, tLen_n]
  by_cases h0 : xs = []
  · subst h0
    simp only [tApp_d, List.append_nil, amb_same]
    simp
  · rw [if_neg (by simpa using h0)]
    rfl
theorem copyLists_eq {N : Nat} {xs : List (List Int)} (h : xs.length ≤ 1048576) (hs : ∀ x ∈ xs, x.length ≤ 1048576) (hN : 1048577 ≤ N) : impl_copyLists N xs = some ((xs, ()), ()) := by
  unfold impl_copyLists
  refine (loop_list (xs := xs) (L := fun K n o => impl_copyLists_l0 N (fun o => some ((o, ()), ())) K xs (xs.length : Int) n o) (k := fun o => some ((o, ()), ())) (fun o x => o ++ [x]) (fun n o => o.length = n) (fun K n s hn _ => ?_) (fun K n s hn hs' => ?_) (fun n s hn h => ?_) (s := []) (K := N) (by omega) rfl).1.trans ?_
  · simp only [impl_copyLists_l0, ilt_nf hn, br_f]
  · simp only [impl_copyLists_l0, ilt_n hn, br_t, inb_n hn, chk_t]
    rw [rdL_n hn, Clone_eq (hs _ (List.getElem_mem hn)), bind_some', room_ok (by simp; omega), chk_t, wrap_succ (by omega)]
    rfl
  · simp; omega
  · rw [foldl_snoc, List.nil_append]
theorem l1Has_eq {N : Nat} {xs : List Int} {v : Int} (hx : xs.length ≤ 1048576) (hN : 1048577 ≤ N) : spec_l1Has N xs v = some ((decide (v ∈ xs), ()), ()) := by
  unfold spec_l1Has
  have := loop_all_if (P := ∀ x ∈ xs, x ≠ v) (L := fun K i => spec_l1Has_l0 N (fun x => some ((x, ()), ())) (fun (_ : Unit) => some ((false, ()), ())) K xs v i) (fun i => rdI xs i ≠ v) all_rdI (kt := some ((false, ()), ())) (kf := some ((true, ()), ())) (fun K n hn => ?_) (fun K n hn hp => ?_) (fun K n hn hp => ?_) (show xs.length < N by omega)
  · rw [show ((0 : Nat) : Int) = 0 from rfl] at this
    rw [this]
    by_cases h : v ∈ xs
    · rw [if_neg (fun h' => h' v h rfl), decide_eq_true h]
    · rw [if_pos (fun x hx (h' : x = v) => h (h' ▸ hx)), decide_eq_false h]
  · simp only [spec_l1Has_l0, ilt_lenf hn, br_f]
  · simp only [spec_l1Has_l0, ilt_len hn, br_t, inb_n hn, chk_t]
    rw [ieq_f hp, br_f, wrap_succ (by omega)]
  · simp only [spec_l1Has_l0, ilt_len hn, br_t, inb_n hn, chk_t]
    rw [ieq_t (Decidable.not_not.1 hp), br_t]
theorem Contains_eq {N : Nat} {xs : List Int} {v : Int} (hx : xs.length ≤ 1048576) (hN : 1048577 ≤ N) : slices_Contains_LI_int N xs v = some ((decide (v ∈ xs), ()), ()) := by
  have go : ∀ (d n : Nat) (K : Nat), n + d = xs.length → d < K → ∃ i : Int, slices_Index_LI_int_l0 N (fun x => some ((x, ()), ())) (fun (_ : Unit) => some ((-1, ()), ())) K xs v (xs.length : Int) n = some ((i, ()), ()) ∧ decide (0 ≤ i) = decide (v ∈ xs.drop n) := by
    intro d
    induction d with
    | zero =>
      intro n K hd hK
      obtain ⟨k, rfl⟩ := succ_of hK
      have hn : ¬ n < xs.length := by omega
      simp only [slices_Index_LI_int_l0, ilt_nf hn, br_f]
      rw [List.drop_of_length_le (by omega)]
      exact ⟨-1, rfl, rfl⟩
    | succ d ih =>
      intro n K hd hK
      obtain ⟨k, rfl⟩ := succ_of hK
      have hn : n < xs.length := by omega
      simp only [slices_Index_LI_int_l0, ilt_n hn, br_t, inb_n hn, chk_t]
      obtain ⟨y, r, e1, e2, e3⟩ := drop_split hn
      rw [rdI_n hn, e1, e2]
      by_cases h : v = y
      · rw [ieq_t h, br_t]
        exact ⟨_, rfl, by simp [h]⟩
      · rw [ieq_f h, br_f, wrap_succ (by omega)]
        obtain ⟨i, h1, h2⟩ := ih (n + 1) k (by omega) (by omega)
        refine ⟨i, h1, ?_⟩
        rw [h2, e3]
        simp [h]
  unfold slices_Contains_LI_int slices_Index_LI_int
  obtain ⟨i, h1, h2⟩ := go xs.length 0 N (by omega) (by omega)
  simp only [Int.natCast_zero, List.drop_zero] at h1 h2
  rw [tLen_n, h1, bind_some', ile_d, h2]
def insI (x : Int) : List Int → List Int
  | [] => [x]
  | y :: p => if y ≤ x then y :: insI x p else x :: y :: p
def sortI (xs : List Int) : List Int := xs.foldl (fun p x => insI x p) []
def asc (xs : List Int) : Prop := xs.Pairwise (· ≤ ·)
theorem insI_len (x : Int) : ∀ p : List Int, (insI x p).length = p.length + 1 := by
  intro p
  induction p with
  | nil => rfl
  | cons y p ih =>
    unfold insI
    by_cases h : y ≤ x
    · rw [if_pos h, List.length_cons, ih, List.length_cons]
    · rw [if_neg h, List.length_cons, List.length_cons]
theorem insI_mem (x z : Int) : ∀ p : List Int, z ∈ insI x p ↔ z = x ∨ z ∈ p := by
  intro p
  induction p with
  | nil => simp [insI]
  | cons y p ih =>
    unfold insI
    by_cases h : y ≤ x
    · rw [if_pos h, List.mem_cons, ih, List.mem_cons]
      constructor
      · rintro (h | h | h)
        · exact .inr (.inl h)
        · exact .inl h
        · exact .inr (.inr h)
      · rintro (h | h | h)
        · exact .inr (.inl h)
        · exact .inl h
        · exact .inr (.inr h)
    · rw [if_neg h, List.mem_cons]
theorem insI_asc {x : Int} : ∀ {p : List Int}, asc p → asc (insI x p) := by
  intro p
  induction p with
  | nil => intro _; exact List.pairwise_singleton ..
  | cons y p ih =>
    intro h
    obtain ⟨h1, h2⟩ := List.pairwise_cons.1 h
    unfold insI
    by_cases hy : y ≤ x
    · rw [if_pos hy]
      refine List.pairwise_cons.2 ⟨fun z hz => ?_, ih h2⟩
      rcases (insI_mem x z p).1 hz with rfl | hz
      · exact hy
      · exact h1 z hz
    · rw [if_neg hy]
      refine List.pairwise_cons.2 ⟨fun z hz => ?_, h⟩
      rcases List.mem_cons.1 hz with rfl | hz
      · omega
      · have := h1 z hz
        omega
theorem insI_lt {x y : Int} (h : x < y) : ∀ q : List Int, insI x (q ++ [y]) = insI x q ++ [y] := by
  intro q
  induction q with
  | nil => simp only [List.nil_append, insI, if_neg (show ¬ y ≤ x by omega)]; rfl
  | cons z q ih =>
    rw [List.cons_append]
    unfold insI
    by_cases hz : z ≤ x
    · rw [if_pos hz, if_pos hz, ih, List.cons_append]
    · rw [if_neg hz, if_neg hz]
      simp
theorem insI_ge {x : Int} : ∀ {q : List Int}, (∀ z ∈ q, z ≤ x) → insI x q = q ++ [x] := by
  intro q
  induction q with
  | nil => intro _; rfl
  | cons z q ih =>
    intro h
    unfold insI
    rw [if_pos (h z (List.mem_cons_self ..)), ih fun u hu => h u (List.mem_cons_of_mem _ hu), List.cons_append]
theorem sortI_snoc (xs : List Int) (x : Int) : sortI (xs ++ [x]) = insI x (sortI xs) := by
  unfold sortI
  rw [List.foldl_append]
  rfl
theorem sortI_len_asc (xs : List Int) : (sortI xs).length = xs.length ∧ asc (sortI xs) := by
  have go : ∀ (xs p : List Int), asc p → (xs.foldl (fun p x => insI x p) p).length = p.length + xs.length ∧ asc (xs.foldl (fun p x => insI x p) p) := by
    intro xs
    induction xs with
    | nil => intro p hp; exact ⟨rfl, hp⟩
    | cons x xs ih =>
      intro p hp
      obtain ⟨h1, h2⟩ := ih (insI x p) (insI_asc hp)
      refine ⟨?_, h2⟩
      rw [List.foldl_cons, h1, insI_len, List.length_cons]
      omega
  have := go xs [] List.Pairwise.nil
  unfold sortI
  simpa using this
theorem Less_eq (N : Nat) (x y : Int) : cmp_Less_int N x y = some ((ilt x y, ()), ()) := by
  unfold cmp_Less_int cmp_isNaN_int
  simp only [bind_some', ine_f (rfl : x = x), br_f]
theorem rdI_mid (q s : List Int) (x : Int) : rdI (q ++ x :: s) ((q.length : Nat) : Int) = x := by simp [rdI]
theorem tSet_mid (q s : List Int) (x v : Int) : tSet (q ++ x :: s) ((q.length : Nat) : Int) v = q ++ v :: s := by simp [tSet]
theorem insertion_in_eq {R : Type} {N : Nat} (k0 : Int → Int → Int → List Int → Option R) {b i : Int} : ∀ (m : Nat) (q s : List Int) (x : Int) (K : Nat), q.length = m → m < K → (q ++ x :: s).length ≤ 1048576 → asc q →
    slices_insertionSortOrdered_int_l0_0 N k0 K 0 b i (q.length : Int) (q ++ x :: s) = k0 0 b i (insI x q ++ s) := by
  intro m
  induction m with
  | zero =>
    intro q s x K hm hK hl hq
    obtain ⟨k, rfl⟩ := succ_of hK
    have e : q = [] := List.length_eq_zero_iff.1 hm
    subst e
    simp only [slices_insertionSortOrdered_int_l0_0, List.length_nil]
    rw [show ilt 0 ((0 : Nat) : Int) = false from rfl, br_f]
    rfl
  | succ m ih =>
    intro q s x K hm hK hl hq
    obtain ⟨k, rfl⟩ := succ_of hK
    rcases List.eq_nil_or_concat q with rfl | ⟨q', y, e0⟩
    · simp at hm
    · rw [List.concat_eq_append] at e0
      subst e0
      have hm' : q'.length = m := by simpa using hm
      have e1 : ((q' ++ [y]).length : Int) = ((q'.length + 1 : Nat) : Int) := by simp
      have e2 : (q' ++ [y]) ++ x :: s = q' ++ y :: x :: s := by simp
      have hlen : (q' ++ y :: x :: s).length ≤ 1048576 := by rw [← e2]; exact hl
      have hb : q'.length + 1 < (q' ++ y :: x :: s).length := by simp
      have hb0 : q'.length < (q' ++ y :: x :: s).length := by omega
      have hpred : IntKind.i64.wrap (((q'.length + 1 : Nat) : Int) - 1) = ((q'.length : Nat) : Int) := by
        rw [wrap_pred (by omega) (by omega)]
        rfl
      have r1 : rdI (q' ++ y :: x :: s) ((q'.length + 1 : Nat) : Int) = x := by
        have := rdI_mid (q' ++ [y]) s x
        rw [e1, e2] at this
        exact this
      have r2 : rdI (q' ++ y :: x :: s) ((q'.length : Nat) : Int) = y := rdI_mid q' (x :: s) y
      have s1 : ∀ v, tSet (q' ++ y :: x :: s) ((q'.length + 1 : Nat) : Int) v = q' ++ y :: v :: s := by
        intro v
        have := tSet_mid (q' ++ [y]) s x v
        rw [e1, e2] at this
        rw [this]
        simp
      have hb0' : q'.length < (q' ++ y :: y :: s).length := by simp
      rw [e1, e2]
      simp only [slices_insertionSortOrdered_int_l0_0, ilt_0 (show 0 < q'.length + 1 by omega), br_t, hpred, inb_n hb, inb_n hb0, chk_t, r1, r2, Less_eq, bind_some', s1, inb_n hb0', tSet_mid]
      by_cases hxy : x < y
      · rw [ilt_t hxy, br_t, ih q' (y :: s) x k hm' (by omega) (by simp at hlen ⊢; omega) (List.pairwise_append.1 hq).1, insI_lt hxy]
        simp
      · rw [ilt_f hxy, br_f]
        have : ∀ z ∈ q' ++ [y], z ≤ x := by
          intro z hz
          rcases List.mem_append.1 hz with h | h
          · have := (List.pairwise_append.1 hq).2.2 z h y (by simp)
            omega
          · simp at h
            omega
        rw [insI_ge this]
        simp
theorem insertion_eq {N : Nat} {xs : List Int} (hx : xs.length ≤ 1048576) (hN : 1048577 ≤ N) : slices_insertionSortOrdered_int N xs 0 (xs.length : Int) = some ((), (sortI xs, ())) := by
  have go : ∀ (d i K : Nat), i + d = xs.length → d < K → slices_insertionSortOrdered_int_l0 N (fun o => some ((), (o, ()))) K 0 (xs.length : Int) i (sortI (xs.take i) ++ xs.drop i) = some ((), (sortI xs, ())) := by
    intro d
    induction d with
    | zero =>
      intro i K hd hK
      obtain ⟨k, rfl⟩ := succ_of hK
      simp only [slices_insertionSortOrdered_int_l0, ilt_nf (show ¬ i < xs.length by omega), br_f]
      rw [List.take_of_length_le (by omega), List.drop_of_length_le (by omega), List.append_nil]
    | succ d ih =>
      intro i K hd hK
      obtain ⟨k, rfl⟩ := succ_of hK
      have hi : i < xs.length := by omega
      obtain ⟨h1, h2⟩ := sortI_len_asc (xs.take i)
      have hli : (sortI (xs.take i)).length = i := by rw [h1, List.length_take]; omega
      simp only [slices_insertionSortOrdered_int_l0, ilt_n hi, br_t]
      have := insertion_in_eq (N := N) (fun a2 b2 i1 o1 => slices_insertionSortOrdered_int_l0 N (fun o => some ((), (o, ()))) k a2 b2 (IntKind.i64.wrap (i1 + 1)) o1) (b := (xs.length : Int)) (i := (i : Int)) i (sortI (xs.take i)) (xs.drop (i + 1)) xs[i] N hli (by omega) (by simp [hli]; omega) h2
      rw [hli, ← drop_cons hi] at this
      rw [this, wrap_succ (by omega), ← sortI_snoc, ← ih (i + 1) k (by omega) (by omega), List.take_add_one, List.getElem?_eq_getElem hi]
      rfl
  unfold slices_insertionSortOrdered_int
  rw [show IntKind.i64.wrap (0 + 1) = ((1 : Nat) : Int) from rfl]
  cases xs with
  | nil =>
    obtain ⟨k, rfl⟩ : ∃ k, N = k + 1 := ⟨N - 1, by omega⟩
    rfl
  | cons x xs =>
    have := go xs.length 1 N (by simp; omega) (by simp at hx; omega)
    exact this
theorem lenTab (n : Nat) (h : n < 256) : strIn str0 (n : Int) = true := by
  unfold strIn
  rw [ile_t (by omega), Bool.true_and, show str0.size = 256 by kernel_rfl]
  exact ilt_t (by omega)
theorem bitsLen_ex (N : Nat) {n : Nat} (h : n ≤ 12) : ∃ r : Int, math_bits_Len N (IntKind.u64.wrap (n : Int)) = some ((r, ()), ()) := by
  have e : IntKind.u64.wrap (n : Int) = (n : Int) := by
    unfold IntKind.wrap
    simp only [IntKind.bits, IntKind.signed, Bool.false_and]
    have : (n : Int) % (2 ^ 64 : Int) = n := Int.emod_eq_of_lt (by omega) (by omega)
    rw [this]
    rfl
  have e8 : IntKind.u8.wrap (n : Int) = (n : Int) := by
    unfold IntKind.wrap
    simp only [IntKind.bits, IntKind.signed, Bool.false_and]
    have : (n : Int) % (2 ^ 8 : Int) = n := Int.emod_eq_of_lt (by omega) (by omega)
    rw [this]
    rfl
  unfold math_bits_Len math_bits_Len64
  rw [e, ile_f (show ¬ (4294967296 : Int) ≤ n by omega), ile_f (show ¬ (65536 : Int) ≤ n by omega), ile_f (show ¬ (256 : Int) ≤ n by omega), br_f, br_f, br_f, e8, lenTab n (by omega), chk_t]
  exact ⟨_, rfl⟩
theorem Sort_eq {N : Nat} {xs : List Int} (hx : xs.length ≤ 12) (hN : 1048577 ≤ N) : slices_Sort_LI_int N xs = some ((), (sortI xs, ())) := by
  obtain ⟨r, hr⟩ := bitsLen_ex N hx
  obtain ⟨k, hk⟩ : ∃ k, N = k + 1 := ⟨N - 1, by omega⟩
  have hp : slices_pdqsortOrdered_int_l0 N (fun o => some ((), (o, ()))) (k + 1) 0 (xs.length : Int) r true true xs = some ((), (sortI xs, ())) := by
    simp only [slices_pdqsortOrdered_int_l0]
    rw [wrap_ok (by omega) (by omega), ile_t (by omega), br_t, insertion_eq (by omega) hN]
    rfl
  unfold slices_Sort_LI_int slices_pdqsortOrdered_int
  rw [tLen_n, hr]
  simp only [bind_some']
  rw [← hk] at hp
  rw [hp]
  rfl
def putI (n : Int) : List Int → List Int
  | [] => [n]
  | y :: p => if y < n then y :: putI n p else if y = n then y :: p else n :: y :: p
theorem putI_ins {n : Int} : ∀ {p : List Int}, n ∉ p → putI n p = insI n p := by
  intro p
  induction p with
  | nil => intro _; rfl
  | cons y p ih =>
    intro h
    have h1 : n ≠ y := fun e => h (e ▸ List.mem_cons_self ..)
    have h2 : n ∉ p := fun e => h (List.mem_cons_of_mem _ e)
    unfold putI insI
    by_cases hy : y < n
    · rw [if_pos hy, if_pos (by omega), ih h2]
    · rw [if_neg hy, if_neg (fun e => h1 e.symm), if_neg (by omega)]
theorem fold_put : ∀ (xs p : List Int), xs.Nodup → (∀ x ∈ xs, x ∉ p) → xs.foldl (fun p x => putI x p) p = xs.foldl (fun p x => insI x p) p := by
  intro xs
  induction xs with
  | nil => intro p _ _; rfl
  | cons x xs ih =>
    intro p hn hp
    obtain ⟨h1, h2⟩ := List.nodup_cons.1 hn
    rw [List.foldl_cons, List.foldl_cons, putI_ins (hp x (List.mem_cons_self ..))]
    refine ih _ h2 fun y hy hm => ?_
    rcases (insI_mem x y p).1 hm with rfl | hm
    · exact h1 hy
    · exact hp y (List.mem_cons_of_mem _ hy) hm
theorem putI_len (n : Int) : ∀ p : List Int, (putI n p).length ≤ p.length + 1 := by
  intro p
  induction p with
  | nil => exact Nat.le_refl _
  | cons y p ih =>
    unfold putI
    by_cases h : y < n
    · rw [if_pos h, List.length_cons, List.length_cons]; omega
    · by_cases h' : y = n
      · rw [if_neg h, if_pos h']; simp
      · rw [if_neg h, if_neg h']; simp
theorem l1Put_eq {N : Nat} {o : List Int} {n : Int} (ho : o.length ≤ 1048576) (hN : 1048577 ≤ N) : spec_l1Put N o n = some ((putI n o, ()), ()) := by
  have go : ∀ (q p : List Int) (K : Nat), q.length < K → (p ++ q).length ≤ 1048576 → spec_l1Put_l0 N (fun n1 kv o => (br (ilt kv (tLen o))
    ((chk (inb o kv)
      (br (ieq (rdI o kv) n1)
      (some ((o, ()), ()))
      ((chk (ile 0 0 && ile 0 kv && ile kv (tLen o))
        (chk (room (α := Int) (β := Int) [] (tCut o 0 kv))
        (chk (room (tApp [] (tCut o 0 kv)) [n1])
        (chk (ile 0 kv && ile kv (tLen o) && ile (tLen o) (tLen o))
        (chk (room (tApp (tApp [] (tCut o 0 kv)) [n1]) (tCut o kv (tLen o)))
        (some (((tApp (tApp (tApp [] (tCut o 0 kv)) [n1]) (tCut o kv (tLen o))), ()), ())))))))))))
    ((chk (ile 0 0 && ile 0 kv && ile kv (tLen o))
      (chk (room (α := Int) (β := Int) [] (tCut o 0 kv))
      (chk (room (tApp [] (tCut o 0 kv)) [n1])
      (chk (ile 0 kv && ile kv (tLen o) && ile (tLen o) (tLen o))
      (chk (room (tApp (tApp [] (tCut o 0 kv)) [n1]) (tCut o kv (tLen o)))
      (some (((tApp (tApp (tApp [] (tCut o 0 kv)) [n1]) (tCut o kv (tLen o))), ()), ())))))))))) K n ((p.length : Nat) : Int) (p ++ q) = some ((p ++ putI n q, ()), ()) := by
    intro q
    have cuts : ∀ p q : List Int, tCut (p ++ q) 0 ((p.length : Nat) : Int) = p ∧ tCut (p ++ q) ((p.length : Nat) : Int) (tLen (p ++ q)) = q := fun p q => ⟨by simp [tCut], by rw [tLen_n, tCut_n, List.take_length, List.drop_left]⟩
    have c1 : ∀ p q : List Int, (ile 0 0 && ile 0 ((p.length : Nat) : Int) && ile ((p.length : Nat) : Int) (tLen (p ++ q))) = true := fun p q => by
      rw [ile_t (Int.le_refl 0), ile_t (by omega), ile_t (by simp [tLen]; omega)]; rfl
    have c2 : ∀ p q : List Int, (ile 0 ((p.length : Nat) : Int) && ile ((p.length : Nat) : Int) (tLen (p ++ q)) && ile (tLen (p ++ q)) (tLen (p ++ q))) = true := fun p q => by
      rw [ile_t (Int.le_refl (tLen _)), ile_t (by omega), ile_t (by simp [tLen]; omega)]; rfl
    induction q with
    | nil =>
      intro p K hK hl
      obtain ⟨k, rfl⟩ := succ_of hK
      have hlt : ¬ p.length < (p ++ ([] : List Int)).length := by simp
      simp only [spec_l1Put_l0, ilt_lenf hlt, br_f, (cuts p []).1, (cuts p []).2, c1, c2, chk_t]
      rw [room_ok (by simp at hl ⊢; omega), room_ok (by simp [tApp] at hl ⊢; omega), room_ok (by simp [tApp] at hl ⊢; omega), chk_t, chk_t, chk_t]
      simp [tApp, putI]
    | cons y q ih =>
      intro p K hK hl
      obtain ⟨k, rfl⟩ := succ_of hK
      have hlt : p.length < (p ++ y :: q).length := by simp
      simp only [spec_l1Put_l0, ilt_len hlt, br_t, inb_n hlt, chk_t, rdI_mid]
      by_cases hy : y < n
      · have := ih (p ++ [y]) k (by simp at hK; omega) (by simpa using hl)
        rw [ilt_t hy, br_t, wrap_succ (by simp at hl; omega)]
        simp only [List.append_assoc, List.singleton_append, List.length_append, List.length_singleton] at this
        rw [this]
        simp [putI, hy]
      · rw [ilt_f hy, br_f]
        by_cases hyn : y = n
        · rw [ieq_t hyn, br_t]
          simp [putI, hy, hyn]
        · rw [ieq_f hyn, br_f, c1, chk_t, c2, chk_t, (cuts p (y :: q)).1, (cuts p (y :: q)).2]
          rw [room_ok (by simp at hl ⊢; omega), room_ok (by simp [tApp] at hl ⊢; omega), room_ok (by simp [tApp] at hl ⊢; omega), chk_t, chk_t, chk_t]
          simp [tApp, putI, hy, hyn]
  unfold spec_l1Put
  exact go o [] N (by omega) (by simpa using ho)
noncomputable def negL (vs : List Int) (x : Int) : Int := if (if -x < x then x else -x) - 1 ∈ vs then -x else x
theorem negL_inj {vs : List Int} {x y : Int} (hx : x ≠ 0) (h : negL vs x = negL vs y) : x = y := by
  have hcs : ∀ z, negL vs z = z ∨ negL vs z = -z := fun z => by
    unfold negL
    by_cases hz : (if -z < z then z else -z) - 1 ∈ vs
    · exact .inr (if_pos hz)
    · exact .inl (if_neg hz)
  have hc : x = y ∨ y = -x := by
    rcases hcs x with h1 | h1 <;> rcases hcs y with h2 | h2 <;> omega
  rcases hc with rfl | rfl
  · rfl
  · have e : (if -(-x) < -x then -x else -(-x)) = (if -x < x then x else -x) := by
      by_cases h1 : -x < x
      · rw [if_pos h1, if_neg (by omega)]; omega
      · rw [if_neg h1, if_pos (by omega)]
    unfold negL at h
    rw [e] at h
    by_cases hz : (if -x < x then x else -x) - 1 ∈ vs
    · rw [if_pos hz, if_pos hz] at h
      omega
    · rw [if_neg hz, if_neg hz] at h
      omega
theorem clause_asc {v : Int} {c : List Int} (h : clauseOk v c) : c.Pairwise (· < ·) := by
  have step : ∀ d i, i + d + 1 < c.length → rdI c i < rdI c ((i + d + 1 : Nat) : Int) := by
    intro d
    induction d with
    | zero =>
      intro i hi
      have := (h (i + 1) (by omega)).2.2.2 (by omega)
      simpa using this
    | succ d ih =>
      intro i hi
      have h1 := ih i (by omega)
      have h2 := (h (i + (d + 1) + 1) hi).2.2.2 (by omega)
      have e : i + (d + 1) + 1 - 1 = i + d + 1 := by omega
      rw [e] at h2
      omega
  refine List.pairwise_iff_getElem.2 fun i j hi hj hij => ?_
  have := step (j - i - 1) i (by omega)
  rw [show i + (j - i - 1) + 1 = j by omega, rdI_n hi, rdI_n hj] at this
  exact this
theorem clause_short {v : Int} (hv : 0 ≤ v ∧ v ≤ 6) {c : List Int} (h : clauseOk v c) : c.length ≤ 12 := by
  have key : ∀ k, k < c.length → (k : Int) ≤ (if rdI c k < 0 then rdI c k + v else rdI c k + v - 1) := by
    intro k
    induction k with
    | zero =>
      intro hk
      obtain ⟨h1, h2, h3, _⟩ := h 0 hk
      split <;> omega
    | succ k ih =>
      intro hk
      have := ih (by omega)
      obtain ⟨h1, h2, h3, h4⟩ := h (k + 1) hk
      have h5 := h4 (by omega)
      rw [show k + 1 - 1 = k by omega] at h5
      obtain ⟨g1, _, _, _⟩ := h k (by omega)
      split at this <;> split <;> omega
  rcases Nat.eq_zero_or_pos c.length with h0 | h0
  · omega
  · have := key (c.length - 1) (by omega)
    obtain ⟨h1, h2, h3, _⟩ := h (c.length - 1) (by omega)
    split at this <;> omega
theorem neg_clause {v : Int} {c vs : List Int} (h : clauseOk v c) : (c.map (negL vs)).foldl (fun p x => putI x p) [] = sortI (c.map (negL vs)) := by
  refine fold_put _ _ ?_ (by simp)
  have hz : ∀ x ∈ c, x ≠ 0 := all_rdI.2 fun i hi => (h i hi).1
  have hp := clause_asc h
  refine List.pairwise_map.2 (hp.imp_of_mem fun {a b} ha hb hab he => ?_)
  have := negL_inj (hz a ha) he
  omega
noncomputable def negC (vs : List Int) (c : List Int) : List Int := sortI (c.map (negL vs))
theorem negC_len (vs c : List Int) : (negC vs c).length = c.length := by
  unfold negC
  rw [(sortI_len_asc _).1, List.length_map]
theorem negL_spec {N : Nat} {vs : List Int} {x : Int} (hv : vs.length ≤ 1048576) (hx : -6 ≤ x ∧ x ≤ 6) (hN : 1048577 ≤ N) : (spec_l1Most N x (IntKind.i64.wrap (0 - x))) = some (((if -x < x then x else -x), ()), ()) ∧ IntKind.i64.wrap ((if -x < x then x else -x) - 1) = (if -x < x then x else -x) - 1 ∧ IntKind.i64.wrap (0 - x) = -x := by
  have e : IntKind.i64.wrap (0 - x) = -x := by rw [wrap_ok (by omega) (by omega)]; omega
  refine ⟨by rw [e, l1Most_eq], ?_, e⟩
  have : -1 ≤ (if -x < x then x else -x) ∧ (if -x < x then x else -x) ≤ 6 := by split <;> omega
  rw [wrap_ok (by omega) (by omega)]
theorem NegateVars_in_eq {R : Type} {N : Nat} (k0 : List Int → Int → Int → List (List Int) → Int → Int → List Int → List (List Int) → Option R) {vs : List Int} {i : Nat} {cs o10 : List (List Int)} {o5 o7 o8 v : Int} (hv : 0 ≤ v ∧ v ≤ 6) (hvs : vs.length ≤ 1048576) (hi : i < cs.length) (hc : clauseOk v (rdL cs i)) (hN : 1048577 ≤ N) :
    spec_NegateVars_l0_0 N k0 N vs i 0 o5 cs o7 o8 [] o10 = k0 vs i o5 cs o7 o8 (negC vs (rdL cs i)) o10 := by
  have hs := clause_short hv hc
  refine (loop_list (xs := rdL cs i) (L := fun K n o => spec_NegateVars_l0_0 N k0 K vs i n o5 cs o7 o8 o o10) (k := fun o => k0 vs i o5 cs o7 o8 o o10) (fun o x => putI (negL vs x) o) (fun n o => o.length ≤ n) (fun K n s hn _ => ?_) (fun K n s hn hs' => ?_) (fun n s hn h => Nat.le_trans (putI_len _ _) (by omega)) (s := []) (K := N) (by omega) (Nat.zero_le _)).1.trans ?_
  · simp only [spec_NegateVars_l0_0, inb_n hi, chk_t, ilt_lenf hn, br_f]
  · obtain ⟨h1, h2, h3, _⟩ := hc n hn
    obtain ⟨e1, e2, e3⟩ := negL_spec (N := N) (x := rdI (rdL cs i) n) hvs (by omega) hN
    simp only [spec_NegateVars_l0_0, inb_n hi, chk_t, ilt_len hn, br_t, inb_n hn, e1, bind_some', e2, l1Has_eq hvs hN]
    rw [e3, l1Put_eq (by omega) hN, l1Put_eq (by omega) hN, bind_some', bind_some', wrap_succ (by omega), br_ite, ← rdI_n hn]
    by_cases h : (if -rdI (rdL cs i) n < rdI (rdL cs i) n then rdI (rdL cs i) n else -rdI (rdL cs i) n) - 1 ∈ vs
    · rw [if_pos (decide_eq_true h)]
      show _ = spec_NegateVars_l0_0 N k0 K vs i ((n + 1 : Nat) : Int) o5 cs o7 o8 (putI (negL vs (rdI (rdL cs i) n)) s) o10
      rw [show negL vs (rdI (rdL cs i) n) = -rdI (rdL cs i) n from if_pos h]
    · rw [if_neg (by simpa using h)]
      show _ = spec_NegateVars_l0_0 N k0 K vs i ((n + 1 : Nat) : Int) o5 cs o7 o8 (putI (negL vs (rdI (rdL cs i) n)) s) o10
      rw [show negL vs (rdI (rdL cs i) n) = rdI (rdL cs i) n from if_neg h]
  · show k0 vs i o5 cs o7 o8 ((rdL cs i).foldl (fun o x => putI (negL vs x) o) []) o10 = _
    rw [← List.foldl_map (f := negL vs) (g := fun p x => putI x p), neg_clause hc]
    rfl
theorem rdL_set {cs : List (List Int)} {i : Nat} (hi : i < cs.length) (r : List Int) : rdL (tSet cs (i : Int) r) i = r := by
  rw [tSet_n, rdL_n (by simpa using hi)]
  simp
theorem tSet_tSet {cs : List (List Int)} {i : Nat} (r r' : List Int) : tSet (tSet cs (i : Int) r) (i : Int) r' = tSet cs (i : Int) r' := by
  rw [tSet_n, tSet_n, tSet_n, List.set_set]
theorem impl_NegateVars_in_eq {R : Type} {N : Nat} (k0 : List Int → Int → Int → Int → Int → Int → List (List Int) → Option R) {vs : List Int} {i : Nat} {x2 x3 o3 o4 v : Int} {c : List Int} (hv : 0 ≤ v ∧ v ≤ 6) (hvs : vs.length ≤ 1048576) (hc : clauseOk v c) (hN : 1048577 ≤ N) : ∀ (d n K : Nat) (o5 : List (List Int)), n + d = c.length → d < K → i < o5.length → rdL o5 i = (c.map (negL vs)).take n ++ c.drop n →
    impl_NegateVars_l0_0 N k0 K vs i x2 x3 i (c.length : Int) n o3 o4 o5 = k0 vs i x2 x3 o3 o4 (tSet o5 i (c.map (negL vs))) := by
  have hs := clause_short hv hc
  intro d
  induction d with
  | zero =>
    intro n K o5 hd hK hi hr
    obtain ⟨k, rfl⟩ := succ_of hK
    simp only [impl_NegateVars_l0_0]
    rw [ilt_nf (by omega), br_f]
    rw [List.take_of_length_le (by simp; omega), List.drop_of_length_le (by omega), List.append_nil] at hr
    congr 1
    rw [← hr, tSet_n, rdL_n hi, List.set_getElem_self]
  | succ d ih =>
    intro n K o5 hd hK hi hr
    obtain ⟨k, rfl⟩ := succ_of hK
    have hn : n < c.length := by omega
    have hlen : (rdL o5 i).length = c.length := by rw [hr]; simp; omega
    have hat : rdI (rdL o5 i) n = rdI c n := by
      rw [hr, rdI_n hn]
      have := rdI_mid ((c.map (negL vs)).take n) (c.drop (n + 1)) c[n]
      rw [← drop_cons hn, show ((c.map (negL vs)).take n).length = n by simp; omega] at this
      exact this
    obtain ⟨h1, h2, h3, _⟩ := hc n hn
    have e3 : IntKind.i64.wrap (0 - rdI c n) = -rdI c n := by rw [wrap_ok (by omega) (by omega)]; omega
    have e4 : (if -rdI c n > rdI c n then -rdI c n else rdI c n) = (if -rdI c n < rdI c n then rdI c n else -rdI c n) := by
      by_cases q : -rdI c n < rdI c n
      · rw [if_pos q, if_neg (by omega)]
      · rw [if_neg q]
        by_cases q2 : -rdI c n > rdI c n
        · rw [if_pos q2]
        · rw [if_neg q2]; omega
    have e5 : IntKind.i64.wrap ((if -rdI c n < rdI c n then rdI c n else -rdI c n) - 1) = (if -rdI c n < rdI c n then rdI c n else -rdI c n) - 1 := by
      have : -1 ≤ (if -rdI c n < rdI c n then rdI c n else -rdI c n) ∧ (if -rdI c n < rdI c n then rdI c n else -rdI c n) ≤ 6 := by split <;> omega
      rw [wrap_ok (by omega) (by omega)]
    simp only [impl_NegateVars_l0_0]
    rw [ilt_n hn, br_t, inb_n (by omega), chk_t, hat, e3, e4, e5, Contains_eq hvs hN]
    simp only [bind_some']
    rw [chk_t, wrap_succ (by omega), br_ite]
    have hnew : (tSet (rdL o5 i) (n : Int) (negL vs (rdI c n))) = (c.map (negL vs)).take (n + 1) ++ c.drop (n + 1) := by
      have := tSet_mid ((c.map (negL vs)).take n) (c.drop (n + 1)) c[n] (negL vs (rdI c n))
      rw [← drop_cons hn, show ((c.map (negL vs)).take n).length = n by simp; omega] at this
      rw [hr, this, List.take_add_one, List.getElem?_eq_getElem (by simpa using hn), rdI_n hn]
      simp
    by_cases h : (if -rdI c n < rdI c n then rdI c n else -rdI c n) - 1 ∈ vs
    · rw [if_pos (decide_eq_true h)]
      have hneg : negL vs (rdI c n) = -rdI c n := if_pos h
      rw [← hneg, hnew, ih (n + 1) k _ (by omega) (by omega) (by simpa [tSet_n] using hi) (rdL_set hi _), tSet_tSet]
    · rw [if_neg (by simpa using h)]
      have hneg : negL vs (rdI c n) = rdI c n := if_neg h
      refine ih (n + 1) k o5 (by omega) (by omega) hi ?_
      rw [← hnew, hneg, ← hat, tSet_n, rdI_n (by omega), List.set_getElem_self]
end Go.Proofs.Ythkejedgfhjdiaa
