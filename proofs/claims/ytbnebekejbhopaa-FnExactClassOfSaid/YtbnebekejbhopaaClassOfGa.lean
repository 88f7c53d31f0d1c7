/- Statements on data alone. -/
import Derived.Test.YtbnebekejbhopaaPvPure
import Derived.Test.YtbnebekejbhopaaClassOfFa
set_option linter.all false
set_option linter.all false
namespace Go.Proofs.Ytbnebekejbhopaa
open Go Go.PV Classical
theorem toIntS_l0_eq {R : Type} (N : Nat) (k0 : List Int → Option R) (xs : List Int) (hx : xs.length ≤ 1099511627776) : ∀ (d n : Nat) (o : List Int) (K : Nat), n + d = xs.length → d < K → o.length = xs.length →
    laws_toIntS_l0 N k0 K xs n o = k0 (o.take n ++ xs.drop n) := by
  intro d
  induction d with
  | zero =>
    intro n o K hd hK ho
    obtain ⟨k, rfl⟩ := succ_of hK
    have hn : ¬ n < xs.length := by omega
    simp only [laws_toIntS_l0, ilt_lenf hn, br_f]
    rw [List.take_of_length_le (by omega), List.drop_of_length_le (by omega), List.append_nil]
  | succ d ih =>
    intro n o K hd hK ho
    obtain ⟨k, rfl⟩ := succ_of hK
    have hn : n < xs.length := by omega
    have hno : n < o.length := by omega
    simp only [laws_toIntS_l0, ilt_len hn, inb_n hn, inb_n hno, br_t, chk_t]
    rw [wrap_succ (by omega), tSet_n, rdI_n hn, ih (n + 1) _ k (by omega) (by omega) (by simpa using ho)]
    congr 1
    rw [drop_cons hn, List.take_add_one, List.getElem?_set_self (by omega), List.take_set_of_le (Nat.le_refl n)]
    simp
theorem toIntS_eq {N : Nat} {xs : List Int} (hx : xs.length ≤ 1048576) (hN : 1048577 ≤ N) : laws_toIntS N xs = some ((xs, ()), ()) := by
  unfold laws_toIntS
  simp only [tLen_n, ile_t (show (0 : Int) ≤ (xs.length : Int) by omega), ile_t (Int.le_refl _), fits_ok (show xs.length ≤ 1099511627776 by omega), Bool.and_self, chk_t]
  have := toIntS_l0_eq N (fun o => some ((o, ()), ())) xs (by omega) xs.length 0 (tRep (xs.length : Int) 0) N (by omega) (by omega) (by simp [tRep])
  simp only [Int.natCast_zero, List.take_zero, List.drop_zero, List.nil_append] at this
  exact this
theorem eqIntS_l0_eq {R : Type} (N : Nat) (k0 : Bool → Option R) (k1 : Unit → Option R) (a b : List Int) (hx : a.length ≤ 1099511627776) (hl : a.length = b.length) : ∀ (d n : Nat) (K : Nat), n + d = a.length → d < K →
    laws_eqIntS_l0 N k0 k1 K a b n = if a.drop n = b.drop n then k1 () else k0 false := by
  intro d
  induction d with
  | zero =>
    intro n K hd hK
    obtain ⟨k, rfl⟩ := succ_of hK
    have hn : ¬ n < a.length := by omega
    simp only [laws_eqIntS_l0, ilt_lenf hn, br_f]
    rw [if_pos]
    rw [List.drop_of_length_le (by omega), List.drop_of_length_le (by omega)]
  | succ d ih =>
    intro n K hd hK
    obtain ⟨k, rfl⟩ := succ_of hK
    have hn : n < a.length := by omega
    have hnb : n < b.length := by omega
    simp only [laws_eqIntS_l0, ilt_len hn, inb_n hn, inb_n hnb, br_t, chk_t]
    rw [wrap_succ (by omega), rdI_n hn, rdI_n hnb, ih (n + 1) k (by omega) (by omega), drop_cons hn, drop_cons hnb]
    by_cases he : a[n] = b[n]
    · rw [ine_f he, br_f, he]
      simp only [List.cons.injEq, true_and]
    · rw [ine_t he, br_t, if_neg]
      intro h
      injection h with h _
      exact he h
theorem eqIntS_eq {N : Nat} {a b : List Int} (hx : a.length ≤ 1099511627776) (hN : a.length < N) : laws_eqIntS N a b = some ((decide (a = b), ()), ()) := by
  unfold laws_eqIntS
  simp only [tLen_n]
  by_cases hl : a.length = b.length
  · rw [ine_f (by omega), br_f]
    have := eqIntS_l0_eq N (fun x => some ((x, ()), ())) (fun _ => some ((true, ()), ())) a b hx hl a.length 0 N (by omega) (by omega)
    simp only [Int.natCast_zero, List.drop_zero] at this
    rw [this]
    by_cases h : a = b <;> simp [h]
  · rw [ine_t (by omega), br_t]
    have : a ≠ b := fun h => hl (by rw [h])
    simp [this]

/-! ### How much a law lets in -/
theorem szIntS_eq (N : Nat) {xs : List Int} {left : Int} (hl : 0 ≤ left ∧ left ≤ 1048576) (hx : xs.length ≤ 9223372036854775807) : laws_szIntS N xs left = some ((if (xs.length : Int) ≤ left then left - xs.length else -1, ()), ()) := by
  unfold laws_szIntS
  rw [tLen_n, wrap_ok (by omega) (by omega)]
  by_cases h : (xs.length : Int) ≤ left
  · rw [ilt_f (by omega), br_f, if_pos h]
  · rw [ilt_t (by omega), br_t, if_neg h]
/-- What is left behind lists. -/
def szL : List (List Int) → Int → Int
  | [], l => l
  | x :: xs, l => if (x.length : Int) ≤ l then szL xs (l - x.length) else -1
theorem szL_le : ∀ (xs : List (List Int)) (l : Int), 0 ≤ l → 0 ≤ szL xs l → szL xs l ≤ l ∧ ∀ x ∈ xs, (x.length : Int) ≤ l := by
  intro xs
  induction xs with
  | nil => intro l h _; exact ⟨Int.le_refl l, by simp⟩
  | cons x xs ih =>
    intro l h0 h
    unfold szL at h ⊢
    by_cases hx : (x.length : Int) ≤ l
    · rw [if_pos hx] at h ⊢
      obtain ⟨h1, h2⟩ := ih _ (by omega) h
      refine ⟨by omega, fun y hy => ?_⟩
      rcases List.mem_cons.1 hy with rfl | hy
      · exact hx
      · have := h2 y hy
        omega
    · rw [if_neg hx] at h
      omega
theorem szIntSS_l0_eq {R : Type} (N : Nat) (k0 k1 : Int → Option R) (xs : List (List Int)) (hx : ∀ x ∈ xs, x.length ≤ 9223372036854775807) (hl : xs.length ≤ 1048576) : ∀ (d n : Nat) (left : Int) (K : Nat), n + d = xs.length → d < K → 0 ≤ left → left ≤ 1048576 →
    laws_szIntSS_l0 N k0 k1 K xs left n = if 0 ≤ szL (xs.drop n) left then k1 (szL (xs.drop n) left) else k0 (-1) := by
  intro d
  induction d with
  | zero =>
    intro n left K hd hK h0 h1
    obtain ⟨k, rfl⟩ := succ_of hK
    have hn : ¬ n < xs.length := by omega
    simp only [laws_szIntSS_l0, ilt_lenf hn, br_f]
    rw [List.drop_of_length_le (by omega)]
    simp [szL, h0]
  | succ d ih =>
    intro n left K hd hK h0 h1
    obtain ⟨k, rfl⟩ := succ_of hK
    have hn : n < xs.length := by omega
    simp only [laws_szIntSS_l0, ilt_len hn, inb_n hn, br_t, chk_t]
    obtain ⟨y, r, e1, e2, e3⟩ := drop_split hn
    have hy := hx _ (List.getElem_mem hn)
    rw [rdL_n hn, e2] at *
    rw [e2] at hy
    rw [szIntS_eq N ⟨h0, h1⟩ hy, bind_some', e1]
    unfold szL
    by_cases h : (y.length : Int) ≤ left
    · simp only [if_pos h]
      rw [ilt_f (by omega), br_f, wrap_succ (by omega), ih (n + 1) _ k (by omega) (by omega) (by omega) (by omega), e3]
    · simp only [if_neg h]
      rw [ilt_t (by omega), br_t, if_neg (by omega)]
theorem szIntSS_eq {N : Nat} {xs : List (List Int)} {left : Int} (h0 : 0 ≤ left ∧ left ≤ 1048576) (hx : xs.length ≤ 9223372036854775807) (hxs : ∀ x ∈ xs, x.length ≤ 9223372036854775807) (hN : 1048577 ≤ N) :
    ∃ r : Int, laws_szIntSS N xs left = some ((r, ()), ()) ∧ (0 ≤ r → r ≤ left ∧ (xs.length : Int) ≤ left ∧ ∀ x ∈ xs, (x.length : Int) ≤ left) := by
  unfold laws_szIntSS
  rw [tLen_n, wrap_ok (by omega) (by omega)]
  by_cases h : (xs.length : Int) ≤ left
  · rw [ilt_f (by omega), br_f]
    have := szIntSS_l0_eq N (fun x => some ((x, ()), ())) (fun left1 => some ((left1, ()), ())) xs hxs (by omega) xs.length 0 (left - xs.length) N (by omega) (by omega) (by omega) (by omega)
    simp only [Int.natCast_zero, List.drop_zero] at this
    rw [this]
    by_cases hs : 0 ≤ szL xs (left - xs.length)
    · rw [if_pos hs]
      obtain ⟨h1, h2⟩ := szL_le xs _ (by omega) hs
      exact ⟨_, rfl, fun _ => ⟨by omega, h, fun x hx => by have := h2 x hx; omega⟩⟩
    · rw [if_neg hs]
      exact ⟨_, rfl, fun h => by omega⟩
  · rw [ilt_t (by omega), br_t]
    exact ⟨_, rfl, fun h => by omega⟩
theorem szFormula_eq {N : Nat} {f : Int × List (List Int)} (hx : f.2.length ≤ 9223372036854775807) (hxs : ∀ x ∈ f.2, x.length ≤ 9223372036854775807) (hN : 1048577 ≤ N) :
    ∃ r : Int, laws_szFormula N f 1048576 = some ((r, ()), ()) ∧ (0 ≤ r → f.2.length ≤ 1048576 ∧ ∀ x ∈ f.2, x.length ≤ 1048576) := by
  obtain ⟨r, h1, h2⟩ := szIntSS_eq (left := 1048576) (by omega) hx hxs hN
  unfold laws_szFormula
  simp only [h1, bind_some']
  by_cases h : 0 ≤ r
  · rw [ilt_f (by omega), br_f]
    obtain ⟨_, h3, h4⟩ := h2 h
    exact ⟨r, rfl, fun _ => ⟨by omega, fun x hx => by have := h4 x hx; omega⟩⟩
  · rw [ilt_t (by omega), br_t]
    exact ⟨-1, rfl, fun h => by omega⟩
theorem toIntSS_l0_eq {R : Type} (N : Nat) (k0 : List (List Int) → Option R) (xs : List (List Int)) (hx : xs.length ≤ 1048576) (hxs : ∀ x ∈ xs, x.length ≤ 1048576) (hN : 1048577 ≤ N) : ∀ (d n : Nat) (o : List (List Int)) (K : Nat), n + d = xs.length → d < K → o.length = xs.length →
    laws_toIntSS_l0 N k0 K xs n o = k0 (o.take n ++ xs.drop n) := by
  intro d
  induction d with
  | zero =>
    intro n o K hd hK ho
    obtain ⟨k, rfl⟩ := succ_of hK
    have hn : ¬ n < xs.length := by omega
    simp only [laws_toIntSS_l0, ilt_lenf hn, br_f]
    rw [List.take_of_length_le (by omega), List.drop_of_length_le (by omega), List.append_nil]
  | succ d ih =>
    intro n o K hd hK ho
    obtain ⟨k, rfl⟩ := succ_of hK
    have hn : n < xs.length := by omega
    have hno : n < o.length := by omega
    simp only [laws_toIntSS_l0, ilt_len hn, inb_n hn, inb_n hno, br_t, chk_t]
    rw [rdL_n hn, toIntS_eq (hxs _ (List.getElem_mem hn)) hN, bind_some', wrap_succ (by omega), tSet_n, ih (n + 1) _ k (by omega) (by omega) (by simpa using ho)]
    congr 1
    rw [drop_cons hn, List.take_add_one, List.getElem?_set_self (by omega), List.take_set_of_le (Nat.le_refl n)]
    simp
theorem toIntSS_eq {N : Nat} {xs : List (List Int)} (hx : xs.length ≤ 1048576) (hxs : ∀ x ∈ xs, x.length ≤ 1048576) (hN : 1048577 ≤ N) : laws_toIntSS N xs = some ((xs, ()), ()) := by
  unfold laws_toIntSS
  simp only [tLen_n, ile_t (show (0 : Int) ≤ (xs.length : Int) by omega), ile_t (Int.le_refl _), fits_ok (show xs.length ≤ 1099511627776 by omega), Bool.and_self, chk_t]
  have := toIntSS_l0_eq N (fun o => some ((o, ()), ())) xs hx hxs hN xs.length 0 (tRep (xs.length : Int) []) N (by omega) (by omega) (by simp [tRep])
  simp only [Int.natCast_zero, List.take_zero, List.drop_zero, List.nil_append] at this
  exact this
theorem toFormula_eq {N : Nat} {f : Int × List (List Int)} (hx : f.2.length ≤ 1048576) (hxs : ∀ x ∈ f.2, x.length ≤ 1048576) (hN : 1048577 ≤ N) : laws_toFormula N f = some ((f, ()), ()) := by
  unfold laws_toFormula
  rw [toIntSS_eq hx hxs hN, bind_some']
theorem eqIntSS_l0_eq {R : Type} (N : Nat) (k0 : Bool → Option R) (k1 : Unit → Option R) (a b : List (List Int)) (hx : a.length ≤ 1099511627776) (hxs : ∀ x ∈ a, x.length ≤ 1048576) (hN : 1048577 ≤ N) (hl : a.length = b.length) : ∀ (d n : Nat) (K : Nat), n + d = a.length → d < K →
    laws_eqIntSS_l0 N k0 k1 K a b n = if a.drop n = b.drop n then k1 () else k0 false := by
  intro d
  induction d with
  | zero =>
    intro n K hd hK
    obtain ⟨k, rfl⟩ := succ_of hK
    have hn : ¬ n < a.length := by omega
    simp only [laws_eqIntSS_l0, ilt_lenf hn, br_f]
    rw [if_pos]
    rw [List.drop_of_length_le (by omega), List.drop_of_length_le (by omega)]
  | succ d ih =>
    intro n K hd hK
    obtain ⟨k, rfl⟩ := succ_of hK
    have hn : n < a.length := by omega
    have hnb : n < b.length := by omega
    simp only [laws_eqIntSS_l0, ilt_len hn, inb_n hn, inb_n hnb, br_t, chk_t]
    have ha := hxs _ (List.getElem_mem hn)
    rw [wrap_succ (by omega), rdL_n hn, rdL_n hnb, eqIntS_eq (by omega) (by omega), bind_some', ih (n + 1) k (by omega) (by omega), drop_cons hn, drop_cons hnb, br_ite]
    by_cases he : a[n] = b[n]
    · rw [he, if_neg (by simp)]
      simp only [List.cons.injEq, true_and]
    · rw [if_pos (by simp [he]), if_neg]
      intro h
      injection h with h _
      exact he h
theorem eqIntSS_eq {N : Nat} {a b : List (List Int)} (hx : a.length ≤ 1048576) (hxs : ∀ x ∈ a, x.length ≤ 1048576) (hN : 1048577 ≤ N) : laws_eqIntSS N a b = some ((decide (a = b), ()), ()) := by
  unfold laws_eqIntSS
  simp only [tLen_n]
  by_cases hl : a.length = b.length
  · rw [ine_f (by omega), br_f]
    have := eqIntSS_l0_eq N (fun x => some ((x, ()), ())) (fun _ => some ((true, ()), ())) a b (by omega) hxs hN hl a.length 0 N (by omega) (by omega)
    simp only [Int.natCast_zero, List.drop_zero] at this
    rw [this]
    by_cases h : a = b <;> simp [h]
  · rw [ine_t (by omega), br_t]
    have : a ≠ b := fun h => hl (by rw [h])
    simp [this]
theorem eqFormula_eq {N : Nat} {a b : Int × List (List Int)} (hx : a.2.length ≤ 1048576) (hxs : ∀ x ∈ a.2, x.length ≤ 1048576) (hN : 1048577 ≤ N) : laws_eqFormula N a b = some ((decide (a = b), ()), ()) := by
  obtain ⟨a1, a2⟩ := a
  obtain ⟨b1, b2⟩ := b
  unfold laws_eqFormula
  by_cases h1 : a1 = b1
  · rw [ine_f h1, br_f, eqIntSS_eq hx hxs hN, bind_some', br_ite]
    by_cases h2 : a2 = b2 <;> simp [h1, h2]
  · rw [ine_t h1, br_t]
    simp [h1]
theorem l1In_eq (N : Nat) (x a b : Int) : spec_l1In N x a b = some ((decide (a ≤ x ∧ x ≤ b), ()), ()) := by
  unfold spec_l1In
  rw [br_ite, ile_d, ile_d]
  by_cases h : a ≤ x <;> by_cases h' : x ≤ b <;> simp [h, h']
theorem between_eq (N : Nat) (n low high : Int) : impl_between N n low high = some ((decide (low ≤ n ∧ n ≤ high), ()), ()) := by
  unfold impl_between
  rw [br_ite, ile_d, ile_d]
  by_cases h : low ≤ n <;> by_cases h' : n ≤ high <;> simp [h, h']
def litOk (v : Int) (c : List Int) (k : Nat) : Prop := rdI c k ≠ 0 ∧ -v ≤ rdI c k ∧ rdI c k ≤ v ∧ (0 < k → rdI c ((k - 1 : Nat) : Int) < rdI c k)
def clauseOk (v : Int) (c : List Int) : Prop := ∀ k, k < c.length → litOk v c k
def goodF (f : Int × List (List Int)) : Prop := (0 ≤ f.1 ∧ f.1 ≤ 6) ∧ f.2.length ≤ 64 ∧ ∀ i, i < f.2.length → clauseOk f.1 (rdL f.2 i)
theorem spec_l6Literal_eq (N : Nat) {v : Int} (hv : 0 ≤ v ∧ v ≤ 6) (x : Int) : spec_l6Literal N v x = some ((decide (x ≠ 0 ∧ -v ≤ x ∧ x ≤ v), ()), ()) := by
  unfold spec_l6Literal
  rw [wrap_ok (by omega) (by omega), l1In_eq, bind_some', br_ite, ine_d]
  have e : (0 : Int) - v = -v := by omega
  rw [e]
  by_cases h : x = 0 <;> simp [h]
theorem l6Good_in_eq {R : Type} {N : Nat} (k0 : Bool → Option R) (k1 : Int → Int → List (List Int) → Option R) {v : Int} (hv : 0 ≤ v ∧ v ≤ 6) {cs : List (List Int)} {i : Nat} (hi : i < cs.length) (hc : (rdL cs i).length ≤ 1048576) (hN : 1048577 ≤ N) :
    spec_l6Good_l0_0 N k0 k1 N i 0 v cs = if clauseOk v (rdL cs i) then k1 i v cs else k0 false := by
  refine loop_all_if (K := N) (L := fun K k => spec_l6Good_l0_0 N k0 k1 K i k v cs) (m := (rdL cs i).length) (P := clauseOk v (rdL cs i)) (litOk v (rdL cs i)) Iff.rfl (fun K n hn => ?_) (fun K n hn hp => ?_) (fun K n hn hp => ?_) (by omega)
  · simp only [spec_l6Good_l0_0, inb_n hi, chk_t, ilt_lenf hn, br_f]
  · obtain ⟨h1, h2, h3, h4⟩ := hp
    simp only [spec_l6Good_l0_0, inb_n hi, chk_t, ilt_len hn, br_t, inb_n hn, spec_l6Literal_eq N hv, bind_some']
    rw [br_ite, if_neg (by simp [h1, h2, h3])]
    by_cases h0 : 0 < n
    · rw [ilt_0 h0, br_t, wrap_pred (by omega) h0, inb_n (by omega), chk_t, ile_f (by have := h4 h0; omega), br_f, wrap_succ (by omega)]
    · rw [ilt_0n h0, br_f, wrap_succ (by omega)]
  · simp only [spec_l6Good_l0_0, inb_n hi, chk_t, ilt_len hn, br_t, inb_n hn, spec_l6Literal_eq N hv, bind_some']
    by_cases h : rdI (rdL cs i) n ≠ 0 ∧ -v ≤ rdI (rdL cs i) n ∧ rdI (rdL cs i) n ≤ v
    · rw [br_ite, if_neg (by simp [h])]
      have h0 : 0 < n := by
        rcases Nat.eq_zero_or_pos n with h0 | h0
        · exact absurd ⟨h.1, h.2.1, h.2.2, fun h' => by omega⟩ hp
        · exact h0
      have h4 : ¬ rdI (rdL cs i) ((n - 1 : Nat) : Int) < rdI (rdL cs i) n := fun h' => hp ⟨h.1, h.2.1, h.2.2, fun _ => h'⟩
      rw [ilt_0 h0, br_t, wrap_pred (by omega) h0, inb_n (by omega), chk_t, ile_t (by omega), br_t]
    · rw [br_ite, if_pos (by simp only [Bool.not_eq_true', decide_eq_false_iff_not]; exact h)]
theorem spec_l6Good_eq {N : Nat} {f : Int × List (List Int)} (hl : f.2.length ≤ 1048576) (hc : ∀ c ∈ f.2, c.length ≤ 1048576) (hN : 1048577 ≤ N) : spec_l6Good N f = some ((decide (goodF f), ()), ()) := by
  obtain ⟨v, cs⟩ := f
  unfold spec_l6Good
  rw [l1In_eq, bind_some', br_ite]
  by_cases hv : 0 ≤ v ∧ v ≤ 6
  · rw [if_neg (by simp [hv]), tLen_n]
    by_cases h64 : cs.length ≤ 64
    · rw [ilt_f (show ¬ (64 : Int) < cs.length by omega), br_f]
      have := loop_all_if (L := fun K i => spec_l6Good_l0 N (fun x => some ((x, ()), ())) (fun (_ : Unit) => some ((true, ()), ())) K i v cs) (m := cs.length) (P := ∀ i, i < cs.length → clauseOk v (rdL cs i)) (fun i => clauseOk v (rdL cs i)) Iff.rfl (kt := some ((true, ()), ())) (kf := some ((false, ()), ())) (fun K n hn => ?_) (fun K n hn hp => ?_) (fun K n hn hp => ?_) (show cs.length < N by omega)
      · rw [show ((0 : Nat) : Int) = 0 from rfl] at this
        rw [this]
        by_cases h : ∀ i, i < cs.length → clauseOk v (rdL cs i)
        · rw [if_pos h, decide_eq_true (show goodF (v, cs) from ⟨hv, h64, h⟩)]
        · rw [if_neg h, decide_eq_false (show ¬ goodF (v, cs) from fun h' => h h'.2.2)]
      · simp only [spec_l6Good_l0, ilt_lenf hn, br_f]
      · simp only [spec_l6Good_l0, ilt_len hn, br_t]
        rw [l6Good_in_eq _ _ hv hn (rdL_len hc _) hN, if_pos hp, wrap_succ (by omega)]
      · simp only [spec_l6Good_l0, ilt_len hn, br_t]
        rw [l6Good_in_eq _ _ hv hn (rdL_len hc _) hN, if_neg hp]
    · rw [ilt_t (show (64 : Int) < cs.length by omega), br_t, decide_eq_false (show ¬ goodF (v, cs) from fun h => h64 h.2.1)]
  · rw [if_pos (by simp only [Bool.not_eq_true', decide_eq_false_iff_not]; exact hv), decide_eq_false (show ¬ goodF (v, cs) from fun h => hv h.1)]
theorem IsFormula_in_eq {R : Type} {N : Nat} (k0 : Bool → Option R) (k1 : List (List Int) → Int → Int → Int → List (List Int) → Option R) {v : Int} (hv : 0 ≤ v ∧ v ≤ 6) {c : List Int} {x3 : List (List Int)} {x4 x5 : Int} {cs : List (List Int)} (hc : c.length ≤ 1048576) (hN : 1048577 ≤ N) :
    impl_IsFormula_l0_0 N k0 k1 N c x3 x4 x5 c (c.length : Int) 0 v cs = if clauseOk v c then k1 x3 x4 x5 v cs else k0 false := by
  refine loop_all_if (K := N) (L := fun K k => impl_IsFormula_l0_0 N k0 k1 K c x3 x4 x5 c (c.length : Int) k v cs) (m := c.length) (P := clauseOk v c) (litOk v c) Iff.rfl (fun K n hn => ?_) (fun K n hn hp => ?_) (fun K n hn hp => ?_) (by omega)
  · simp only [impl_IsFormula_l0_0, ilt_nf hn, br_f]
  · obtain ⟨h1, h2, h3, h4⟩ := hp
    simp only [impl_IsFormula_l0_0, ilt_n hn, br_t, inb_n hn, chk_t, between_eq, bind_some', wrap_ok (show -9223372036854775808 ≤ 0 - v by omega) (show 0 - v < 9223372036854775808 by omega)]
    rw [ieq_f h1, br_f, br_ite, if_neg (by simp; omega)]
    by_cases h0 : 0 < n
    · rw [ilt_0 h0, br_t, wrap_pred (by omega) h0, inb_n (by omega), chk_t, ile_f (by have := h4 h0; omega), br_f, wrap_succ (by omega)]
    · rw [ilt_0n h0, br_f, wrap_succ (by omega)]
  · simp only [impl_IsFormula_l0_0, ilt_n hn, br_t, inb_n hn, chk_t, between_eq, bind_some', wrap_ok (show -9223372036854775808 ≤ 0 - v by omega) (show 0 - v < 9223372036854775808 by omega)]
    by_cases hz : rdI c n = 0
    · rw [ieq_t hz, br_t]
    · rw [ieq_f hz, br_f, br_ite]
      by_cases h : -v ≤ rdI c n ∧ rdI c n ≤ v
      · rw [if_neg (by simp; omega)]
        have h0 : 0 < n := by
          rcases Nat.eq_zero_or_pos n with h0 | h0
          · exact absurd ⟨hz, h.1, h.2, fun h' => by omega⟩ hp
          · exact h0
        have h4 : ¬ rdI c ((n - 1 : Nat) : Int) < rdI c n := fun h' => hp ⟨hz, h.1, h.2, fun _ => h'⟩
        rw [ilt_0 h0, br_t, wrap_pred (by omega) h0, inb_n (by omega), chk_t, ile_t (by omega), br_t]
      · rw [if_pos (by simp only [Bool.not_eq_true', decide_eq_false_iff_not]; omega)]
theorem impl_IsFormula_eq {N : Nat} {f : Int × List (List Int)} (hl : f.2.length ≤ 1048576) (hc : ∀ c ∈ f.2, c.length ≤ 1048576) (hN : 1048577 ≤ N) : impl_IsFormula N f = some ((decide (goodF f), ()), ()) := by
  obtain ⟨v, cs⟩ := f
  unfold impl_IsFormula
  rw [between_eq, bind_some', br_ite]
  by_cases hv : 0 ≤ v ∧ v ≤ 6
  · rw [if_neg (by simp [hv]), tLen_n]
    by_cases h64 : cs.length ≤ 64
    · rw [ilt_f (show ¬ (64 : Int) < cs.length by omega), br_f]
      have := loop_all_if (L := fun K i => impl_IsFormula_l0 N (fun x => some ((x, ()), ())) (fun (_ : Unit) => some ((true, ()), ())) K cs (cs.length : Int) i v cs) (m := cs.length) (P := ∀ i, i < cs.length → clauseOk v (rdL cs i)) (fun i => clauseOk v (rdL cs i)) Iff.rfl (kt := some ((true, ()), ())) (kf := some ((false, ()), ())) (fun K n hn => ?_) (fun K n hn hp => ?_) (fun K n hn hp => ?_) (show cs.length < N by omega)
      · rw [show ((0 : Nat) : Int) = 0 from rfl] at this
        rw [this]
        by_cases h : ∀ i, i < cs.length → clauseOk v (rdL cs i)
        · rw [if_pos h, decide_eq_true (show goodF (v, cs) from ⟨hv, h64, h⟩)]
        · rw [if_neg h, decide_eq_false (show ¬ goodF (v, cs) from fun h' => h h'.2.2)]
      · simp only [impl_IsFormula_l0, ilt_nf hn, br_f]
      · simp only [impl_IsFormula_l0, ilt_n hn, br_t, inb_n hn, chk_t, tLen_n]
        rw [IsFormula_in_eq _ _ hv (rdL_len hc _) hN, if_pos hp, wrap_succ (by omega)]
      · simp only [impl_IsFormula_l0, ilt_n hn, br_t, inb_n hn, chk_t, tLen_n]
        rw [IsFormula_in_eq _ _ hv (rdL_len hc _) hN, if_neg hp]
    · rw [ilt_t (show (64 : Int) < cs.length by omega), br_t, decide_eq_false (show ¬ goodF (v, cs) from fun h => h64 h.2.1)]
  · rw [if_pos (by simp only [Bool.not_eq_true', decide_eq_false_iff_not]; exact hv), decide_eq_false (show ¬ goodF (v, cs) from fun h => hv h.1)]
def cntI (c : List Int) : Int := c.foldl (fun u x => if 0 < x then u + 1 else u) 0
theorem l6Most_in_eq {R : Type} {N : Nat} (k0 : Int → Int → Int → List (List Int) → Int → Int → Int → Int → Int → Int → Option R) {i : Nat} {o8 o10 o11 o12 o13 o14 o15 : Int} {cs : List (List Int)} (hi : i < cs.length) (hc : (rdL cs i).length ≤ 1048576) (hN : 1048577 ≤ N) :
    spec_l6Most_l0_0 N k0 N i 0 0 o8 cs o10 o11 o12 o13 o14 o15 = k0 i (cntI (rdL cs i)) o8 cs o10 o11 o12 o13 o14 o15 ∧ 0 ≤ cntI (rdL cs i) ∧ cntI (rdL cs i) ≤ ((rdL cs i).length : Int) := by
  refine loop_list (xs := rdL cs i) (L := fun K n up => spec_l6Most_l0_0 N k0 K i up n o8 cs o10 o11 o12 o13 o14 o15) (k := fun up => k0 i up o8 cs o10 o11 o12 o13 o14 o15) (fun (u : Int) x => if 0 < x then u + 1 else u) (fun n up => 0 ≤ up ∧ up ≤ (n : Int)) (fun K n s hn _ => ?_) (fun K n s hn h => ?_) (fun n s hn h => ?_) (by omega) ⟨by omega, by omega⟩
  · simp only [spec_l6Most_l0_0, inb_n hi, chk_t, ilt_lenf hn, br_f]
  · simp only [spec_l6Most_l0_0, inb_n hi, chk_t, ilt_len hn, br_t, inb_n hn]
    rw [wrap_succ (by omega), wrap_ok (by omega) (by omega), rdI_n hn, br_ite, ilt_d]
    by_cases h : 0 < (rdL cs i)[n] <;> simp [h]
  · by_cases h : 0 < (rdL cs i)[n] <;> simp only [h, if_true, if_false] <;> omega
theorem ClassOf_in_eq {R : Type} {N : Nat} (k0 : Bool → Bool → Bool → List Int → Int → List (List Int) → Int → Int → Option R) {a b c : Bool} {cl : List Int} {x3 : List (List Int)} {x4 x5 : Int} (hc : cl.length ≤ 1048576) (hN : 1048577 ≤ N) :
    impl_ClassOf_l0_0 N k0 N a b c cl 0 x3 x4 x5 cl (cl.length : Int) 0 = k0 a b c cl (cntI cl) x3 x4 x5 ∧ 0 ≤ cntI cl ∧ cntI cl ≤ (cl.length : Int) := by
  refine loop_list (xs := cl) (L := fun K n up => impl_ClassOf_l0_0 N k0 K a b c cl up x3 x4 x5 cl (cl.length : Int) n) (k := fun up => k0 a b c cl up x3 x4 x5) (fun (u : Int) x => if 0 < x then u + 1 else u) (fun n up => 0 ≤ up ∧ up ≤ (n : Int)) (fun K n s hn _ => ?_) (fun K n s hn h => ?_) (fun n s hn h => ?_) (by omega) ⟨by omega, by omega⟩
  · simp only [impl_ClassOf_l0_0, ilt_nf hn, br_f]
  · simp only [impl_ClassOf_l0_0, ilt_n hn, br_t, inb_n hn, chk_t]
    rw [wrap_succ (by omega), wrap_ok (by omega) (by omega), rdI_n hn, br_ite, ilt_d]
    by_cases h : 0 < cl[n] <;> simp [h]
  · by_cases h : 0 < cl[n] <;> simp only [h, if_true, if_false] <;> omega
def mostF (s : Int × Int × Int) (c : List Int) : Int × Int × Int := (if (c.length : Int) < s.1 then s.1 else (c.length : Int), if cntI c < s.2.1 then s.2.1 else cntI c, if (c.length : Int) - cntI c < s.2.2 then s.2.2 else (c.length : Int) - cntI c)
def classF (t : Bool × Bool × Bool) (c : List Int) : Bool × Bool × Bool := (t.1 && decide ((c.length : Int) ≤ 2), t.2.1 && decide (cntI c ≤ 1), t.2.2 && decide ((c.length : Int) - cntI c ≤ 1))
theorem class_rel (cs : List (List Int)) : cs.foldl classF (true, true, true) = (decide ((cs.foldl mostF (0, 0, 0)).1 ≤ 2), decide ((cs.foldl mostF (0, 0, 0)).2.1 ≤ 1), decide ((cs.foldl mostF (0, 0, 0)).2.2 ≤ 1)) := by
  refine foldl_rel (P := fun (s : Int × Int × Int) (t : Bool × Bool × Bool) => t = (decide (s.1 ≤ 2), decide (s.2.1 ≤ 1), decide (s.2.2 ≤ 1))) rfl fun s t x _ h => ?_
  have mx : ∀ a b m : Int, decide ((if b < a then a else b) ≤ m) = (decide (a ≤ m) && decide (b ≤ m)) := by
    intro a b m
    rw [← Bool.decide_and]
    refine decide_eq_decide.2 ?_
    by_cases h : b < a
    · rw [if_pos h]; omega
    · rw [if_neg h]; omega
  subst h
  exact Prod.ext (mx _ _ _).symm (Prod.ext (mx _ _ _).symm (mx _ _ _).symm)
theorem l1Most_eq (N : Nat) (a b : Int) : spec_l1Most N a b = some ((if b < a then a else b, ()), ()) := by
  unfold spec_l1Most
  rw [br_ite, ilt_d]
  by_cases h : b < a <;> simp [h]
theorem l6Most_eq {N : Nat} {f : Int × List (List Int)} (hl : f.2.length ≤ 1048576) (hc : ∀ c ∈ f.2, c.length ≤ 1048576) (hN : 1048577 ≤ N) : spec_l6Most N f = some ((f.2.foldl mostF (0, 0, 0), ()), ()) := by
  obtain ⟨v, cs⟩ := f
  simp only at hl hc
  unfold spec_l6Most
  refine (loop_list (xs := cs) (L := fun K i (s : Int × Int × Int) => spec_l6Most_l0 N (fun o o1 o2 o3 o4 o5 => some (((o3, (o4, o5)), ()), ())) K i v cs 0 0 0 s.1 s.2.1 s.2.2) (K := N) (k := fun s => some ((s, ()), ())) mostF (fun _ _ => True) (fun K n s hn _ => ?_) (fun K n s hn _ => ?_) (fun n s hn h => trivial) (s := (0, 0, 0)) (by omega) trivial).1
  · simp only [spec_l6Most_l0, ilt_lenf hn, br_f]
  · simp only [spec_l6Most_l0, ilt_len hn, br_t]
    obtain ⟨e, h1, h2⟩ := l6Most_in_eq (fun i1 up o8 o9 o10 o11 o12 o13 o14 o15 => (chk (inb o9 i1)
        ((spec_l1Most N o13 (tLen (rdL o9 i1))).bind fun r =>
        ((spec_l1Most N o14 up).bind fun r1 =>
          (chk (inb o9 i1)
            ((spec_l1Most N o15 (IntKind.i64.wrap ((tLen (rdL o9 i1)) - up))).bind fun r2 =>
            spec_l6Most_l0 N (fun o o1 o2 o3 o4 o5 => some (((o3, (o4, o5)), ()), ())) K (IntKind.i64.wrap (i1 + 1)) o8 o9 o10 o11 o12 r.1.1 r1.1.1 r2.1.1)))))) (o8 := v) (o10 := 0) (o11 := 0) (o12 := 0) (o13 := s.1) (o14 := s.2.1) (o15 := s.2.2) hn (rdL_len hc n) hN
    have hb := rdL_len hc n
    rw [e]
    simp only [inb_n hn, chk_t, l1Most_eq, bind_some', tLen_n]
    rw [wrap_succ (by omega), wrap_ok (by omega) (by omega), rdL_n hn]
    rfl
theorem impl_ClassOf_l0_eq {N : Nat} {cs : List (List Int)} (hl : cs.length ≤ 1048576) (hc : ∀ c ∈ cs, c.length ≤ 1048576) (hN : 1048577 ≤ N) :
    impl_ClassOf_l0 N (fun two horn dual => some ((two, horn, dual, true, ()), ())) N true true true cs (cs.length : Int) 0 = some (((cs.foldl classF (true, true, true)).1, (cs.foldl classF (true, true, true)).2.1, (cs.foldl classF (true, true, true)).2.2, true, ()), ()) := by
  refine (loop_list (xs := cs) (L := fun K i (s : Bool × Bool × Bool) => impl_ClassOf_l0 N (fun two horn dual => some ((two, horn, dual, true, ()), ())) K s.1 s.2.1 s.2.2 cs (cs.length : Int) i) (k := fun s => some ((s.1, s.2.1, s.2.2, true, ()), ())) classF (fun _ _ => True) (fun K n s hn _ => ?_) (fun K n s hn _ => ?_) (fun n s hn h => trivial) (s := (true, true, true)) (K := N) (by omega) trivial).1
  · simp only [impl_ClassOf_l0, ilt_nf hn, br_f]
  · simp only [impl_ClassOf_l0, ilt_n hn, br_t, inb_n hn, chk_t, tLen_n (rdL cs n)]
    have hb := rdL_len hc n
    obtain ⟨e, h1, h2⟩ := ClassOf_in_eq (fun two1 horn1 dual1 clause above x3 x4 x5 => (br two1
        ((br horn1
          ((br dual1
            (impl_ClassOf_l0 N (fun two horn dual => some ((two, horn, dual, true, ()), ())) K (ile (tLen clause) 2) (ile above 1) (ile (IntKind.i64.wrap ((tLen clause) - above)) 1) x3 x4 (IntKind.i64.wrap (x5 + 1)))
            (impl_ClassOf_l0 N (fun two horn dual => some ((two, horn, dual, true, ()), ())) K (ile (tLen clause) 2) (ile above 1) false x3 x4 (IntKind.i64.wrap (x5 + 1)))))
          ((br dual1
            (impl_ClassOf_l0 N (fun two horn dual => some ((two, horn, dual, true, ()), ())) K (ile (tLen clause) 2) false (ile (IntKind.i64.wrap ((tLen clause) - above)) 1) x3 x4 (IntKind.i64.wrap (x5 + 1)))
            (impl_ClassOf_l0 N (fun two horn dual => some ((two, horn, dual, true, ()), ())) K (ile (tLen clause) 2) false false x3 x4 (IntKind.i64.wrap (x5 + 1)))))))
        ((br horn1
          ((br dual1
            (impl_ClassOf_l0 N (fun two horn dual => some ((two, horn, dual, true, ()), ())) K false (ile above 1) (ile (IntKind.i64.wrap ((tLen clause) - above)) 1) x3 x4 (IntKind.i64.wrap (x5 + 1)))
            (impl_ClassOf_l0 N (fun two horn dual => some ((two, horn, dual, true, ()), ())) K false (ile above 1) false x3 x4 (IntKind.i64.wrap (x5 + 1)))))
          ((br dual1
            (impl_ClassOf_l0 N (fun two horn dual => some ((two, horn, dual, true, ()), ())) K false false (ile (IntKind.i64.wrap ((tLen clause) - above)) 1) x3 x4 (IntKind.i64.wrap (x5 + 1)))
            (impl_ClassOf_l0 N (fun two horn dual => some ((two, horn, dual, true, ()), ())) K false false false x3 x4 (IntKind.i64.wrap (x5 + 1))))))))) (a := s.1) (b := s.2.1) (c := s.2.2) (cl := rdL cs n) (x3 := cs) (x4 := (cs.length : Int)) (x5 := (n : Int)) hb hN
    refine e.trans ?_
    simp only [tLen_n, wrap_ok (show -9223372036854775808 ≤ ((rdL cs n).length : Int) - cntI (rdL cs n) by omega) (show ((rdL cs n).length : Int) - cntI (rdL cs n) < 9223372036854775808 by omega), ile_d]
    rw [wrap_succ (by omega), rdL_n hn]
    obtain ⟨a, b, c⟩ := s
    cases a <;> cases b <;> cases c <;> simp only [br_t, br_f, classF, Bool.true_and, Bool.false_and]
theorem ClassOf_pure {f : Int × List (List Int)} (hx : f.2.length ≤ 9223372036854775807) (hxs : ∀ x ∈ f.2, x.length ≤ 9223372036854775807) : laws_FnExactClassOf 1048577 f = some ((true, ()), ()) := by
  unfold laws_FnExactClassOf
  have hN : 1048577 ≤ 1048577 := Nat.le_refl _
  obtain ⟨r, h1, h2⟩ := szFormula_eq hx hxs hN
  simp only [h1, bind_some']
  by_cases h : 0 ≤ r
  · rw [ilt_f (by omega), br_f]
    obtain ⟨h3, h4⟩ := h2 h
    simp only [toFormula_eq h3 h4 hN, bind_some', spec_ClassOf, impl_ClassOf, spec_l6Good_eq h3 h4 hN, impl_IsFormula_eq h3 h4 hN, eqFormula_eq h3 h4 hN, tLen_n]
    by_cases hg : goodF f
    · simp only [decide_eq_true hg, Bool.not_true, br_f, l6Most_eq h3 h4 hN, bind_some', impl_ClassOf_l0_eq h3 h4 hN, class_rel, ile_d]
      simp [br_ite]
    · simp only [decide_eq_false hg, Bool.not_false, br_t, bind_some']
      simp [br_ite]
  · rw [ilt_t (by omega), br_t]
theorem ClassOf_pureT : ∀ x : argsT (psOf [QILLI]), WfA [QILLI] x → ∃ k m, (laws_FnExactClassOf_S k).f x = some ((true, ()), m) :=
  fun x h => ⟨1048577, (), ClassOf_pure (len_ok h.1.2.1) fun y hy => len_ok (h.1.2.2 y hy).1⟩
end Go.Proofs.Ytbnebekejbhopaa
