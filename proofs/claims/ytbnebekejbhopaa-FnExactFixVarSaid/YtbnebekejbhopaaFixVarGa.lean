/- Statements on data alone. -/
import Derived.Test.YtbnebekejbhopaaPvPure
import Derived.Test.YtbnebekejbhopaaFixVarFb
set_option linter.all false
set_option linter.all false
namespace Go.Proofs.Ytbnebekejbhopaa
open Go Go.PV Classical
theorem toIntS_l0_eq {R : Type} (N : Nat) (k0 : List Int → Option R) (xs : List Int) (hx : xs.length ≤ 1099511627776) : ∀ (d n : Nat) (o : List Int) (K : Nat), n + d = xs.length → d < K → o.length = xs.length →
    laws_toIntS_l0 N k0 K xs n o = k0 (o.take n ++ xs.drop n) := by
  intro d
  induction d with
  | zero =>
    intro n o K hd hK ho
    obtain ⟨k, rfl⟩ := succ_of hK
    have hn : ¬ n < xs.length := by omega
    simp only [laws_toIntS_l0, ilt_lenf hn, br_f]
    rw [List.take_of_length_le (by omega), List.drop_of_length_le (by omega), List.append_nil]
  | succ d ih =>
    intro n o K hd hK ho
    obtain ⟨k, rfl⟩ := succ_of hK
    have hn : n < xs.length := by omega
    have hno : n < o.length := by omega
    simp only [laws_toIntS_l0, ilt_len hn, inb_n hn, inb_n hno, br_t, chk_t]
    rw [wrap_succ (by omega), tSet_n, rdI_n hn, ih (n + 1) _ k (by omega) (by omega) (by simpa using ho)]
    congr 1
    rw [drop_cons hn, List.take_add_one, List.getElem?_set_self (by omega), List.take_set_of_le (Nat.le_refl n)]
    simp
theorem toIntS_eq {N : Nat} {xs : List Int} (hx : xs.length ≤ 1048576) (hN : 1048577 ≤ N) : laws_toIntS N xs = some ((xs, ()), ()) := by
  unfold laws_toIntS
  simp only [tLen_n, ile_t (show (0 : Int) ≤ (xs.length : Int) by omega), ile_t (Int.le_refl _), fits_ok (show xs.length ≤ 1099511627776 by omega), Bool.and_self, chk_t]
  have := toIntS_l0_eq N (fun o => some ((o, ()), ())) xs (by omega) xs.length 0 (tRep (xs.length : Int) 0) N (by omega) (by omega) (by simp [tRep])
  simp only [Int.natCast_zero, List.take_zero, List.drop_zero, List.nil_append] at this
  exact this
theorem eqIntS_l0_eq {R : Type} (N : Nat) (k0 : Bool → Option R) (k1 : Unit → Option R) (a b : List Int) (hx : a.length ≤ 1099511627776) (hl : a.length = b.length) : ∀ (d n : Nat) (K : Nat), n + d = a.length → d < K →
    laws_eqIntS_l0 N k0 k1 K a b n = if a.drop n = b.drop n then k1 () else k0 false := by
  intro d
  induction d with
  | zero =>
    intro n K hd hK
    obtain ⟨k, rfl⟩ := succ_of hK
    have hn : ¬ n < a.length := by omega
    simp only [laws_eqIntS_l0, ilt_lenf hn, br_f]
    rw [if_pos]
    rw [List.drop_of_length_le (by omega), List.drop_of_length_le (by omega)]
  | succ d ih =>
    intro n K hd hK
    obtain ⟨k, rfl⟩ := succ_of hK
    have hn : n < a.length := by omega
    have hnb : n < b.length := by omega
    simp only [laws_eqIntS_l0, ilt_len hn, inb_n hn, inb_n hnb, br_t, chk_t]
    rw [wrap_succ (by omega), rdI_n hn, rdI_n hnb, ih (n + 1) k (by omega) (by omega), drop_cons hn, drop_cons hnb]
    by_cases he : a[n] = b[n]
    · rw [ine_f he, br_f, he]
      simp only [List.cons.injEq, true_and]
    · rw [ine_t he, br_t, if_neg]
      intro h
      injection h with h _
      exact he h
theorem eqIntS_eq {N : Nat} {a b : List Int} (hx : a.length ≤ 1099511627776) (hN : a.length < N) : laws_eqIntS N a b = some ((decide (a = b), ()), ()) := by
  unfold laws_eqIntS
  simp only [tLen_n]
  by_cases hl : a.length = b.length
  · rw [ine_f (by omega), br_f]
    have := eqIntS_l0_eq N (fun x => some ((x, ()), ())) (fun _ => some ((true, ()), ())) a b hx hl a.length 0 N (by omega) (by omega)
    simp only [Int.natCast_zero, List.drop_zero] at this
    rw [this]
    by_cases h : a = b <;> simp [h]
  · rw [ine_t (by omega), br_t]
    have : a ≠ b := fun h => hl (by rw [h])
    simp [this]

/-! ### How much a law lets in -/
theorem szIntS_eq (N : Nat) {xs : List Int} {left : Int} (hl : 0 ≤ left ∧ left ≤ 1048576) (hx : xs.length ≤ 9223372036854775807) : laws_szIntS N xs left = some ((if (xs.length : Int) ≤ left then left - xs.length else -1, ()), ()) := by
  unfold laws_szIntS
  rw [tLen_n, wrap_ok (by omega) (by omega)]
  by_cases h : (xs.length : Int) ≤ left
  · rw [ilt_f (by omega), br_f, if_pos h]
  · rw [ilt_t (by omega), br_t, if_neg h]
/-- What is left behind lists. -/
def szL : List (List Int) → Int → Int
  | [], l => l
  | x :: xs, l => if (x.length : Int) ≤ l then szL xs (l - x.length) else -1
theorem szL_le : ∀ (xs : List (List Int)) (l : Int), 0 ≤ l → 0 ≤ szL xs l → szL xs l ≤ l ∧ ∀ x ∈ xs, (x.length : Int) ≤ l := by
  intro xs
  induction xs with
  | nil => intro l h _; exact ⟨Int.le_refl l, by simp⟩
  | cons x xs ih =>
    intro l h0 h
    unfold szL at h ⊢
    by_cases hx : (x.length : Int) ≤ l
    · rw [if_pos hx] at h ⊢
      obtain ⟨h1, h2⟩ := ih _ (by omega) h
      refine ⟨by omega, fun y hy => ?_⟩
      rcases List.mem_cons.1 hy with rfl | hy
      · exact hx
      · have := h2 y hy
        omega
    · rw [if_neg hx] at h
      omega
theorem szIntSS_l0_eq {R : Type} (N : Nat) (k0 k1 : Int → Option R) (xs : List (List Int)) (hx : ∀ x ∈ xs, x.length ≤ 9223372036854775807) (hl : xs.length ≤ 1048576) : ∀ (d n : Nat) (left : Int) (K : Nat), n + d = xs.length → d < K → 0 ≤ left → left ≤ 1048576 →
    laws_szIntSS_l0 N k0 k1 K xs left n = if 0 ≤ szL (xs.drop n) left then k1 (szL (xs.drop n) left) else k0 (-1) := by
  intro d
  induction d with
  | zero =>
    intro n left K hd hK h0 h1
    obtain ⟨k, rfl⟩ := succ_of hK
    have hn : ¬ n < xs.length := by omega
    simp only [laws_szIntSS_l0, ilt_lenf hn, br_f]
    rw [List.drop_of_length_le (by omega)]
    simp [szL, h0]
  | succ d ih =>
    intro n left K hd hK h0 h1
    obtain ⟨k, rfl⟩ := succ_of hK
    have hn : n < xs.length := by omega
    simp only [laws_szIntSS_l0, ilt_len hn, inb_n hn, br_t, chk_t]
    obtain ⟨y, r, e1, e2, e3⟩ := drop_split hn
    have hy := hx _ (List.getElem_mem hn)
    rw [rdL_n hn, e2] at *
    rw [e2] at hy
    rw [szIntS_eq N ⟨h0, h1⟩ hy, bind_some', e1]
    unfold szL
    by_cases h : (y.length : Int) ≤ left
    · simp only [if_pos h]
      rw [ilt_f (by omega), br_f, wrap_succ (by omega), ih (n + 1) _ k (by omega) (by omega) (by omega) (by omega), e3]
    · simp only [if_neg h]
      rw [ilt_t (by omega), br_t, if_neg (by omega)]
theorem szIntSS_eq {N : Nat} {xs : List (List Int)} {left : Int} (h0 : 0 ≤ left ∧ left ≤ 1048576) (hx : xs.length ≤ 9223372036854775807) (hxs : ∀ x ∈ xs, x.length ≤ 9223372036854775807) (hN : 1048577 ≤ N) :
    ∃ r : Int, laws_szIntSS N xs left = some ((r, ()), ()) ∧ (0 ≤ r → r ≤ left ∧ (xs.length : Int) ≤ left ∧ ∀ x ∈ xs, (x.length : Int) ≤ left) := by
  unfold laws_szIntSS
  rw [tLen_n, wrap_ok (by omega) (by omega)]
  by_cases h : (xs.length : Int) ≤ left
  · rw [ilt_f (by omega), br_f]
    have := szIntSS_l0_eq N (fun x => some ((x, ()), ())) (fun left1 => some ((left1, ()), ())) xs hxs (by omega) xs.length 0 (left - xs.length) N (by omega) (by omega) (by omega) (by omega)
    simp only [Int.natCast_zero, List.drop_zero] at this
    rw [this]
    by_cases hs : 0 ≤ szL xs (left - xs.length)
    · rw [if_pos hs]
      obtain ⟨h1, h2⟩ := szL_le xs _ (by omega) hs
      exact ⟨_, rfl, fun _ => ⟨by omega, h, fun x hx => by have := h2 x hx; omega⟩⟩
    · rw [if_neg hs]
      exact ⟨_, rfl, fun h => by omega⟩
  · rw [ilt_t (by omega), br_t]
    exact ⟨_, rfl, fun h => by omega⟩
theorem szFormula_eq {N : Nat} {f : Int × List (List Int)} (hx : f.2.length ≤ 9223372036854775807) (hxs : ∀ x ∈ f.2, x.length ≤ 9223372036854775807) (hN : 1048577 ≤ N) :
    ∃ r : Int, laws_szFormula N f 1048576 = some ((r, ()), ()) ∧ (0 ≤ r → f.2.length ≤ 1048576 ∧ ∀ x ∈ f.2, x.length ≤ 1048576) := by
  obtain ⟨r, h1, h2⟩ := szIntSS_eq (left := 1048576) (by omega) hx hxs hN
  unfold laws_szFormula
  simp only [h1, bind_some']
  by_cases h : 0 ≤ r
  · rw [ilt_f (by omega), br_f]
    obtain ⟨_, h3, h4⟩ := h2 h
    exact ⟨r, rfl, fun _ => ⟨by omega, fun x hx => by have := h4 x hx; omega⟩⟩
  · rw [ilt_t (by omega), br_t]
    exact ⟨-1, rfl, fun h => by omega⟩
theorem toIntSS_l0_eq {R : Type} (N : Nat) (k0 : List (List Int) → Option R) (xs : List (List Int)) (hx : xs.length ≤ 1048576) (hxs : ∀ x ∈ xs, x.length ≤ 1048576) (hN : 1048577 ≤ N) : ∀ (d n : Nat) (o : List (List Int)) (K : Nat), n + d = xs.length → d < K → o.length = xs.length →
    laws_toIntSS_l0 N k0 K xs n o = k0 (o.take n ++ xs.drop n) := by
  intro d
  induction d with
  | zero =>
    intro n o K hd hK ho
    obtain ⟨k, rfl⟩ := succ_of hK
    have hn : ¬ n < xs.length := by omega
    simp only [laws_toIntSS_l0, ilt_lenf hn, br_f]
    rw [List.take_of_length_le (by omega), List.drop_of_length_le (by omega), List.append_nil]
  | succ d ih =>
    intro n o K hd hK ho
    obtain ⟨k, rfl⟩ := succ_of hK
    have hn : n < xs.length := by omega
    have hno : n < o.length := by omega
    simp only [laws_toIntSS_l0, ilt_len hn, inb_n hn, inb_n hno, br_t, chk_t]
    rw [rdL_n hn, toIntS_eq (hxs _ (List.getElem_mem hn)) hN, bind_some', wrap_succ (by omega), tSet_n, ih (n + 1) _ k (by omega) (by omega) (by simpa using ho)]
    congr 1
    rw [drop_cons hn, List.take_add_one, List.getElem?_set_self (by omega), List.take_set_of_le (Nat.le_refl n)]
    simp
theorem toIntSS_eq {N : Nat} {xs : List (List Int)} (hx : xs.length ≤ 1048576) (hxs : ∀ x ∈ xs, x.length ≤ 1048576) (hN : 1048577 ≤ N) : laws_toIntSS N xs = some ((xs, ()), ()) := by
  unfold laws_toIntSS
  simp only [tLen_n, ile_t (show (0 : Int) ≤ (xs.length : Int) by omega), ile_t (Int.le_refl _), fits_ok (show xs.length ≤ 1099511627776 by omega), Bool.and_self, chk_t]
  have := toIntSS_l0_eq N (fun o => some ((o, ()), ())) xs hx hxs hN xs.length 0 (tRep (xs.length : Int) []) N (by omega) (by omega) (by simp [tRep])
  simp only [Int.natCast_zero, List.take_zero, List.drop_zero, List.nil_append] at this
  exact this
theorem toFormula_eq {N : Nat} {f : Int × List (List Int)} (hx : f.2.length ≤ 1048576) (hxs : ∀ x ∈ f.2, x.length ≤ 1048576) (hN : 1048577 ≤ N) : laws_toFormula N f = some ((f, ()), ()) := by
  unfold laws_toFormula
  rw [toIntSS_eq hx hxs hN, bind_some']
theorem eqIntSS_l0_eq {R : Type} (N : Nat) (k0 : Bool → Option R) (k1 : Unit → Option R) (a b : List (List Int)) (hx : a.length ≤ 1099511627776) (hxs : ∀ x ∈ a, x.length ≤ 1048576) (hN : 1048577 ≤ N) (hl : a.length = b.length) : ∀ (d n : Nat) (K : Nat), n + d = a.length → d < K →
    laws_eqIntSS_l0 N k0 k1 K a b n = if a.drop n = b.drop n then k1 () else k0 false := by
  intro d
  induction d with
  | zero =>
    intro n K hd hK
    obtain ⟨k, rfl⟩ := succ_of hK
    have hn : ¬ n < a.length := by omega
    simp only [laws_eqIntSS_l0, ilt_lenf hn, br_f]
    rw [if_pos]
    rw [List.drop_of_length_le (by omega), List.drop_of_length_le (by omega)]
  | succ d ih =>
    intro n K hd hK
    obtain ⟨k, rfl⟩ := succ_of hK
    have hn : n < a.length := by omega
    have hnb : n < b.length := by omega
    simp only [laws_eqIntSS_l0, ilt_len hn, inb_n hn, inb_n hnb, br_t, chk_t]
    have ha := hxs _ (List.getElem_mem hn)
    rw [wrap_succ (by omega), rdL_n hn, rdL_n hnb, eqIntS_eq (by omega) (by omega), bind_some', ih (n + 1) k (by omega) (by omega), drop_cons hn, drop_cons hnb, br_ite]
    by_cases he : a[n] = b[n]
    · rw [he, if_neg (by simp)]
      simp only [List.cons.injEq, true_and]
    · rw [if_pos (by simp [he]), if_neg]
      intro h
      injection h with h _
      exact he h
theorem eqIntSS_eq {N : Nat} {a b : List (List Int)} (hx : a.length ≤ 1048576) (hxs : ∀ x ∈ a, x.length ≤ 1048576) (hN : 1048577 ≤ N) : laws_eqIntSS N a b = some ((decide (a = b), ()), ()) := by
  unfold laws_eqIntSS
  simp only [tLen_n]
  by_cases hl : a.length = b.length
  · rw [ine_f (by omega), br_f]
    have := eqIntSS_l0_eq N (fun x => some ((x, ()), ())) (fun _ => some ((true, ()), ())) a b (by omega) hxs hN hl a.length 0 N (by omega) (by omega)
    simp only [Int.natCast_zero, List.drop_zero] at this
    rw [this]
    by_cases h : a = b <;> simp [h]
  · rw [ine_t (by omega), br_t]
    have : a ≠ b := fun h => hl (by rw [h])
    simp [this]
theorem eqFormula_eq {N : Nat} {a b : Int × List (List Int)} (hx : a.2.length ≤ 1048576) (hxs : ∀ x ∈ a.2, x.length ≤ 1048576) (hN : 1048577 ≤ N) : laws_eqFormula N a b = some ((decide (a = b), ()), ()) := by
  obtain ⟨a1, a2⟩ := a
  obtain ⟨b1, b2⟩ := b
  unfold laws_eqFormula
  by_cases h1 : a1 = b1
  · rw [ine_f h1, br_f, eqIntSS_eq hx hxs hN, bind_some', br_ite]
    by_cases h2 : a2 = b2 <;> simp [h1, h2]
  · rw [ine_t h1, br_t]
    simp [h1]
theorem l1In_eq (N : Nat) (x a b : Int) : spec_l1In N x a b = some ((decide (a ≤ x ∧ x ≤ b), ()), ()) := by
  unfold spec_l1In
  rw [br_ite, ile_d, ile_d]
  by_cases h : a ≤ x <;> by_cases h' : x ≤ b <;> simp [h, h']
theorem between_eq (N : Nat) (n low high : Int) : impl_between N n low high = some ((decide (low ≤ n ∧ n ≤ high), ()), ()) := by
  unfold impl_between
  rw [br_ite, ile_d, ile_d]
  by_cases h : low ≤ n <;> by_cases h' : n ≤ high <;> simp [h, h']
def litOk (v : Int) (c : List Int) (k : Nat) : Prop := rdI c k ≠ 0 ∧ -v ≤ rdI c k ∧ rdI c k ≤ v ∧ (0 < k → rdI c ((k - 1 : Nat) : Int) < rdI c k)
def clauseOk (v : Int) (c : List Int) : Prop := ∀ k, k < c.length → litOk v c k
def goodF (f : Int × List (List Int)) : Prop := (0 ≤ f.1 ∧ f.1 ≤ 6) ∧ f.2.length ≤ 64 ∧ ∀ i, i < f.2.length → clauseOk f.1 (rdL f.2 i)
theorem spec_l6Literal_eq (N : Nat) {v : Int} (hv : 0 ≤ v ∧ v ≤ 6) (x : Int) : spec_l6Literal N v x = some ((decide (x ≠ 0 ∧ -v ≤ x ∧ x ≤ v), ()), ()) := by
  unfold spec_l6Literal
  rw [wrap_ok (by omega) (by omega), l1In_eq, bind_some', br_ite, ine_d]
  have e : (0 : Int) - v = -v := by omega
  rw [e]
  by_cases h : x = 0 <;> simp [h]
theorem l6Good_in_eq {R : Type} {N : Nat} (k0 : Bool → Option R) (k1 : Int → Int → List (List Int) → Option R) {v : Int} (hv : 0 ≤ v ∧ v ≤ 6) {cs : List (List Int)} {i : Nat} (hi : i < cs.length) (hc : (rdL cs i).length ≤ 1048576) (hN : 1048577 ≤ N) :
    spec_l6Good_l0_0 N k0 k1 N i 0 v cs = if clauseOk v (rdL cs i) then k1 i v cs else k0 false := by
  refine loop_all_if (K := N) (L := fun K k => spec_l6Good_l0_0 N k0 k1 K i k v cs) (m := (rdL cs i).length) (P := clauseOk v (rdL cs i)) (litOk v (rdL cs i)) Iff.rfl (fun K n hn => ?_) (fun K n hn hp => ?_) (fun K n hn hp => ?_) (by omega)
  · simp only [spec_l6Good_l0_0, inb_n hi, chk_t, ilt_lenf hn, br_f]
  · obtain ⟨h1, h2, h3, h4⟩ := hp
    simp only [spec_l6Good_l0_0, inb_n hi, chk_t, ilt_len hn, br_t, inb_n hn, spec_l6Literal_eq N hv, bind_some']
    rw [br_ite, if_neg (by simp [h1, h2, h3])]
    by_cases h0 : 0 < n
    · rw [ilt_0 h0, br_t, wrap_pred (by omega) h0, inb_n (by omega), chk_t, ile_f (by have := h4 h0; omega), br_f, wrap_succ (by omega)]
    · rw [ilt_0n h0, br_f, wrap_succ (by omega)]
  · simp only [spec_l6Good_l0_0, inb_n hi, chk_t, ilt_len hn, br_t, inb_n hn, spec_l6Literal_eq N hv, bind_some']
    by_cases h : rdI (rdL cs i) n ≠ 0 ∧ -v ≤ rdI (rdL cs i) n ∧ rdI (rdL cs i) n ≤ v
    · rw [br_ite, if_neg (by simp [h])]
      have h0 : 0 < n := by
        rcases Nat.eq_zero_or_pos n with h0 | h0
        · exact absurd ⟨h.1, h.2.1, h.2.2, fun h' => by omega⟩ hp
        · exact h0
      have h4 : ¬ rdI (rdL cs i) ((n - 1 : Nat) : Int) < rdI (rdL cs i) n := fun h' => hp ⟨h.1, h.2.1, h.2.2, fun _ => h'⟩
      rw [ilt_0 h0, br_t, wrap_pred (by omega) h0, inb_n (by omega), chk_t, ile_t (by omega), br_t]
    · rw [br_ite, if_pos (by simp only [Bool.not_eq_true', decide_eq_false_iff_not]; exact h)]
theorem spec_l6Good_eq {N : Nat} {f : Int × List (List Int)} (hl : f.2.length ≤ 1048576) (hc : ∀ c ∈ f.2, c.length ≤ 1048576) (hN : 1048577 ≤ N) : spec_l6Good N f = some ((decide (goodF f), ()), ()) := by
  obtain ⟨v, cs⟩ := f
  unfold spec_l6Good
  rw [l1In_eq, bind_some', br_ite]
  by_cases hv : 0 ≤ v ∧ v ≤ 6
  · rw [if_neg (by simp [hv]), tLen_n]
    by_cases h64 : cs.length ≤ 64
    · rw [ilt_f (show ¬ (64 : Int) < cs.length by omega), br_f]
      have := loop_all_if (L := fun K i => spec_l6Good_l0 N (fun x => some ((x, ()), ())) (fun (_ : Unit) => some ((true, ()), ())) K i v cs) (m := cs.length) (P := ∀ i, i < cs.length → clauseOk v (rdL cs i)) (fun i => clauseOk v (rdL cs i)) Iff.rfl (kt := some ((true, ()), ())) (kf := some ((false, ()), ())) (fun K n hn => ?_) (fun K n hn hp => ?_) (fun K n hn hp => ?_) (show cs.length < N by omega)
      · rw [show ((0 : Nat) : Int) = 0 from rfl] at this
        rw [this]
        by_cases h : ∀ i, i < cs.length → clauseOk v (rdL cs i)
        · rw [if_pos h, decide_eq_true (show goodF (v, cs) from ⟨hv, h64, h⟩)]
        · rw [if_neg h, decide_eq_false (show ¬ goodF (v, cs) from fun h' => h h'.2.2)]
      · simp only [spec_l6Good_l0, ilt_lenf hn, br_f]
      · simp only [spec_l6Good_l0, ilt_len hn, br_t]
        rw [l6Good_in_eq _ _ hv hn (rdL_len hc _) hN, if_pos hp, wrap_succ (by omega)]
      · simp only [spec_l6Good_l0, ilt_len hn, br_t]
        rw [l6Good_in_eq _ _ hv hn (rdL_len hc _) hN, if_neg hp]
    · rw [ilt_t (show (64 : Int) < cs.length by omega), br_t, decide_eq_false (show ¬ goodF (v, cs) from fun h => h64 h.2.1)]
  · rw [if_pos (by simp only [Bool.not_eq_true', decide_eq_false_iff_not]; exact hv), decide_eq_false (show ¬ goodF (v, cs) from fun h => hv h.1)]
theorem IsFormula_in_eq {R : Type} {N : Nat} (k0 : Bool → Option R) (k1 : List (List Int) → Int → Int → Int → List (List Int) → Option R) {v : Int} (hv : 0 ≤ v ∧ v ≤ 6) {c : List Int} {x3 : List (List Int)} {x4 x5 : Int} {cs : List (List Int)} (hc : c.length ≤ 1048576) (hN : 1048577 ≤ N) :
    impl_IsFormula_l0_0 N k0 k1 N c x3 x4 x5 c (c.length : Int) 0 v cs = if clauseOk v c then k1 x3 x4 x5 v cs else k0 false := by
  refine loop_all_if (K := N) (L := fun K k => impl_IsFormula_l0_0 N k0 k1 K c x3 x4 x5 c (c.length : Int) k v cs) (m := c.length) (P := clauseOk v c) (litOk v c) Iff.rfl (fun K n hn => ?_) (fun K n hn hp => ?_) (fun K n hn hp => ?_) (by omega)
  · simp only [impl_IsFormula_l0_0, ilt_nf hn, br_f]
  · obtain ⟨h1, h2, h3, h4⟩ := hp
    simp only [impl_IsFormula_l0_0, ilt_n hn, br_t, inb_n hn, chk_t, between_eq, bind_some', wrap_ok (show -9223372036854775808 ≤ 0 - v by omega) (show 0 - v < 9223372036854775808 by omega)]
    rw [ieq_f h1, br_f, br_ite, if_neg (by simp; omega)]
    by_cases h0 : 0 < n
    · rw [ilt_0 h0, br_t, wrap_pred (by omega) h0, inb_n (by omega), chk_t, ile_f (by have := h4 h0; omega), br_f, wrap_succ (by omega)]
    · rw [ilt_0n h0, br_f, wrap_succ (by omega)]
  · simp only [impl_IsFormula_l0_0, ilt_n hn, br_t, inb_n hn, chk_t, between_eq, bind_some', wrap_ok (show -9223372036854775808 ≤ 0 - v by omega) (show 0 - v < 9223372036854775808 by omega)]
    by_cases hz : rdI c n = 0
    · rw [ieq_t hz, br_t]
    · rw [ieq_f hz, br_f, br_ite]
      by_cases h : -v ≤ rdI c n ∧ rdI c n ≤ v
      · rw [if_neg (by simp; omega)]
        have h0 : 0 < n := by
          rcases Nat.eq_zero_or_pos n with h0 | h0
          · exact absurd ⟨hz, h.1, h.2, fun h' => by omega⟩ hp
          · exact h0
        have h4 : ¬ rdI c ((n - 1 : Nat) : Int) < rdI c n := fun h' => hp ⟨hz, h.1, h.2, fun _ => h'⟩
        rw [ilt_0 h0, br_t, wrap_pred (by omega) h0, inb_n (by omega), chk_t, ile_t (by omega), br_t]
      · rw [if_pos (by simp only [Bool.not_eq_true', decide_eq_false_iff_not]; omega)]
theorem impl_IsFormula_eq {N : Nat} {f : Int × List (List Int)} (hl : f.2.length ≤ 1048576) (hc : ∀ c ∈ f.2, c.length ≤ 1048576) (hN : 1048577 ≤ N) : impl_IsFormula N f = some ((decide (goodF f), ()), ()) := by
  obtain ⟨v, cs⟩ := f
  unfold impl_IsFormula
  rw [between_eq, bind_some', br_ite]
  by_cases hv : 0 ≤ v ∧ v ≤ 6
  · rw [if_neg (by simp [hv]), tLen_n]
    by_cases h64 : cs.length ≤ 64
    · rw [ilt_f (show ¬ (64 : Int) < cs.length by omega), br_f]
      have := loop_all_if (L := fun K i => impl_IsFormula_l0 N (fun x => some ((x, ()), ())) (fun (_ : Unit) => some ((true, ()), ())) K cs (cs.length : Int) i v cs) (m := cs.length) (P := ∀ i, i < cs.length → clauseOk v (rdL cs i)) (fun i => clauseOk v (rdL cs i)) Iff.rfl (kt := some ((true, ()), ())) (kf := some ((false, ()), ())) (fun K n hn => ?_) (fun K n hn hp => ?_) (fun K n hn hp => ?_) (show cs.length < N by omega)
      · rw [show ((0 : Nat) : Int) = 0 from rfl] at this
        rw [this]
        by_cases h : ∀ i, i < cs.length → clauseOk v (rdL cs i)
        · rw [if_pos h, decide_eq_true (show goodF (v, cs) from ⟨hv, h64, h⟩)]
        · rw [if_neg h, decide_eq_false (show ¬ goodF (v, cs) from fun h' => h h'.2.2)]
      · simp only [impl_IsFormula_l0, ilt_nf hn, br_f]
      · simp only [impl_IsFormula_l0, ilt_n hn, br_t, inb_n hn, chk_t, tLen_n]
        rw [IsFormula_in_eq _ _ hv (rdL_len hc _) hN, if_pos hp, wrap_succ (by omega)]
      · simp only [impl_IsFormula_l0, ilt_n hn, br_t, inb_n hn, chk_t, tLen_n]
        rw [IsFormula_in_eq _ _ hv (rdL_len hc _) hN, if_neg hp]
    · rw [ilt_t (show (64 : Int) < cs.length by omega), br_t, decide_eq_false (show ¬ goodF (v, cs) from fun h => h64 h.2.1)]
  · rw [if_pos (by simp only [Bool.not_eq_true', decide_eq_false_iff_not]; exact hv), decide_eq_false (show ¬ goodF (v, cs) from fun h => hv h.1)]
def iotaI : Int → Nat → List Int
  | _, 0 => []
  | k, n + 1 => k :: iotaI (k + 1) n
def iotaL : Int → List (List Int) → List (List Int)
  | _, [] => []
  | k, x :: xs => iotaI k x.length :: iotaL (k + x.length) xs
def sumL : List (List Int) → Int
  | [] => 0
  | x :: xs => x.length + sumL xs
theorem sumL_cons (x : List Int) (xs : List (List Int)) : sumL (x :: xs) = x.length + sumL xs := rfl
theorem iotaI_len : ∀ (n : Nat) (k : Int), (iotaI k n).length = n := by
  intro n
  induction n with
  | zero => intro k; rfl
  | succ n ih => intro k; unfold iotaI; rw [List.length_cons, ih]
theorem sumL_le {xs : List (List Int)} (h : ∀ x ∈ xs, x.length ≤ 1048576) : 0 ≤ sumL xs ∧ sumL xs ≤ 1048576 * (xs.length : Int) := by
  induction xs with
  | nil => exact ⟨Int.le_refl _, Int.le_refl _⟩
  | cons x xs ih =>
    obtain ⟨h1, h2⟩ := ih fun y hy => h y (List.mem_cons_of_mem _ hy)
    have := h x (List.mem_cons_self ..)
    unfold sumL
    rw [List.length_cons]
    omega
theorem markIntS_eq {N : Nat} {a : List Int} {k : Int} (hk : 0 ≤ k ∧ k ≤ 2305843009213693952) (ha : a.length ≤ 1048576) (hN : 1048577 ≤ N) : laws_markIntS N a k = some ((k + a.length, ()), (iotaI k a.length, ())) := by
  have go : ∀ (d n : Nat) (o : List Int) (K : Nat) (kv : Int), n + d = o.length → o.length ≤ 1048576 → d < K → 0 ≤ kv → kv + d ≤ 4611686018427387904 →
      laws_markIntS_l0 N (fun kv1 o => some ((kv1, ()), (o, ()))) K kv n o = some ((kv + d, ()), (o.take n ++ iotaI kv d, ())) := by
    intro d
    induction d with
    | zero =>
      intro n o K kv hd ho hK h0 h1
      obtain ⟨k, rfl⟩ := succ_of hK
      have hn : ¬ n < o.length := by omega
      simp only [laws_markIntS_l0, ilt_lenf hn, br_f, iotaI, List.append_nil]
      rw [List.take_of_length_le (by omega)]
      simp
    | succ d ih =>
      intro n o K kv hd ho hK h0 h1
      obtain ⟨k, rfl⟩ := succ_of hK
      have hn : n < o.length := by omega
      simp only [laws_markIntS_l0, ilt_len hn, br_t, inb_n hn, chk_t]
      rw [wrap_succ (by omega), wrap_ok (by omega) (by omega), tSet_n, ih (n + 1) _ k _ (by simp; omega) (by simpa using ho) (by omega) (by omega) (by omega)]
      congr 2
      · congr 1
        omega
      · rw [List.take_add_one, List.getElem?_set_self (by omega), List.take_set_of_le (Nat.le_refl n)]
        simp [iotaI]
  unfold laws_markIntS
  have := go a.length 0 a N k (by omega) ha (by omega) hk.1 (by omega)
  simpa using this
theorem heldIntS_eq {N : Nat} {n : Nat} {k : Int} (hk : 0 ≤ k ∧ k ≤ 2305843009213693952) (ha : n ≤ 1048576) (hN : 1048577 ≤ N) : laws_heldIntS N (iotaI k n) k = some ((k + n, ()), ()) := by
  have go : ∀ (d n : Nat) (xs : List Int) (K : Nat) (kv : Int), n + d = xs.length → xs.length ≤ 1048576 → d < K → 0 ≤ kv → kv + d ≤ 4611686018427387904 → xs.drop n = iotaI kv d →
      laws_heldIntS_l0 N (fun x => some ((x, ()), ())) (fun kv1 => some ((kv1, ()), ())) K xs kv n = some ((kv + d, ()), ()) := by
    intro d
    induction d with
    | zero =>
      intro n xs K kv hd ho hK h0 h1 e
      obtain ⟨k, rfl⟩ := succ_of hK
      have hn : ¬ n < xs.length := by omega
      simp only [laws_heldIntS_l0, ilt_lenf hn, br_f]
      simp
    | succ d ih =>
      intro n xs K kv hd ho hK h0 h1 e
      obtain ⟨k, rfl⟩ := succ_of hK
      have hn : n < xs.length := by omega
      rw [drop_cons hn] at e
      injection e with e1 e2
      simp only [laws_heldIntS_l0, ilt_len hn, br_t, inb_n hn, chk_t]
      rw [rdI_n hn, ine_f e1, br_f, wrap_succ (by omega), wrap_ok (by omega) (by omega), ih (n + 1) _ k _ (by omega) ho (by omega) (by omega) (by omega) e2]
      congr 3
      omega
  unfold laws_heldIntS
  have hl := iotaI_len n k
  have := go n 0 (iotaI k n) N k (by omega) (by omega) (by omega) hk.1 (by omega) rfl
  simpa using this
theorem markIntSS_eq {N : Nat} {a : List (List Int)} {k : Int} (hk : 0 ≤ k ∧ k ≤ 1152921504606846976) (ha : a.length ≤ 1048576) (has : ∀ x ∈ a, x.length ≤ 1048576) (hN : 1048577 ≤ N) : laws_markIntSS N a k = some ((k + sumL a, ()), (iotaL k a, ())) := by
  have go : ∀ (d n : Nat) (o : List (List Int)) (K : Nat) (kv : Int), n + d = o.length → o.length ≤ 1048576 → (∀ x ∈ o.drop n, x.length ≤ 1048576) → d < K → 0 ≤ kv → kv + 1048576 * d ≤ 2305843009213693952 →
      laws_markIntSS_l0 N (fun kv1 o => some ((kv1, ()), (o, ()))) K kv n o = some ((kv + sumL (o.drop n), ()), (o.take n ++ iotaL kv (o.drop n), ())) := by
    intro d
    induction d with
    | zero =>
      intro n o K kv hd ho hos hK h0 h1
      obtain ⟨k, rfl⟩ := succ_of hK
      have hn : ¬ n < o.length := by omega
      simp only [laws_markIntSS_l0, ilt_lenf hn, br_f]
      rw [List.take_of_length_le (by omega), List.drop_of_length_le (by omega)]
      simp [sumL, iotaL]
    | succ d ih =>
      intro n o K kv hd ho hos hK h0 h1
      obtain ⟨k, rfl⟩ := succ_of hK
      have hn : n < o.length := by omega
      rw [drop_cons hn] at hos ⊢
      have hl := hos _ (List.mem_cons_self ..)
      simp only [laws_markIntSS_l0, ilt_len hn, br_t, inb_n hn, chk_t]
      have e : (o.set n (iotaI kv o[n].length)).drop (n + 1) = o.drop (n + 1) := by rw [List.drop_set_of_lt (by omega)]
      rw [rdL_n hn, markIntS_eq ⟨h0, by omega⟩ hl hN]
      simp only [bind_some']
      rw [wrap_succ (by omega), tSet_n, ih (n + 1) _ k _ (by simp; omega) (by simpa using ho) (by rw [e]; exact fun x hx => hos x (List.mem_cons_of_mem _ hx)) (by omega) (by omega) (by omega), e]
      congr 2
      · congr 1
        rw [sumL_cons]
        omega
      · rw [List.take_add_one, List.getElem?_set_self (by omega), List.take_set_of_le (Nat.le_refl n)]
        simp [iotaL]
  unfold laws_markIntSS
  have := go a.length 0 a N k (by omega) ha (by simpa using has) (by omega) hk.1 (by omega)
  simpa using this
theorem heldIntSS_eq {N : Nat} {a : List (List Int)} {k : Int} (hk : 0 ≤ k ∧ k ≤ 1152921504606846976) (ha : a.length ≤ 1048576) (has : ∀ x ∈ a, x.length ≤ 1048576) (hN : 1048577 ≤ N) : laws_heldIntSS N (iotaL k a) k = some ((k + sumL a, ()), ()) := by
  have go : ∀ (b : List (List Int)) (n : Nat) (xs : List (List Int)) (K : Nat) (kv : Int), n + b.length = xs.length → xs.length ≤ 1048576 → (∀ x ∈ b, x.length ≤ 1048576) → b.length < K → 0 ≤ kv → kv + 1048576 * b.length ≤ 2305843009213693952 → xs.drop n = iotaL kv b →
      laws_heldIntSS_l0 N (fun x => some ((x, ()), ())) (fun kv1 => some ((kv1, ()), ())) K xs kv n = some ((kv + sumL b, ()), ()) := by
    intro b
    induction b with
    | nil =>
      intro n xs K kv hd ho hos hK h0 h1 e
      obtain ⟨k, rfl⟩ := succ_of hK
      have hn : ¬ n < xs.length := by simp at hd; omega
      simp only [laws_heldIntSS_l0, ilt_lenf hn, br_f]
      simp [sumL]
    | cons y b ih =>
      intro n xs K kv hd ho hos hK h0 h1 e
      obtain ⟨k, rfl⟩ := succ_of hK
      rw [List.length_cons] at hd hK h1
      have hn : n < xs.length := by omega
      rw [drop_cons hn] at e
      injection e with e1 e2
      have hl := hos _ (List.mem_cons_self ..)
      simp only [laws_heldIntSS_l0, ilt_len hn, br_t, inb_n hn, chk_t]
      rw [rdL_n hn, e1, heldIntS_eq ⟨h0, by omega⟩ hl hN]
      simp only [bind_some']
      rw [ilt_f (by omega), br_f, wrap_succ (by omega), ih (n + 1) _ k _ (by omega) ho (fun x hx => hos x (List.mem_cons_of_mem _ hx)) (by omega) (by omega) (by omega) e2]
      congr 3
      rw [sumL_cons]
      omega
  have len : ∀ (a : List (List Int)) (k : Int), (iotaL k a).length = a.length := by
    intro a
    induction a with
    | nil => intro k; rfl
    | cons x a ih => intro k; unfold iotaL; rw [List.length_cons, ih, List.length_cons]
  unfold laws_heldIntSS
  have hl := len a k
  have := go a 0 (iotaL k a) N k (by omega) (by omega) has (by omega) hk.1 (by omega) rfl
  simpa using this
theorem markFormula_eq {N : Nat} {a : Int × List (List Int)} {k : Int} (hk : 0 ≤ k ∧ k ≤ 1152921504606846976) (ha : a.2.length ≤ 1048576) (has : ∀ x ∈ a.2, x.length ≤ 1048576) (hN : 1048577 ≤ N) : laws_markFormula N a k = some ((k + sumL a.2, ()), ((a.1, iotaL k a.2), ())) := by
  unfold laws_markFormula
  simp only [markIntSS_eq hk ha has hN, bind_some']
theorem heldFormula_eq {N : Nat} {v : Int} {a : List (List Int)} {k : Int} (hk : 0 ≤ k ∧ k ≤ 1152921504606846976) (ha : a.length ≤ 1048576) (has : ∀ x ∈ a, x.length ≤ 1048576) (hN : 1048577 ≤ N) : laws_heldFormula N (v, iotaL k a) k = some ((k + sumL a, ()), ()) := by
  unfold laws_heldFormula
  have := sumL_le has
  simp only [heldIntSS_eq hk ha has hN, bind_some']
  rw [ilt_f (by omega), br_f]
theorem foldl_snoc {α : Type} : ∀ (xs o : List α), xs.foldl (fun o x => o ++ [x]) o = o ++ xs := by
  intro xs
  induction xs with
  | nil => intro o; simp
  | cons x xs ih => intro o; rw [List.foldl_cons, ih]; simp
theorem l1Own_eq {N : Nat} {xs : List Int} (h : xs.length ≤ 1048576) : spec_l1Own N xs = some ((xs, ()), ()) := by
  unfold spec_l1Own
  rw [room_ok (by simp; omega), chk_t]
  rfl
theorem Clone_eq {N : Nat} {xs : List Int} (h : xs.length ≤ 1048576) : slices_Clone_LI_int N xs = some ((xs, ()), ()) := by
  unfold slices_Clone_LI_int
  rw [room_ok (by simp; omega), chk_t, br_ite, ieq_d, tLen_n]
  by_cases h0 : xs = []
  · subst h0
    simp only [tApp_d, List.append_nil, amb_same]
    simp
  · rw [if_neg (by simpa using h0)]
    rfl
theorem copyLists_eq {N : Nat} {xs : List (List Int)} (h : xs.length ≤ 1048576) (hs : ∀ x ∈ xs, x.length ≤ 1048576) (hN : 1048577 ≤ N) : impl_copyLists N xs = some ((xs, ()), ()) := by
  unfold impl_copyLists
  refine (loop_list (xs := xs) (L := fun K n o => impl_copyLists_l0 N (fun o => some ((o, ()), ())) K xs (xs.length : Int) n o) (k := fun o => some ((o, ()), ())) (fun o x => o ++ [x]) (fun n o => o.length = n) (fun K n s hn _ => ?_) (fun K n s hn hs' => ?_) (fun n s hn h => ?_) (s := []) (K := N) (by omega) rfl).1.trans ?_
  · simp only [impl_copyLists_l0, ilt_nf hn, br_f]
  · simp only [impl_copyLists_l0, ilt_n hn, br_t, inb_n hn, chk_t]
    rw [rdL_n hn, Clone_eq (hs _ (List.getElem_mem hn)), bind_some', room_ok (by simp; omega), chk_t, wrap_succ (by omega)]
    rfl
  · simp; omega
  · rw [foldl_snoc, List.nil_append]
def fixOk (f : Int × List (List Int)) (v bit : Int) : Prop := goodF f ∧ (0 ≤ v ∧ v ≤ f.1 - 1) ∧ (0 ≤ bit ∧ bit ≤ 1) ∧ f.2.length ≠ 64
noncomputable def fixR (f : Int × List (List Int)) (v bit : Int) : (Int × List (List Int)) × Bool := if fixOk f v bit then ((f.1, f.2 ++ [[if bit = 1 then v + 1 else -1 - v]]), true) else ((0, []), false)
theorem spec_FixVar_eq {N : Nat} {f : Int × List (List Int)} {v bit : Int} (hl : f.2.length ≤ 1048576) (hc : ∀ c ∈ f.2, c.length ≤ 1048576) (hN : 1048577 ≤ N) : spec_FixVar N f v bit = some (((fixR f v bit).1, (fixR f v bit).2, ()), ()) := by
  obtain ⟨m, cs⟩ := f
  simp only at hl hc
  unfold spec_FixVar fixR
  simp only [spec_l6Good_eq (f := (m, cs)) hl hc hN, bind_some']
  by_cases hg : goodF (m, cs)
  · have hm := hg.1
    simp only at hm
    rw [decide_eq_true hg, Bool.not_true, br_f, wrap_ok (by omega) (by omega)]
    simp only [l1In_eq, bind_some', tLen_n]
    by_cases hv : 0 ≤ v ∧ v ≤ m - 1
    · rw [decide_eq_true hv, Bool.not_true, br_f]
      by_cases hb : 0 ≤ bit ∧ bit ≤ 1
      · rw [decide_eq_true hb, Bool.not_true, br_f]
        by_cases h64 : cs.length = 64
        · rw [ieq_t (by omega), br_t, if_neg (fun h : fixOk (m, cs) v bit => h.2.2.2 h64)]
        · rw [ieq_f (by omega), br_f, if_pos (show fixOk (m, cs) v bit from ⟨hg, hv, hb, h64⟩)]
          refine (loop_list (xs := cs) (L := fun K n o => spec_FixVar_l0 N (fun x x1 o o1 o2 => (br (ieq x1 1)
                  ((chk (room o2 [[(IntKind.i64.wrap (x + 1))]])
                    (some (((o1, (tApp o2 [[(IntKind.i64.wrap (x + 1))]])), true, ()), ()))))
                  ((chk (room o2 [[(IntKind.i64.wrap ((-1) - x))]])
                    (some (((o1, (tApp o2 [[(IntKind.i64.wrap ((-1) - x))]])), true, ()), ())))))) K v bit n m cs 0 m o) (k := fun o => some (((m, o ++ [[if bit = 1 then v + 1 else -1 - v]]), true, ()), ())) (fun o x => o ++ [x]) (fun n o => o.length = n ∧ n ≤ cs.length) (fun K n s hn hs => ?_) (fun K n s hn hs' => ?_) (fun n s hn h => ?_) (s := []) (K := N) (by omega) ⟨rfl, Nat.zero_le _⟩).1.trans ?_
          · simp only [spec_FixVar_l0, ilt_lenf hn, br_f]
            rw [wrap_ok (show -9223372036854775808 ≤ v + 1 by omega) (by omega), wrap_ok (show -9223372036854775808 ≤ -1 - v by omega) (by omega), br_ite, ieq_d]
            by_cases hb1 : bit = 1
            · rw [if_pos (decide_eq_true hb1), if_pos hb1, room_ok (by simp; omega), chk_t]
              rfl
            · rw [if_neg (by simpa using hb1), if_neg hb1, room_ok (by simp; omega), chk_t]
              rfl
          · simp only [spec_FixVar_l0, ilt_len hn, br_t, inb_n hn, chk_t]
            rw [rdL_n hn, l1Own_eq (hc _ (List.getElem_mem hn)), bind_some', room_ok (by simp; omega), chk_t, wrap_succ (by omega)]
            rfl
          · simp; omega
          · simp only [foldl_snoc, List.nil_append]
      · rw [decide_eq_false hb, Bool.not_false, br_t, if_neg (fun h : fixOk (m, cs) v bit => hb h.2.2.1)]
    · rw [decide_eq_false hv, Bool.not_false, br_t, if_neg (fun h : fixOk (m, cs) v bit => hv h.2.1)]
  · rw [decide_eq_false hg, Bool.not_false, br_t, if_neg (fun h : fixOk (m, cs) v bit => hg h.1)]
theorem impl_FixVar_eq {N : Nat} {f : Int × List (List Int)} {v bit : Int} (hl : f.2.length ≤ 1048576) (hc : ∀ c ∈ f.2, c.length ≤ 1048576) (hN : 1048577 ≤ N) : impl_FixVar N f v bit = some (((fixR f v bit).1, (fixR f v bit).2, ()), ()) := by
  obtain ⟨m, cs⟩ := f
  simp only at hl hc
  unfold impl_FixVar fixR
  simp only [impl_IsFormula_eq (f := (m, cs)) hl hc hN, bind_some']
  by_cases hg : goodF (m, cs)
  · have hm := hg.1
    simp only at hm
    rw [decide_eq_true hg, Bool.not_true, br_f, wrap_ok (by omega) (by omega)]
    simp only [between_eq, bind_some', tLen_n]
    by_cases hv : 0 ≤ v ∧ v ≤ m - 1
    · rw [decide_eq_true hv, Bool.not_true, br_f]
      by_cases hb : 0 ≤ bit ∧ bit ≤ 1
      · rw [decide_eq_true hb, Bool.not_true, br_f]
        by_cases h64 : cs.length = 64
        · rw [ieq_t (by omega), br_t, if_neg (fun h : fixOk (m, cs) v bit => h.2.2.2 h64)]
        · rw [ieq_f (by omega), br_f, if_pos (show fixOk (m, cs) v bit from ⟨hg, hv, hb, h64⟩)]
          simp only [copyLists_eq hl hc hN, bind_some']
          rw [wrap_ok (show -9223372036854775808 ≤ v + 1 by omega) (by omega), wrap_ok (show -9223372036854775808 ≤ 0 - (v + 1) by omega) (by omega), br_ite, ieq_d, room_ok (by simp; omega), room_ok (by simp; omega), chk_t, chk_t]
          by_cases hb1 : bit = 1
          · rw [if_neg (by simp; omega), if_pos hb1]
            rfl
          · rw [if_pos (decide_eq_true (by omega)), if_neg hb1, show 0 - (v + 1) = -1 - v by omega]
            rfl
      · rw [decide_eq_false hb, Bool.not_false, br_t, if_neg (fun h : fixOk (m, cs) v bit => hb h.2.2.1)]
    · rw [decide_eq_false hv, Bool.not_false, br_t, if_neg (fun h : fixOk (m, cs) v bit => hv h.2.1)]
  · rw [decide_eq_false hg, Bool.not_false, br_t, if_neg (fun h : fixOk (m, cs) v bit => hg h.1)]
theorem fixR_small {f : Int × List (List Int)} {v bit : Int} (hc : ∀ c ∈ f.2, c.length ≤ 1048576) : (fixR f v bit).1.2.length ≤ 65 ∧ ∀ c ∈ (fixR f v bit).1.2, c.length ≤ 1048576 := by
  unfold fixR
  by_cases h : fixOk f v bit
  · rw [if_pos h]
    have := h.1.2.1
    refine ⟨by simp; omega, fun c h' => ?_⟩
    rcases List.mem_append.1 h' with h' | h'
    · exact hc c h'
    · simp at h'
      rw [h']
      exact Nat.succ_le_succ (Nat.zero_le _)
  · rw [if_neg h]
    exact ⟨by simp, by simp⟩
theorem FixVar_pure {f : Int × List (List Int)} {v bit : Int} (hx : f.2.length ≤ 9223372036854775807) (hxs : ∀ x ∈ f.2, x.length ≤ 9223372036854775807) : laws_FnExactFixVar 1048577 f v bit = some ((true, ()), ()) := by
  unfold laws_FnExactFixVar
  have hN : 1048577 ≤ 1048577 := Nat.le_refl _
  obtain ⟨r, h1, h2⟩ := szFormula_eq hx hxs hN
  simp only [h1, bind_some']
  by_cases h : 0 ≤ r
  · rw [ilt_f (by omega), br_f]
    obtain ⟨h3, h4⟩ := h2 h
    obtain ⟨h5, h6⟩ := fixR_small (v := v) (bit := bit) h4
    have h5' : (fixR f v bit).1.2.length ≤ 1048576 := by omega
    have s1 := sumL_le h4
    have s2 := sumL_le h6
    have k0 : (0 : Int) ≤ 1 ∧ (1 : Int) ≤ 1152921504606846976 := by omega
    simp only [toFormula_eq h3 h4 hN, bind_some', spec_FixVar_eq h3 h4 hN, impl_FixVar_eq h3 h4 hN, eqFormula_eq h3 h4 hN, eqFormula_eq h5' h6 hN, decide_true, Bool.not_true, br_f, markFormula_eq k0 h3 h4 hN, markFormula_eq k0 h5' h6 hN, heldFormula_eq k0 h5' h6 hN, ilt_f (show ¬ 1 + sumL f.2 < 0 by omega), ilt_f (show ¬ 1 + sumL (fixR f v bit).1.2 < 0 by omega), ine_f (rfl : 1 + sumL (fixR f v bit).1.2 = 1 + sumL (fixR f v bit).1.2)]
    simp [br_ite]
  · rw [ilt_t (by omega), br_t]
theorem FixVar_pureT : ∀ x : argsT (psOf [QILLI, I, I]), WfA [QILLI, I, I] x → ∃ k m, (laws_FnExactFixVar_S k).f x = some ((true, ()), m) :=
  fun x h => ⟨1048577, (), FixVar_pure (len_ok h.1.2.1) fun y hy => len_ok (h.1.2.2 y hy).1⟩
end Go.Proofs.Ytbnebekejbhopaa
