/- Statements on data alone. -/
import Derived.Test.YtfbkjgeaoafejaaPvPure
import Derived.Test.YtfbkjgeaoafejaaParitySpaceGa
set_option linter.all false
set_option linter.all false
namespace Go.Proofs.Ytfbkjgeaoafejaa
open Go Go.PV Classical
theorem sum_le {α : Type} {f : α → Nat} {b : Nat} : ∀ {xs : List α}, (∀ x ∈ xs, f x ≤ b) → (xs.map f).sum ≤ xs.length * b := by
  intro xs
  induction xs with
  | nil => intro _; simp
  | cons x xs ih =>
    intro h
    have h1 := h x (List.mem_cons_self ..)
    have h2 := ih fun y hy => h y (List.mem_cons_of_mem _ hy)
    rw [List.map_cons, List.sum_cons, List.length_cons, Nat.add_mul]
    omega
def lexC : List Int → List Int → Int
  | [], [] => 0
  | [], _ :: _ => -1
  | _ :: _, [] => 1
  | x :: a, y :: b => if x < y then -1 else if y < x then 1 else lexC a b
theorem lexC_anti : ∀ (a b : List Int), lexC b a = - lexC a b := by
  intro a
  induction a with
  | nil => intro b; cases b <;> rfl
  | cons x a ih =>
    intro b
    cases b with
    | nil => rfl
    | cons y b =>
      simp only [lexC]
      by_cases h1 : x < y
      · simp [h1, show ¬ y < x by omega]
      · by_cases h2 : y < x
        · simp [h1, h2]
        · simp [h1, h2, ih]
theorem lexC_self (a : List Int) : lexC a a = 0 := by have := lexC_anti a a; omega
theorem Compare_lex {N : Nat} {a b : List Int} (ha : a.length ≤ 1048576) (hb : b.length ≤ 1048576) (hN : 1048577 ≤ N) : slices_Compare_LI_int N a b = some ((lexC a b, ()), ()) := by
  unfold slices_Compare_LI_int
  have go : ∀ (d n K : Nat), n + d = a.length → d < K → n ≤ b.length → lexC a b = lexC (a.drop n) (b.drop n) → slices_Compare_LI_int_l0 N (fun x => some ((x, ()), ())) (fun s11 s21 => (br (ilt (tLen s11) (tLen s21)) (some (((-1), ()), ())) (some ((0, ()), ())))) K a b a (a.length : Int) n = some ((lexC a b, ()), ()) := by
    intro d
    induction d with
    | zero =>
      intro n K hd hK hn h
      obtain ⟨k, rfl⟩ := succ_of hK
      simp only [slices_Compare_LI_int_l0, ilt_nf (show ¬ n < a.length by omega), br_f]
      rw [tLen_n, tLen_n, h, List.drop_of_length_le (show a.length ≤ n by omega)]
      by_cases hlt : a.length < b.length
      · rw [ilt_n hlt, br_t, drop_cons (show n < b.length by omega)]; rfl
      · rw [ilt_nf hlt, br_f, List.drop_of_length_le (show b.length ≤ n by omega)]; rfl
    | succ d ih =>
      intro n K hd hK hn h
      obtain ⟨k, rfl⟩ := succ_of hK
      have hna : n < a.length := by omega
      simp only [slices_Compare_LI_int_l0, ilt_n hna, br_t, inb_n hna, chk_t]
      rw [drop_cons hna] at h
      by_cases hnb : n < b.length
      · rw [tLen_n, ile_f (by omega), br_f, inb_n hnb, chk_t, compare_eq, bind_some', rdI_n hna, rdI_n hnb]
        rw [drop_cons hnb] at h
        simp only [lexC] at h
        simp only []
        by_cases h1 : a[n] < b[n]
        · rw [if_pos h1] at h ⊢
          rw [ine_t (by omega), br_t, h]
        · rw [if_neg h1] at h ⊢
          by_cases h2 : b[n] < a[n]
          · rw [if_pos h2] at h ⊢
            rw [ine_t (by omega), br_t, h]
          · rw [if_neg h2] at h ⊢
            rw [ine_f rfl, br_f, wrap_succ (by omega)]
            exact ih (n + 1) k (by omega) (by omega) (by omega) h
      · rw [tLen_n, ile_t (by omega), br_t, h, List.drop_of_length_le (show b.length ≤ n by omega)]
        rfl
  exact go a.length 0 N (by omega) (by omega) (Nat.zero_le _) rfl
def Srt (xs : List (List Int)) (c : List Int → List Int → Option Int) : Prop := ∀ i j, i ≤ j → j < xs.length → ∃ v, c (rdL xs (j : Int)) (rdL xs (i : Int)) = some v ∧ ¬ v < 0
theorem insertF_eq {N : Nat} {xs : List (List Int)} {c : List Int → List Int → Option Int} (h : Srt xs c) (hx : xs.length ≤ 1048576) (hN : 1048577 ≤ N) : slices_insertionSortCmpFunc_LI N xs 0 (xs.length : Int) c = some ((), ()) := by
  unfold slices_insertionSortCmpFunc_LI
  obtain ⟨k', hk'⟩ : ∃ k', N = k' + 1 := ⟨N - 1, by omega⟩
  have go : ∀ (d i K : Nat), xs.length ≤ i + d → d < K → 1 ≤ i → i ≤ 1048577 → slices_insertionSortCmpFunc_LI_l0 N (fun (_ : Unit) => some ((), ())) K xs 0 (xs.length : Int) c i = some ((), ()) := by
    intro d
    induction d with
    | zero =>
      intro i K hd hK hi hi2
      obtain ⟨k, rfl⟩ := succ_of hK
      simp only [slices_insertionSortCmpFunc_LI_l0, ilt_nf (show ¬ i < xs.length by omega), br_f]
    | succ d ih =>
      intro i K hd hK hi hi2
      obtain ⟨k, rfl⟩ := succ_of hK
      by_cases hin : i < xs.length
      · simp only [slices_insertionSortCmpFunc_LI_l0, ilt_n hin, br_t]
        rw [hk']
        simp only [slices_insertionSortCmpFunc_LI_l0_0]
        rw [← hk', ilt_0 (by omega), br_t, inb_n hin, chk_t, wrap_pred (by omega) (by omega), inb_n (by omega), chk_t]
        obtain ⟨v, h1, h2⟩ := h (i - 1) i (by omega) hin
        rw [h1, bind_some', ilt_f h2, br_f, wrap_succ (by omega)]
        exact ih (i + 1) k (by omega) (by omega) (by omega) (by omega)
      · simp only [slices_insertionSortCmpFunc_LI_l0, ilt_nf hin, br_f]
  have := go xs.length 1 N (by omega) (by omega) (Nat.le_refl 1) (by omega)
  exact this
theorem order2_eq {N : Nat} {xs : List (List Int)} {c : List Int → List Int → Option Int} (h : Srt xs c) {a b : Nat} (hab : a ≤ b) (hb : b < xs.length) (s : Int) : slices_order2CmpFunc_LI N xs (a : Int) (b : Int) s c = some (((a : Int), (b : Int), ()), (s, ())) := by
  unfold slices_order2CmpFunc_LI
  obtain ⟨v, h1, h2⟩ := h a b hab hb
  rw [inb_n hb, chk_t, inb_n (by omega), chk_t, h1, bind_some', ilt_f h2, br_f]
theorem medianF_eq {N : Nat} {xs : List (List Int)} {c : List Int → List Int → Option Int} (h : Srt xs c) {a b d : Nat} (hab : a ≤ b) (hbd : b ≤ d) (hd : d < xs.length) (s : Int) : slices_medianCmpFunc_LI N xs (a : Int) (b : Int) (d : Int) s c = some (((b : Int), ()), (s, ())) := by
  unfold slices_medianCmpFunc_LI
  rw [order2_eq h hab (by omega), bind_some']
  simp only []
  rw [order2_eq h hbd hd, bind_some']
  simp only []
  rw [order2_eq h hab (by omega), bind_some']
theorem medianAdj_eq {N : Nat} {xs : List (List Int)} {c : List Int → List Int → Option Int} (h : Srt xs c) {a : Nat} (ha : 1 ≤ a) (hd : a + 1 < xs.length) (hx : xs.length ≤ 1048576) (s : Int) : slices_medianAdjacentCmpFunc_LI N xs (a : Int) s c = some (((a : Int), ()), (s, ())) := by
  unfold slices_medianAdjacentCmpFunc_LI
  rw [wrap_pred (by omega) (by omega), wrap_succ (by omega), medianF_eq h (by omega) (by omega) hd, bind_some']
theorem choose_eq {N : Nat} {xs : List (List Int)} {c : List Int → List Int → Option Int} (h : Srt xs c) (h12 : 12 < xs.length) (hx : xs.length ≤ 1048576) : ∃ p : Int, slices_choosePivotCmpFunc_LI N xs 0 (xs.length : Int) c = some ((p, 1, ()), ()) := by
  unfold slices_choosePivotCmpFunc_LI
  have e4 : ((xs.length : Int)).tdiv 4 = ((xs.length / 4 : Nat) : Int) := rfl
  have hw : IntKind.i64.wrap ((xs.length : Int) - 0) = (xs.length : Int) := by rw [wrap_ok (by omega) (by omega)]; omega
  have q : ∀ k : Nat, k ≤ 3 → IntKind.i64.wrap (0 + IntKind.i64.wrap (((xs.length / 4 : Nat) : Int) * (k : Int))) = ((xs.length / 4 * k : Nat) : Int) := by
    intro k hk
    have hb : xs.length / 4 * k ≤ xs.length / 4 * 3 := Nat.mul_le_mul_left _ hk
    have e : ((xs.length / 4 : Nat) : Int) * (k : Int) = ((xs.length / 4 * k : Nat) : Int) := by simp
    rw [e, wrap_ok (n := ((xs.length / 4 * k : Nat) : Int)) (by omega) (by omega), wrap_ok (by omega) (by omega)]
    omega
  have q1 := q 1 (by omega)
  have q2 := q 2 (by omega)
  have q3 := q 3 (by omega)
  simp only [show ((1 : Nat) : Int) = 1 from rfl, show ((2 : Nat) : Int) = 2 from rfl, show ((3 : Nat) : Int) = 3 from rfl] at q1 q2 q3
  rw [hw, e4, wrap_ok (n := ((xs.length / 4 : Nat) : Int)) (by omega) (by omega), q1, q2, q3, ile_t (by omega), br_t]
  have b4 : 3 ≤ xs.length / 4 := by omega
  by_cases h50 : 50 ≤ xs.length
  · rw [ile_t (by omega), br_t, medianAdj_eq h (by omega) (by omega) hx, bind_some']
    simp only []
    rw [medianAdj_eq h (by omega) (by omega) hx, bind_some']
    simp only []
    rw [medianAdj_eq h (by omega) (by omega) hx, bind_some']
    simp only []
    rw [medianF_eq h (by omega) (by omega) (by omega), bind_some', ieq_t rfl, br_t]
    exact ⟨_, rfl⟩
  · rw [ile_f (by omega), br_f, medianF_eq h (by omega) (by omega) (by omega), bind_some', ieq_t rfl, br_t]
    exact ⟨_, rfl⟩
theorem partial_eq {N : Nat} {xs : List (List Int)} {c : List Int → List Int → Option Int} (h : Srt xs c) (h1 : 1 ≤ xs.length) (hx : xs.length ≤ 1048576) (hN : 1048577 ≤ N) : slices_partialInsertionSortCmpFunc_LI N xs 0 (xs.length : Int) c = some ((true, ()), ()) := by
  unfold slices_partialInsertionSortCmpFunc_LI
  obtain ⟨k', hk'⟩ : ∃ k', N = k' + 1 := ⟨N - 1, by omega⟩
  have go : ∀ (d i K : Nat) (k0 : List (List Int) → Int → Int → (List Int → List Int → Option Int) → Int → Int → Option ((Bool × Unit) × Unit)), i + d = xs.length → d < K → 1 ≤ i → slices_partialInsertionSortCmpFunc_LI_l0_0 N k0 K xs 0 (xs.length : Int) c i 0 = k0 xs 0 (xs.length : Int) c (xs.length : Int) 0 := by
    intro d
    induction d with
    | zero =>
      intro i K k0 hd hK hi
      obtain ⟨k, rfl⟩ := succ_of hK
      simp only [slices_partialInsertionSortCmpFunc_LI_l0_0, ilt_nf (show ¬ i < xs.length by omega), br_f]
      rw [show i = xs.length by omega]
    | succ d ih =>
      intro i K k0 hd hK hi
      obtain ⟨k, rfl⟩ := succ_of hK
      have hin : i < xs.length := by omega
      simp only [slices_partialInsertionSortCmpFunc_LI_l0_0, ilt_n hin, br_t, inb_n hin, chk_t]
      rw [wrap_pred (by omega) (by omega), inb_n (by omega), chk_t]
      obtain ⟨v, h1, h2⟩ := h (i - 1) i (by omega) hin
      rw [h1, bind_some', ilt_f h2, Bool.not_false, br_t, wrap_succ (by omega)]
      exact ih (i + 1) k k0 (by omega) (by omega) (by omega)
  rw [show IntKind.i64.wrap (0 + 1) = ((1 : Nat) : Int) from rfl, hk']
  simp only [slices_partialInsertionSortCmpFunc_LI_l0]
  rw [← hk', ilt_t (by omega), br_t, go (xs.length - 1) 1 N _ (by omega) (by omega) (Nat.le_refl 1), ieq_t rfl, br_t]
theorem bitsLenTab : ((List.range 1024).all fun n => match math_bits_Len 0 (n : Int) with | some r => (r.1.1 != 0) || n == 0 | none => false) = true := by kernel_rfl
theorem bitsLen_pos (N : Nat) {n : Nat} (h : n < 1024) : ∃ r : Int, math_bits_Len N (n : Int) = some ((r, ()), ()) ∧ (0 < n → r ≠ 0) := by
  have h1 := List.all_eq_true.1 bitsLenTab n (List.mem_range.2 h)
  have e : math_bits_Len N (n : Int) = math_bits_Len 0 (n : Int) := rfl
  rw [e]
  generalize math_bits_Len 0 (n : Int) = z at h1
  match z, h1 with
  | some ((r, ()), ()), h1 =>
    refine ⟨r, rfl, fun hn hr => ?_⟩
    subst hr
    simp at h1
    omega
theorem SortFunc_srt {N : Nat} {xs : List (List Int)} {c : List Int → List Int → Option Int} (h : Srt xs c) (hx : xs.length < 1024) (hN : 1048577 ≤ N) : slices_SortFunc_LLI_LI N xs c = some ((), ()) := by
  unfold slices_SortFunc_LLI_LI
  obtain ⟨r, hr, hp⟩ := bitsLen_pos N hx
  rw [tLen_n, wrap64 (by omega), hr, bind_some']
  unfold slices_pdqsortCmpFunc_LI
  obtain ⟨k', hk'⟩ : ∃ k', N = k' + 1 := ⟨N - 1, by omega⟩
  have : slices_pdqsortCmpFunc_LI_l0 N (fun (_ : Unit) => some ((), ())) N xs 0 (xs.length : Int) r c true true = some ((), ()) := by
    conv => lhs; rw [hk']
    simp only [slices_pdqsortCmpFunc_LI_l0]
    rw [← hk', wrap_ok (by omega) (by omega)]
    by_cases h12 : xs.length ≤ 12
    · rw [ile_t (by omega), br_t, insertF_eq h (by omega) hN, bind_some']
    · obtain ⟨p, hp2⟩ := choose_eq (N := N) h (by omega) (by omega)
      rw [ile_f (by omega), br_f, ieq_f (hp (by omega)), br_f, Bool.not_true, br_f, hp2, bind_some']
      simp only [br_t]
      rw [ieq_f (by decide), br_f, ieq_t rfl, br_t, partial_eq h (by omega) (by omega) hN, bind_some']
      rfl
  rw [this]
  rfl
def lexSorted (xs : List (List Int)) : Prop := xs.Pairwise fun a b => lexC a b < 0
theorem srt_lex {N : Nat} {xs : List (List Int)} (h : lexSorted xs) (hl : ∀ x ∈ xs, x.length ≤ 1048576) (hN : 1048577 ≤ N) : Srt xs (fun y0 y1 => (slices_Compare_LI_int N y0 y1).bind fun z => some z.1.1) := by
  intro i j hij hj
  have hi : i < xs.length := by omega
  rw [rdL_n hj, rdL_n hi]
  refine ⟨lexC xs[j] xs[i], by show (slices_Compare_LI_int N xs[j] xs[i]).bind _ = _; rw [Compare_lex (hl _ (List.getElem_mem hj)) (hl _ (List.getElem_mem hi)) hN]; rfl, ?_⟩
  by_cases he : i = j
  · subst he
    rw [lexC_self]
    omega
  · have := List.pairwise_iff_getElem.1 h i j hi hj (by omega)
    have h2 := lexC_anti xs[i] xs[j]
    omega
theorem lexSorted_filter {xs : List (List Int)} (p : List Int → Bool) (h : lexSorted xs) : lexSorted (xs.filter p) := List.Pairwise.filter _ h
noncomputable def rowSteps (p : List Int → List Int → Bool) (xs : List (List Int)) (i : Nat) : List (Int × Int) := ((List.range' (i + 1) (xs.length - (i + 1))).filter fun j : Nat => p (rdL xs (i : Int)) (rdL xs (j : Int))).map fun j : Nat => ((i : Int), (j : Int))
noncomputable def stepsL (p : List Int → List Int → Bool) (xs : List (List Int)) : List (Int × Int) := (List.range' 0 xs.length).flatMap (rowSteps p xs)
theorem rowSteps_len (p : List Int → List Int → Bool) (xs : List (List Int)) (i : Nat) : (rowSteps p xs i).length ≤ xs.length := by
  unfold rowSteps
  rw [List.length_map]
  exact Nat.le_trans (List.length_filter_le ..) (by simp)
theorem stepsL_len (p : List Int → List Int → Bool) (xs : List (List Int)) : (stepsL p xs).length ≤ xs.length * xs.length := by
  unfold stepsL
  rw [List.length_flatMap]
  have := sum_le (f := fun i => (rowSteps p xs i).length) (b := xs.length) (xs := List.range' 0 xs.length) fun i _ => rowSteps_len p xs i
  simpa using this
theorem spaceOf_eq {N : Nat} {xs : List (List Int)} {is : List Int → List Int → Option Bool} {p : List Int → List Int → Bool} (hs : lexSorted xs) (hl : ∀ x ∈ xs, x.length ≤ 1048576) (hx : xs.length < 1024) (hp : ∀ a ∈ xs, ∀ b ∈ xs, is a b = some (p a b)) (hN : 1048577 ≤ N) :
    impl_spaceOf N xs is = some (((xs, stepsL p xs), ()), ()) := by
  unfold impl_spaceOf
  rw [SortFunc_srt (srt_lex hs hl hN) hx hN, bind_some', tLen_n]
  have hrd : ∀ j : Nat, j < xs.length → rdL xs (j : Int) ∈ xs := fun j hj => by rw [rdL_n hj]; exact List.getElem_mem hj
  have inner : ∀ (d i j K : Nat) (o : List (Int × Int)) (k0 : (List Int → List Int → Option Bool) → Int → Int → List (List Int) → List (Int × Int) → Option (((List (List Int) × List (Int × Int)) × Unit) × Unit)), i < xs.length → j + d = xs.length - (i + 1) → d < K → o.length + d ≤ 1099511627776 →
      impl_spaceOf_l0_0 N k0 K is (i : Int) (i : Int) (xs.length : Int) (i : Int) ((i + 1 : Nat) : Int) (xs.length : Int) ((xs.length - (i + 1) : Nat) : Int) (j : Int) xs o = k0 is (xs.length : Int) (i : Int) xs (o ++ ((List.range' (i + 1 + j) d).filter fun j : Nat => p (rdL xs (i : Int)) (rdL xs (j : Int))).map fun j : Nat => ((i : Int), (j : Int))) := by
    intro d
    induction d with
    | zero =>
      intro i j K o k0 hi hj hK ho
      obtain ⟨k, rfl⟩ := succ_of hK
      simp only [impl_spaceOf_l0_0, ilt_nf (show ¬ j < xs.length - (i + 1) by omega), br_f]
      simp
    | succ d ih =>
      intro i j K o k0 hi hj hK ho
      obtain ⟨k, rfl⟩ := succ_of hK
      have hj' : i + 1 + j < xs.length := by omega
      simp only [impl_spaceOf_l0_0, ilt_n (show j < xs.length - (i + 1) by omega), br_t]
      rw [ile_t (by omega), ilt_t (show (j : Int) < (xs.length : Int) - ((i + 1 : Nat) : Int) by omega)]
      simp only [Bool.and_self, chk_t]
      rw [show ((i + 1 : Nat) : Int) + (j : Int) = ((i + 1 + j : Nat) : Int) by omega, hp _ (hrd i hi) _ (hrd _ hj'), bind_some', wrap_succ (show i < 4611686018427387904 by omega), show ((i + 1 : Nat) : Int) + (j : Int) = ((i + 1 + j : Nat) : Int) by omega, wrap_ok (n := ((i + 1 + j : Nat) : Int)) (by omega) (by omega), room_ok (by simp; omega), chk_t, wrap_succ (by omega), tApp_d, List.range'_succ]
      cases hb : p (rdL xs (i : Int)) (rdL xs ((i + 1 + j : Nat) : Int)) with
      | true =>
        rw [br_t, ih i (j + 1) k _ k0 hi (by omega) (by omega) (by simp; omega), List.filter_cons_of_pos (by exact hb), List.append_assoc]
        rfl
      | false =>
        rw [br_f, ih i (j + 1) k _ k0 hi (by omega) (by omega) (by omega), List.filter_cons_of_neg (by rw [hb]; simp)]
        rfl
  have go : ∀ (d i K : Nat) (o : List (Int × Int)), i + d = xs.length → d < K → o.length ≤ i * xs.length →
      impl_spaceOf_l0 N (fun o o1 => some (((o, o1), ()), ())) K is (xs.length : Int) (i : Int) xs o = some (((xs, o ++ (List.range' i d).flatMap (rowSteps p xs)), ()), ()) := by
    intro d
    induction d with
    | zero =>
      intro i K o hd hK ho
      obtain ⟨k, rfl⟩ := succ_of hK
      simp only [impl_spaceOf_l0, ilt_nf (show ¬ i < xs.length by omega), br_f]
      simp
    | succ d ih =>
      intro i K o hd hK ho
      obtain ⟨k, rfl⟩ := succ_of hK
      have hi : i < xs.length := by omega
      have hmul : i * xs.length ≤ 1024 * 1024 := Nat.mul_le_mul (by omega) (by omega)
      simp only [impl_spaceOf_l0, ilt_n hi, br_t, inb_n hi, chk_t]
      rw [wrap_succ (by omega), tLen_n, ile_t (by omega), ile_t (by omega), ile_t (Int.le_refl _)]
      simp only [Bool.and_self, chk_t]
      rw [show (xs.length : Int) - ((i + 1 : Nat) : Int) = ((xs.length - (i + 1) : Nat) : Int) by omega]
      have h1 := inner (xs.length - (i + 1)) i 0 N o (fun isStep2 x2 x3 o2 o3 => impl_spaceOf_l0 N (fun o o1 => some (((o, o1), ()), ())) k isStep2 x2 (IntKind.i64.wrap (x3 + 1)) o2 o3) hi (by omega) (by omega) (by omega)
      simp only [Int.natCast_zero] at h1
      rw [h1, Nat.add_zero, wrap_succ (by omega)]
      have h2 := rowSteps_len p xs i
      have h3 := ih (i + 1) k (o ++ rowSteps p xs i) (by omega) (by omega) (by rw [List.length_append, Nat.add_mul, Nat.one_mul]; omega)
      rw [List.append_assoc] at h3
      rw [List.range'_succ, List.flatMap_cons]
      exact h3
  have := go xs.length 0 N [] (by omega) (by omega) (Nat.zero_le _)
  exact this
/-! ### Places that differ -/
noncomputable def apartL (a b : List Int) : List Int := ((List.range' 0 a.length).filter fun i : Nat => decide (rdI a (i : Int) ≠ rdI b (i : Int))).map fun i : Nat => (i : Int)
noncomputable def isCh (a b : List Int) : Bool := decide ((apartL a b).length = 1)
theorem places_ap {N : Nat} {a b : List Int} (ha : a.length ≤ 1048576) (hab : a.length ≤ b.length) (hN : 1048577 ≤ N) : impl_places N a b = some ((apartL a b, ()), ()) := by
  unfold impl_places
  rw [tLen_n]
  refine (loop_iter (L := fun K n o => impl_places_l0 N (fun o => some ((o, ()), ())) K b a (a.length : Int) n o) (k := fun o => some ((o, ()), ())) (Inv := fun n o => o.length ≤ n) (step := fun n o => if rdI a (n : Int) ≠ rdI b (n : Int) then o ++ [(n : Int)] else o) (fun K n s hn _ => ?_) (fun K n s hn hs => ?_) (fun n s hn h => ?_) (s := []) (m := a.length) (K := N) (by omega) (Nat.zero_le _)).trans ?_
  · simp only [impl_places_l0, ilt_nf hn, br_f]
  · simp only [impl_places_l0, ilt_n hn, br_t, inb_n hn, inb_n (show n < b.length by omega), chk_t]
    rw [wrap_succ (by omega), room_ok (by simp; omega), chk_t, tApp_d]
    by_cases h : rdI a (n : Int) = rdI b (n : Int)
    · rw [ine_f h.symm, br_f, if_neg (not_not_intro h)]
    · rw [ine_t (fun e => h e.symm), br_t, if_pos h]
  · by_cases hc : rdI a (n : Int) = rdI b (n : Int)
    · rw [if_neg (not_not_intro hc)]; omega
    · rw [if_pos hc]; simp; omega
  · rw [iter_app, List.nil_append]
    rfl
theorem isChange_eq {N : Nat} {a b : List Int} (ha : a.length ≤ 1048576) (hab : a.length ≤ b.length) (hN : 1048577 ≤ N) : impl_isChange N a b = some ((isCh a b, ()), ()) := by
  unfold impl_isChange isCh
  rw [places_ap ha hab hN, bind_some', tLen_n]
  congr 3
  by_cases h : (apartL a b).length = 1
  · rw [ieq_t (show ((apartL a b).length : Int) = 1 by omega), decide_eq_true h]
  · rw [ieq_f (show ((apartL a b).length : Int) ≠ 1 by omega), decide_eq_false h]
theorem l6Apart_ap {N : Nat} {a b : List Int} (ha : a.length ≤ 1048576) (hab : a.length ≤ b.length) (hN : 1048577 ≤ N) : spec_l6Apart N a b = some ((((apartL a b).length : Int), ()), ()) := by
  unfold spec_l6Apart apartL
  have go : ∀ (d n K c : Nat), n + d = a.length → d < K → c ≤ n → spec_l6Apart_l0 N (fun count => some ((count, ()), ())) K a b (c : Int) (n : Int) = some ((((c + ((List.range' n d).filter fun i : Nat => decide (rdI a (i : Int) ≠ rdI b (i : Int))).length : Nat) : Int), ()), ()) := by
    intro d
    induction d with
    | zero =>
      intro n K c hd hK hc
      obtain ⟨k, rfl⟩ := succ_of hK
      simp only [spec_l6Apart_l0, ilt_lenf (show ¬ n < a.length by omega), br_f]
      simp
    | succ d ih =>
      intro n K c hd hK hc
      obtain ⟨k, rfl⟩ := succ_of hK
      have hn : n < a.length := by omega
      simp only [spec_l6Apart_l0, ilt_len hn, br_t, inb_n hn, inb_n (show n < b.length by omega), chk_t]
      rw [wrap_succ (show n < 4611686018427387904 by omega), wrap_succ (show c < 4611686018427387904 by omega), List.range'_succ]
      by_cases h : rdI a (n : Int) = rdI b (n : Int)
      · rw [ine_f h, br_f, ih (n + 1) k c (by omega) (by omega) (by omega), List.filter_cons_of_neg (by simp [h])]
      · rw [ine_t h, br_t, ih (n + 1) k (c + 1) (by omega) (by omega) (by omega), List.filter_cons_of_pos (by simp [h]), List.length_cons]
        congr 4
        omega
  have := go a.length 0 N 0 (by omega) (by omega) (Nat.zero_le _)
  rw [List.length_map]
  simp only [Nat.zero_add] at this
  exact this
theorem l6Space_eq {N m : Nat} {xs : List (List Int)} (hl : ∀ x ∈ xs, x.length = m) (hm : m ≤ 1048576) (hx : xs.length < 1024) (hN : 1048577 ≤ N) : spec_l6Space N xs = some (((xs, stepsL isCh xs), ()), ()) := by
  unfold spec_l6Space
  have hrd : ∀ j : Nat, j < xs.length → (rdL xs (j : Int)).length = m := fun j hj => by rw [rdL_n hj]; exact hl _ (List.getElem_mem hj)
  have inner : ∀ (d i j K : Nat) (o : List (Int × Int)) (k0 : List (List Int) → Int → List (List Int) → List (Int × Int) → Option (((List (List Int) × List (Int × Int)) × Unit) × Unit)), i < xs.length → j + d = xs.length → d < K → o.length + d ≤ 1099511627776 →
      spec_l6Space_l0_0 N k0 K xs (i : Int) (j : Int) xs o = k0 xs (i : Int) xs (o ++ ((List.range' j d).filter fun j : Nat => isCh (rdL xs (i : Int)) (rdL xs (j : Int))).map fun j : Nat => ((i : Int), (j : Int))) := by
    intro d
    induction d with
    | zero =>
      intro i j K o k0 hi hj hK ho
      obtain ⟨k, rfl⟩ := succ_of hK
      simp only [spec_l6Space_l0_0, ilt_lenf (show ¬ j < xs.length by omega), br_f]
      simp
    | succ d ih =>
      intro i j K o k0 hi hj hK ho
      obtain ⟨k, rfl⟩ := succ_of hK
      have hj' : j < xs.length := by omega
      have e1 := hrd i hi
      have e2 := hrd j hj'
      simp only [spec_l6Space_l0_0, ilt_len hj', br_t, inb_n hi, inb_n hj', chk_t]
      rw [l6Apart_ap (by omega) (by omega) hN, bind_some', room_ok (by simp; omega), chk_t, wrap_succ (by omega), tApp_d, List.range'_succ]
      simp only []
      by_cases h : (apartL (rdL xs (i : Int)) (rdL xs (j : Int))).length = 1
      · have hb : isCh (rdL xs (i : Int)) (rdL xs (j : Int)) = true := decide_eq_true h
        rw [ieq_t (by omega), br_t, ih i (j + 1) k _ k0 hi (by omega) (by omega) (by simp; omega), List.filter_cons_of_pos (by exact hb), List.append_assoc]
        rfl
      · have hb : isCh (rdL xs (i : Int)) (rdL xs (j : Int)) = false := decide_eq_false h
        rw [ieq_f (by omega), br_f, ih i (j + 1) k _ k0 hi (by omega) (by omega) (by omega), List.filter_cons_of_neg (by rw [hb]; simp)]
  have go : ∀ (d i K : Nat) (o : List (Int × Int)), i + d = xs.length → d < K → o.length ≤ i * xs.length →
      spec_l6Space_l0 N (fun o o1 => some (((o, o1), ()), ())) K xs (i : Int) xs o = some (((xs, o ++ (List.range' i d).flatMap (rowSteps isCh xs)), ()), ()) := by
    intro d
    induction d with
    | zero =>
      intro i K o hd hK ho
      obtain ⟨k, rfl⟩ := succ_of hK
      simp only [spec_l6Space_l0, ilt_lenf (show ¬ i < xs.length by omega), br_f]
      simp
    | succ d ih =>
      intro i K o hd hK ho
      obtain ⟨k, rfl⟩ := succ_of hK
      have hi : i < xs.length := by omega
      have hmul : i * xs.length ≤ 1024 * 1024 := Nat.mul_le_mul (by omega) (by omega)
      simp only [spec_l6Space_l0, ilt_len hi, br_t]
      rw [wrap_succ (by omega)]
      have h1 := inner (xs.length - (i + 1)) i (i + 1) N o (fun states2 i1 o2 o3 => spec_l6Space_l0 N (fun o o1 => some (((o, o1), ()), ())) k states2 (IntKind.i64.wrap (i1 + 1)) o2 o3) hi (by omega) (by omega) (by omega)
      rw [h1, wrap_succ (by omega)]
      have h2 := rowSteps_len isCh xs i
      have h3 := ih (i + 1) k (o ++ rowSteps isCh xs i) (by omega) (by omega) (by rw [List.length_append, Nat.add_mul, Nat.one_mul]; omega)
      rw [List.append_assoc] at h3
      rw [List.range'_succ, List.flatMap_cons]
      exact h3
  have := go xs.length 0 N [] (by omega) (by omega) (Nat.zero_le _)
  exact this
/-! ### Marks in spaces -/
def iotaP : Int → Nat → List (Int × Int)
  | _, 0 => []
  | k, n + 1 => (k, k + 1) :: iotaP (k + 2) n
theorem iotaP_len : ∀ (n : Nat) (k : Int), (iotaP k n).length = n := by
  intro n
  induction n with
  | zero => intro k; rfl
  | succ n ih => intro k; simp [iotaP, ih]
theorem iotaP_get : ∀ (n i : Nat) (k : Int), i < n → rdP (iotaP k n) (i : Int) = (k + 2 * i, k + 2 * i + 1) := by
  intro n
  induction n with
  | zero => intro i k h; omega
  | succ n ih =>
    intro i k h
    cases i with
    | zero => simp [iotaP, rdP]
    | succ i =>
      have := ih i (k + 2) (by omega)
      have e : rdP (iotaP k (n + 1)) ((i + 1 : Nat) : Int) = rdP (iotaP (k + 2) n) (i : Int) := by simp [iotaP, rdP]
      rw [e, this]
      congr 1 <;> omega
theorem markA2S_eq {N : Nat} {a : List (Int × Int)} {k : Int} (hk : 0 ≤ k ∧ k ≤ 1152921504606846976) (ha : a.length ≤ 1048576) (hN : 1048577 ≤ N) : laws_markIntA2S N a k = some ((k + 2 * a.length, ()), (iotaP k a.length, ())) := by
  have go : ∀ (q p : List (Int × Int)) (K : Nat) (kv : Int), q.length < K → (p ++ q).length ≤ 1048576 → 0 ≤ kv → kv + 2 * q.length ≤ 2305843009213693952 →
      laws_markIntA2S_l0 N (fun kv1 o => some ((kv1, ()), (o, ()))) K kv (p.length : Int) (p ++ q) = some ((kv + 2 * q.length, ()), (p ++ iotaP kv q.length, ())) := by
    intro q
    induction q with
    | nil =>
      intro p K kv hK hl h0 h1
      obtain ⟨K, rfl⟩ := succ_of hK
      simp only [laws_markIntA2S_l0, List.append_nil]
      rw [ilt_lenf (Nat.lt_irrefl p.length), br_f]
      simp [iotaP]
    | cons e q ih =>
      intro p K kv hK hl h0 h1
      obtain ⟨K, rfl⟩ := succ_of hK
      have hn : p.length < (p ++ e :: q).length := by simp
      have hset : ∀ (e v : Int × Int), tSet (p ++ e :: q) (p.length : Int) v = p ++ v :: q := fun e v => by simp [tSet]
      have hrd : ∀ v : Int × Int, rdP (p ++ v :: q) (p.length : Int) = v := fun v => by simp [rdP]
      have hinb : ∀ v : Int × Int, inb (p ++ v :: q) (p.length : Int) = true := fun v => inb_n (by simp)
      have hl' : p.length + (q.length + 1) ≤ 1048576 := by simpa using hl
      have hq' : kv + 2 * (q.length + 1 : Nat) ≤ 2305843009213693952 := by simpa using h1
      simp only [laws_markIntA2S_l0, laws_markIntA2S_l0_0]
      rw [ilt_len hn, br_t]
      simp only [hinb, hset, hrd, chk_t]
      rw [wrap_succ (by omega), wrap_ok (show -9223372036854775808 ≤ kv + 1 by omega) (by omega), wrap_ok (show -9223372036854775808 ≤ kv + 1 + 1 by omega) (by omega)]
      have := ih (p ++ [(kv, kv + 1)]) K (kv + 2) (by simp at hK; omega) (by simp; omega) (by omega) (by omega)
      simp only [List.length_append, List.length_singleton, List.append_assoc, List.singleton_append] at this
      rw [show kv + 1 + 1 = kv + 2 by omega, this, List.length_cons]
      congr 3
      omega
  unfold laws_markIntA2S
  have := go a [] N k (by omega) (by simpa using ha) hk.1 (by omega)
  exact this
theorem heldA2S_eq {N : Nat} {n : Nat} {k : Int} (hk : 0 ≤ k ∧ k ≤ 1152921504606846976) (ha : n ≤ 1048576) (hN : 1048577 ≤ N) : laws_heldIntA2S N (iotaP k n) k = some ((k + 2 * n, ()), ()) := by
  unfold laws_heldIntA2S
  have hl := iotaP_len n k
  have go : ∀ (d i K : Nat), i + d = n → d < K → laws_heldIntA2S_l0 N (fun x => some ((x, ()), ())) (fun kv1 => some ((kv1, ()), ())) K (iotaP k n) (k + 2 * i) (i : Int) = some ((k + 2 * n, ()), ()) := by
    intro d
    induction d with
    | zero =>
      intro i K hd hK
      obtain ⟨K, rfl⟩ := succ_of hK
      simp only [laws_heldIntA2S_l0]
      rw [ilt_lenf (by omega), br_f, show i = n by omega]
    | succ d ih =>
      intro i K hd hK
      obtain ⟨K, rfl⟩ := succ_of hK
      have hi : i < (iotaP k n).length := by omega
      simp only [laws_heldIntA2S_l0, laws_heldIntA2S_l0_0]
      rw [ilt_len hi, br_t, inb_n hi, chk_t, chk_t, iotaP_get n i k (by omega)]
      simp only []
      rw [wrap_ok (show -9223372036854775808 ≤ k + 2 * (i : Int) + 1 by omega) (by omega), ine_f rfl, br_f, ine_f rfl, br_f, wrap_ok (by omega) (by omega), wrap_succ (by omega)]
      have := ih (i + 1) K (by omega) (by omega)
      rw [show k + 2 * (i : Int) + 1 + 1 = k + 2 * ((i + 1 : Nat) : Int) by omega]
      exact this
  have := go n 0 N (by omega) (by omega)
  simpa using this
def okSp (x : List (List Int) × List (Int × Int)) : Prop := x.1.length ≤ 1048576 ∧ (∀ r ∈ x.1, r.length ≤ 1048576) ∧ x.2.length ≤ 1048576 ∧ x.1.length ≤ 1024
theorem eqSpace_self {N : Nat} {x : List (List Int) × List (Int × Int)} (h : okSp x) (hN : 1048577 ≤ N) : laws_eqSpace N x x = some ((true, ()), ()) := by
  unfold laws_eqSpace
  rw [eqIntSS_eq h.1 h.2.1 hN, bind_some', decide_eq_true rfl, Bool.not_true, br_f, eqIntA2S_eq h.2.2.1 hN, bind_some', decide_eq_true rfl, Bool.not_true, br_f]
theorem markSpace_eq {N : Nat} {x : List (List Int) × List (Int × Int)} (h : okSp x) (hN : 1048577 ≤ N) : ∃ (v : Int) (y : List (List Int) × List (Int × Int)), 0 ≤ v ∧ laws_markSpace N x 1 = some ((v, ()), (y, ())) ∧ laws_heldSpace N y 1 = some ((v, ()), ()) := by
  obtain ⟨h1, h2, h3, h4⟩ := h
  have hs := sumL_le h2
  have k0 : (0 : Int) ≤ 1 ∧ (1 : Int) ≤ 1152921504606846976 := by omega
  have k1 : 0 ≤ 1 + sumL x.1 ∧ 1 + sumL x.1 ≤ 1152921504606846976 := by omega
  refine ⟨1 + sumL x.1 + 2 * x.2.length, (iotaL 1 x.1, iotaP (1 + sumL x.1) x.2.length), by omega, ?_, ?_⟩
  · unfold laws_markSpace
    rw [markIntSS_eq k0 h1 h2 hN, bind_some']
    simp only []
    rw [markA2S_eq k1 h3 hN, bind_some']
  · unfold laws_heldSpace
    simp only []
    rw [heldIntSS_eq k0 h1 h2 hN, bind_some']
    simp only []
    rw [ilt_f (by omega), br_f, heldA2S_eq k1 h3 hN, bind_some']
    simp only []
    rw [ilt_f (by omega), br_f]
def pairB : List (List Int) → Bool
  | [] => true
  | x :: xs => xs.all (fun y => decide (lexC x y < 0)) && pairB xs
theorem pairB_sorted : ∀ {xs : List (List Int)}, pairB xs = true → lexSorted xs := by
  intro xs
  induction xs with
  | nil => intro _; exact List.Pairwise.nil
  | cons x xs ih =>
    intro h
    unfold pairB at h
    rw [Bool.and_eq_true] at h
    exact List.pairwise_cons.2 ⟨fun y hy => of_decide_eq_true (List.all_eq_true.1 h.1 y hy), ih h.2⟩
theorem allBTab : ((List.range 7).all fun m => pairB (allB m)) = true := by kernel_rfl
theorem allB_sorted {m : Nat} (h : m ≤ 6) : lexSorted (allB m) := pairB_sorted (List.all_eq_true.1 allBTab m (List.mem_range.2 (by omega)))
theorem sols_ok {m : Nat} (hm : m ≤ 6) (p : List Int → Bool) : lexSorted ((allB m).filter p) ∧ (∀ x ∈ (allB m).filter p, x.length = m) ∧ ((allB m).filter p).length ≤ 64 ∧ okSp ((allB m).filter p, stepsL isCh ((allB m).filter p)) := by
  have h1 := List.length_filter_le p (allB m)
  rw [allB_len] at h1
  have h64 := pow_le64 hm
  have h2 : ∀ x ∈ (allB m).filter p, x.length = m := fun x hx => allB_row (List.mem_filter.1 hx).1
  have h3 := stepsL_len isCh ((allB m).filter p)
  have h4 : ((allB m).filter p).length * ((allB m).filter p).length ≤ 64 * 64 := Nat.mul_le_mul (by omega) (by omega)
  exact ⟨lexSorted_filter p (allB_sorted hm), h2, by omega, by simp only []; omega, fun r hr => by have := h2 r hr; omega, by simp only []; omega, by simp only []; omega⟩
theorem space_both {N m : Nat} (hm : m ≤ 6) (p : List Int → Bool) (hN : 1048577 ≤ N) : spec_l6Space N ((allB m).filter p) = some ((((allB m).filter p, stepsL isCh ((allB m).filter p)), ()), ()) ∧
    impl_spaceOf N ((allB m).filter p) (fun y0 y1 => (impl_isChange N y0 y1).bind fun z => some z.1.1) = some ((((allB m).filter p, stepsL isCh ((allB m).filter p)), ()), ()) := by
  obtain ⟨h1, h2, h3, _⟩ := sols_ok hm p
  refine ⟨l6Space_eq h2 (by omega) (by omega) hN, spaceOf_eq (p := isCh) h1 (fun x hx => by have := h2 x hx; omega) (by omega) (fun a ha b hb => ?_) hN⟩
  have e1 := h2 a ha
  have e2 := h2 b hb
  rw [isChange_eq (by omega) (by omega) hN]
  rfl
noncomputable def parV (p : Int × (List (List Int) × List Int)) : (List (List Int) × List (Int × Int)) × Bool := if goodP p then (((allB p.1.toNat).filter (evenB p), stepsL isCh ((allB p.1.toNat).filter (evenB p))), true) else (([], []), false)
theorem ParitySpace_both {N : Nat} (hNe : N = 1048577) {p : Int × (List (List Int) × List Int)} (hx : p.2.1.length ≤ 1048576) (hxs : ∀ x ∈ p.2.1, x.length ≤ 1048576) (hy : p.2.2.length ≤ 1048576) : okSp (parV p).1 ∧ spec_ParitySpace N p = some (((parV p).1, (parV p).2, ()), ()) ∧ impl_ParitySpace N p = some (((parV p).1, (parV p).2, ()), ()) := by
  have hN : 1048577 ≤ N := by omega
  unfold spec_ParitySpace impl_ParitySpace parV
  simp only [show ((p.1, (p.2.1, p.2.2)) : Int × (List (List Int) × List Int)) = p from rfl]
  rw [spec_l6Parity_eq hx hxs hy hN, impl_IsParity_eq hx hxs hy hN, bind_some', bind_some']
  by_cases h : goodP p
  · have h0 := h.1
    rw [if_pos h, decide_eq_true h, Bool.not_true, br_f, br_f]
    obtain ⟨b1, b2⟩ := space_both (N := N) (m := p.1.toNat) (by omega) (evenB p) hN
    obtain ⟨_, _, _, s4⟩ := sols_ok (m := p.1.toNat) (by omega) (evenB p)
    refine ⟨s4, ?_, ?_⟩
    · rw [spec_even_eq hNe h hxs, bind_some']
      simp only []
      rw [b1]
      rfl
    · rw [impl_even_eq hN h hxs, bind_some']
      simp only []
      rw [b2]
      rfl
  · rw [if_neg h, decide_eq_false h, Bool.not_false, br_t, br_t]
    exact ⟨⟨Nat.zero_le _, by simp, Nat.zero_le _, Nat.zero_le _⟩, rfl, rfl⟩
theorem ParitySpace_pure {N : Nat} (hNe : N = 1048577) {p : Int × (List (List Int) × List Int)} (hx : p.2.1.length ≤ 9223372036854775807) (hxs : ∀ x ∈ p.2.1, x.length ≤ 9223372036854775807) (hy : p.2.2.length ≤ 9223372036854775807) : laws_FnExactParitySpace N p = some ((true, ()), ()) := by
  unfold laws_FnExactParitySpace
  have hN : 1048577 ≤ N := by omega
  obtain ⟨r, h1, h2⟩ := szParity_eq hx hxs hy hN
  rw [show ((p.1, (p.2.1, p.2.2)) : Int × (List (List Int) × List Int)) = p from rfl]
  simp only [h1, bind_some']
  by_cases h : 0 ≤ r
  · rw [ilt_f (by omega), br_f]
    obtain ⟨h3, h4, h5⟩ := h2 h
    obtain ⟨g0, g1, g2⟩ := ParitySpace_both hNe h3 h4 h5
    obtain ⟨v, y, m0, m1, m2⟩ := markSpace_eq g0 hN
    have k0 : (0 : Int) ≤ 1 ∧ (1 : Int) ≤ 1152921504606846976 := by omega
    have q4 := sumL_le h4
    simp only [toParity_eq h3 h4 h5 hN, bind_some', g1, g2, eqSpace_self g0 hN, eqParity_eq h3 h4 h5 hN, decide_true, Bool.not_true, br_f, markParity_eq k0 h3 h4 h5 hN, ilt_f (show ¬ 1 + sumL p.2.1 + (p.2.2.length : Int) < 0 by omega), m1, m2, ilt_f (show ¬ v < 0 by omega), ine_f (rfl : v = v)]
    simp [br_ite]
  · rw [ilt_t (by omega), br_t]
theorem ParitySpace_pureT : ∀ x : argsT (psOf [QIQLLILI]), WfA [QIQLLILI] x → ∃ k m, (laws_FnExactParitySpace_S k).f x = some ((true, ()), m) :=
  fun x h => ⟨1048577, (), ParitySpace_pure rfl (len_ok h.1.2.1.1) (fun y hy => len_ok (h.1.2.1.2 y hy).1) (len_ok h.1.2.2.1)⟩
end Go.Proofs.Ytfbkjgeaoafejaa
