/- Statements on data alone. -/
import Derived.Test.YthkejedgfhjdiaaPvPure
import Derived.Test.YthkejedgfhjdiaaParityFormulaGa
set_option linter.all false
set_option linter.all false
namespace Go.Proofs.Ythkejedgfhjdiaa
open Go Go.PV Classical
noncomputable def formStep (ss : List (List Int)) (o : List (List Int)) (b : List Int) : List (List Int) := if b ∈ ss then o else o ++ [clauseF b]
noncomputable def formR (m : Nat) (ss : List (List Int)) : List (List Int) := (allB m).foldl (formStep ss) []
theorem formStep_len {ss o : List (List Int)} {b : List Int} : (formStep ss o b).length ≤ o.length + 1 := by
  unfold formStep
  by_cases h : b ∈ ss
  · rw [if_pos h]; omega
  · rw [if_neg h]; simp
theorem clauseF_len (b : List Int) : (clauseF b).length ≤ 2 * b.length := by
  have h1 := negF_len b b.length
  have h2 := posF_len b b.length 0
  unfold clauseF
  rw [List.length_append]
  omega
theorem pow_small {m : Nat} (h : m ≤ 6) : 2 ^ m ≤ 64 := Nat.pow_le_pow_right (by omega) h
theorem spec_l6Formula_eq {m : Nat} {ss : List (List Int)} {N : Nat} (hNe : N = 1048577) (hm : m ≤ 6) (hx : ss.length ≤ 1048576) (hs : ∀ s ∈ ss, s.length ≤ 1048576) : spec_l6Formula N (m : Int) ss = some ((((m : Int), formR m ss), ()), ()) ∧ (formR m ss).length ≤ 64 := by
  have hp := pow_small hm
  have hN : 1048577 ≤ N := by omega
  have hl := allB_len m
  have key := loop_list (xs := allB m) (L := fun K n o => spec_l6Formula_l0 N (fun o o1 o2 => some (((o1, o2), ()), ())) K (m : Int) ss (allB m) n 0 (m : Int) o) (k := fun o => some ((((m : Int), o), ()), ())) (formStep ss) (fun n o => o.length ≤ n) (K := N) (s := []) (fun K n s hn _ => ?_) (fun K n s hn hs' => ?_) (fun n s hn h => Nat.le_trans formStep_len (by omega)) (by omega) (Nat.zero_le _)
  · unfold spec_l6Formula
    rw [show spec_l6All N (m : Int) = some ((allB m, ()), ()) by rw [hNe]; exact allB_spec m hm]
    simp only [bind_some']
    refine ⟨key.1, ?_⟩
    have := key.2
    unfold formR
    omega
  · simp only [spec_l6Formula_l0, ilt_lenf hn, br_f]
  · have hr := allB_row (List.getElem_mem hn)
    have hrr : (rdL (allB m) n).length = m := by rw [rdL_n hn]; exact hr
    simp only [spec_l6Formula_l0, ilt_len hn, br_t, inb_n hn, chk_t, l6Listed_eq hx hs hN, bind_some']
    have e := Formula_neg_eq (N := N) (fun x4 x5 x6 x7 o3 o4 o5 o6 => spec_l6Formula_l0_1 N (fun x8 x9 x10 x11 o7 o8 o9 o10 => (chk (room o10 [o9])
            (spec_l6Formula_l0 N (fun o o1 o2 => some (((o1, o2), ()), ())) K x8 x9 x10 (IntKind.i64.wrap (x11 + 1)) o7 o8 (tApp o10 [o9])))) N x4 x5 x6 x7 0 o3 o4 o5 o6) (x4 := (m : Int)) (x5 := ss) (o3 := 0) (o4 := (m : Int)) (o6 := s) hn (by omega) m N [] (by omega) (by omega) (by simp; omega)
    rw [wrap_ok (show -9223372036854775808 ≤ (m : Int) - 1 by omega) (by omega), e]
    have e2 := Formula_pos_eq (N := N) (fun x8 x9 x10 x11 o7 o8 o9 o10 => (chk (room o10 [o9])
            (spec_l6Formula_l0 N (fun o o1 o2 => some (((o1, o2), ()), ())) K x8 x9 x10 (IntKind.i64.wrap (x11 + 1)) o7 o8 (tApp o10 [o9])))) (x9 := ss) (o7 := 0) (o8 := (m : Int)) (o10 := s) hn (by omega) hrr m 0 N ([] ++ negF (rdL (allB m) n) m) (by omega) (by omega) (by have := negF_len (rdL (allB m) n) m; simp; omega)
    rw [show ((0 : Nat) : Int) = 0 from rfl] at e2
    rw [e2, wrap_succ (by omega), room_ok (by simp; omega), chk_t, br_ite, rdL_n hn]
    unfold formStep clauseF
    rw [hr]
    by_cases h : (allB m)[n] ∈ ss
    · rw [if_pos (decide_eq_true h), if_pos h]
    · rw [if_neg (by simpa using h), if_neg h, List.nil_append]
      rfl
theorem impl_formulaOf_eq {m : Nat} {ss : List (List Int)} {N : Nat} (hNe : N = 1048577) (hm : m ≤ 6) (hx : ss.length ≤ 1048576) (hs : ∀ s ∈ ss, s.length ≤ 1048576) : impl_formulaOf N (m : Int) ss = some ((((m : Int), formR m ss), ()), ()) := by
  have hp := pow_small hm
  have hN : 1048577 ≤ N := by omega
  have hl := allB_len m
  have key := loop_list (xs := allB m) (L := fun K n o => impl_formulaOf_l0 N (fun o o1 o2 => some (((o1, o2), ()), ())) K ss (allB m) ((allB m).length : Int) n 0 (m : Int) o) (k := fun o => some ((((m : Int), o), ()), ())) (formStep ss) (fun n o => o.length ≤ n) (K := N) (s := []) (fun K n s hn _ => ?_) (fun K n s hn hs' => ?_) (fun n s hn h => Nat.le_trans formStep_len (by omega)) (by omega) (Nat.zero_le _)
  · unfold impl_formulaOf
    rw [show impl_assignments N (m : Int) (fun y0 => (impl_formulaOf_c1 N y0).bind fun z => some z.1.1) = some ((allB m, ()), ()) by rw [hNe]; exact allB_impl m hm]
    simp only [bind_some']
    exact key.1
  · simp only [impl_formulaOf_l0, ilt_nf hn, br_f]
  · have hr := allB_row (List.getElem_mem hn)
    simp only [impl_formulaOf_l0, ilt_n hn, br_t, inb_n hn, chk_t, tLen_n (rdL (allB m) n)]
    rw [ContainsFunc_LLI_LI_eq (g := fun s => decide (s = (allB m)[n])) (fun s h => by simp only [impl_formulaOf_c2, Equal_eq (hs s h) hN, bind_some', rdL_n hn]) (by omega) (by omega), bind_some', rdL_n hn]
    have e := formula_both_eq (N := N) (fun solutions2 x3 x4 x5 o3 o4 o5 o6 => ((slices_Sort_LI_int N o5).bind fun r2 =>
            (chk (room o6 [r2.2.1])
              (impl_formulaOf_l0 N (fun o o1 o2 => some (((o1, o2), ()), ())) K solutions2 x3 x4 (IntKind.i64.wrap (x5 + 1)) o3 o4 (tApp o6 [r2.2.1]))))) (x2 := ss) (x3 := allB m) (x4 := ((allB m).length : Int)) (x5 := (n : Int)) (o3 := 0) (o4 := (m : Int)) (x6 := (allB m)[n]) (o6 := s) (by omega) (allB m)[n].length 0 N [] (by omega) (by omega) (by simp; omega)
    rw [show ((0 : Nat) : Int) = 0 from rfl] at e
    have hbl := bothF_len (allB m)[n] (allB m)[n].length 0
    rw [e, List.nil_append, Sort_eq (by omega) hN]
    simp only [bind_some']
    rw [clause_sorted hm (List.getElem_mem hn), wrap_succ (by omega), room_ok (by simp; omega), chk_t, br_ite]
    unfold formStep
    have hany : (ss.any fun s => decide (s = (allB m)[n])) = decide ((allB m)[n] ∈ ss) := by
      by_cases h : (allB m)[n] ∈ ss
      · rw [decide_eq_true h]
        exact List.any_eq_true.2 ⟨_, h, decide_eq_true rfl⟩
      · rw [decide_eq_false h]
        refine List.any_eq_false.2 fun x hx h' => h ?_
        have := of_decide_eq_true h'
        rw [← this]
        exact hx
    rw [hany]
    by_cases h : (allB m)[n] ∈ ss
    · rw [if_pos (decide_eq_true h), if_pos h]
    · rw [if_neg (by simpa using h), if_neg h]
      rfl
theorem formR_rows {m : Nat} (hm : m ≤ 6) (ss : List (List Int)) : ∀ x ∈ formR m ss, x.length ≤ 1048576 := by
  have go : ∀ (xs o : List (List Int)), (∀ b ∈ xs, b.length ≤ 6) → (∀ x ∈ o, x.length ≤ 1048576) → ∀ x ∈ xs.foldl (formStep ss) o, x.length ≤ 1048576 := by
    intro xs
    induction xs with
    | nil => intro o _ h; exact h
    | cons b xs ih =>
      intro o hb ho
      refine ih _ (fun c hc => hb c (List.mem_cons_of_mem _ hc)) fun x hx => ?_
      unfold formStep at hx
      by_cases h : b ∈ ss
      · rw [if_pos h] at hx
        exact ho x hx
      · rw [if_neg h] at hx
        rcases List.mem_append.1 hx with hx | hx
        · exact ho x hx
        · have h1 := clauseF_len b
          have h2 := hb b (List.mem_cons_self ..)
          simp at hx
          rw [hx]
          omega
  exact go _ [] (fun b hb => by have := allB_row hb; omega) (by simp)
def bitAt (m n v : Nat) : Int := ((n / 2 ^ (m - 1 - v) % 2 : Nat) : Int)
theorem bitTab : ((List.range 64).all fun n => (List.range 6).all fun k => decide (bitop .and .i64 (shrI .i64 (n : Int) (k : Int)) 1 = ((n / 2 ^ k % 2 : Nat) : Int))) = true := by kernel_rfl
theorem bit_at {n k : Nat} (hn : n < 64) (hk : k < 6) : bitop .and .i64 (shrI .i64 (n : Int) (k : Int)) 1 = ((n / 2 ^ k % 2 : Nat) : Int) := by
  have h := List.all_eq_true.1 bitTab n (List.mem_range.2 hn)
  have h := List.all_eq_true.1 h k (List.mem_range.2 hk)
  exact of_decide_eq_true h
theorem assign_row {R : Type} {N m n : Nat} {k0 : Int → (List Int → Option Bool) → Int → Int → List (List Int) → List Int → Option R} {is : List Int → Option Bool} {x2 x3 : Int} {o1 : List (List Int)} (hm : m ≤ 6) (hn : n < 64) : ∀ (d v K : Nat) (o2 : List Int), v + d = m → d < K → o2.length = v →
    impl_assignments_own_l0_0 N k0 K (m : Int) is (n : Int) x2 x3 (m : Int) (v : Int) o1 o2 = k0 (m : Int) is x2 x3 o1 (o2 ++ (List.range' v d).map (bitAt m n)) := by
  intro d
  induction d with
  | zero =>
    intro v K o2 hv hK ho
    obtain ⟨K, rfl⟩ := succ_of hK
    simp only [impl_assignments_own_l0_0, ilt_nf (show ¬ v < m by omega), br_f]
    simp
  | succ d ih =>
    intro v K o2 hv hK ho
    obtain ⟨K, rfl⟩ := succ_of hK
    have e1 : IntKind.i64.wrap (IntKind.i64.wrap ((m : Int) - 1) - (v : Int)) = ((m - 1 - v : Nat) : Int) := by
      rw [wrap_ok (show -9223372036854775808 ≤ (m : Int) - 1 by omega) (by omega), wrap_ok (by omega) (by omega)]
      omega
    simp only [impl_assignments_own_l0_0, ilt_n (show v < m by omega), br_t, e1, bit_at hn (show m - 1 - v < 6 by omega)]
    rw [ile_t (by omega), chk_t, room_ok (by simp; omega), chk_t, wrap_succ (by omega), ih (v + 1) K _ (by omega) (by omega) (by simp [tApp_d, ho])]
    rw [List.range'_succ, List.map_cons, tApp_d, List.append_assoc]
    rfl
def rowB (m n : Nat) : List Int := (List.range m).map (bitAt m n)
theorem allB_rows (m : Nat) : allB m = (List.range (2 ^ m)).map (rowB m) := rfl
theorem pow_le64 {m : Nat} (h : m ≤ 6) : 2 ^ m ≤ 64 := Nat.pow_le_pow_right (by omega) h
theorem shl_m {m : Nat} (h : m ≤ 6) : shlI .i64 1 (m : Int) = ((2 ^ m : Nat) : Int) := by
  rcases (by omega : m = 0 ∨ m = 1 ∨ m = 2 ∨ m = 3 ∨ m = 4 ∨ m = 5 ∨ m = 6) with rfl | rfl | rfl | rfl | rfl | rfl | rfl <;> rfl
theorem assignments_eq {N m : Nat} {is : List Int → Option Bool} {p : List Int → Bool} (hN : 1048577 ≤ N) (hm : m ≤ 6) (hp : ∀ b ∈ allB m, is b = some (p b)) : impl_assignments_own N (m : Int) is = some (((allB m).filter p, ()), ()) := by
  have h64 := pow_le64 hm
  have go : ∀ (r c K : Nat) (o : List (List Int)), c + r = 2 ^ m → r < K → o.length ≤ c →
      impl_assignments_own_l0 N (fun o => some ((o, ()), ())) K (m : Int) is ((2 ^ m : Nat) : Int) (c : Int) o = some ((o ++ ((List.range' c r).map (rowB m)).filter p, ()), ()) := by
    intro r
    induction r with
    | zero =>
      intro c K o hc hK ho
      obtain ⟨K, rfl⟩ := succ_of hK
      simp only [impl_assignments_own_l0, ilt_nf (show ¬ c < 2 ^ m by omega), br_f]
      simp
    | succ r ih =>
      intro c K o hc hK ho
      obtain ⟨K, rfl⟩ := succ_of hK
      simp only [impl_assignments_own_l0, ilt_n (show c < 2 ^ m by omega), br_t]
      have := assign_row (N := N) (m := m) (n := c) (k0 := fun vars2 is2 x2 x3 o1 o2 => (is2 o2).bind fun v => br v (chk (room o1 [o2]) (impl_assignments_own_l0 N (fun o => some ((o, ()), ())) K vars2 is2 x2 (IntKind.i64.wrap (x3 + 1)) (tApp o1 [o2]))) (impl_assignments_own_l0 N (fun o => some ((o, ()), ())) K vars2 is2 x2 (IntKind.i64.wrap (x3 + 1)) o1))
        (is := is) (x2 := ((2 ^ m : Nat) : Int)) (x3 := (c : Int)) (o1 := o) hm (by omega) m 0 N [] (by omega) (by omega) rfl
      rw [show ((0 : Nat) : Int) = 0 from rfl] at this
      rw [this, List.nil_append, ← List.range_eq_range']
      have hmem : rowB m c ∈ allB m := by rw [allB_rows]; exact List.mem_map.2 ⟨c, List.mem_range.2 (by omega), rfl⟩
      have hq := hp _ hmem
      unfold rowB at hq
      rw [hq, bind_some', wrap_succ (by omega), List.range'_succ, List.map_cons]
      cases hb : p (rowB m c) with
      | true =>
        unfold rowB at hb
        rw [hb, br_t, room_ok (by simp; omega), chk_t, tApp_d, ih (c + 1) K _ (by omega) (by omega) (by simp; omega)]
        rw [List.filter_cons_of_pos (show p (rowB m c) = true from hb), List.append_assoc]
        rfl
      | false =>
        unfold rowB at hb
        rw [hb, br_f, ih (c + 1) K _ (by omega) (by omega) (by omega)]
        rw [List.filter_cons_of_neg (by show ¬ p (rowB m c) = true; unfold rowB; rw [hb]; simp)]
  unfold impl_assignments_own
  rw [ile_t (by omega), chk_t, shl_m hm]
  have := go (2 ^ m) 0 N [] (by omega) (by omega) (by simp)
  rw [show ((0 : Nat) : Int) = 0 from rfl] at this
  rw [this, List.nil_append, ← List.range_eq_range', ← allB_rows]
theorem allB_bits {m : Nat} {b : List Int} (h : b ∈ allB m) : ∀ x ∈ b, x = 0 ∨ x = 1 := by
  obtain ⟨n, _, rfl⟩ := List.mem_map.1 h
  intro x hx
  obtain ⟨v, _, rfl⟩ := List.mem_map.1 hx
  omega
def sumAt (b : List Int) : List Int → Int
  | [] => 0
  | v :: r => rdI b v + sumAt b r
theorem rdI_bit {b : List Int} (h : ∀ x ∈ b, x = 0 ∨ x = 1) (i : Int) : rdI b i = 0 ∨ rdI b i = 1 := by
  unfold rdI
  rw [List.getD_eq_getElem?_getD]
  cases hq : b[i.toNat]? with
  | none => exact .inl rfl
  | some v => exact h v (List.mem_of_getElem? hq)
theorem sumAt_le {b : List Int} (h : ∀ x ∈ b, x = 0 ∨ x = 1) : ∀ row : List Int, 0 ≤ sumAt b row ∧ sumAt b row ≤ row.length := by
  intro row
  induction row with
  | nil => simp [sumAt]
  | cons v r ih =>
    have := rdI_bit h v
    simp only [sumAt, List.length_cons]
    omega
theorem sumAt_snoc (b : List Int) (v : Int) : ∀ row : List Int, sumAt b (row ++ [v]) = sumAt b row + rdI b v := by
  intro row
  induction row with
  | nil => simp [sumAt]
  | cons u r ih => simp only [sumAt, List.cons_append]; omega
theorem rising_in {lo hi : Int} {xs : List Int} (h : rising lo hi xs) : ∀ x ∈ xs, lo ≤ x ∧ x ≤ hi := all_rdI.2 fun i hi => (h i hi).1
def evenAt (rows : List (List Int)) (right : List Int) (b : List Int) (r : Nat) : Prop := (rdI right r + sumAt b (rdL rows r)) % 2 = 0
noncomputable def evenB (p : Int × (List (List Int) × List Int)) (b : List Int) : Bool := decide (∀ r, r < p.2.1.length → evenAt p.2.1 p.2.2 b r)
theorem goodP_right {p : Int × (List (List Int) × List Int)} (h : goodP p) : p.2.2.length = p.2.1.length ∧ ∀ x ∈ p.2.2, x = 0 ∨ x = 1 := by
  have := h.2.2.1
  rw [Bool.and_eq_true, decide_eq_true_iff] at this
  refine ⟨by omega, fun x hx => ?_⟩
  have := List.all_eq_true.1 this.1 x hx
  simp only [isBit, decide_eq_true_eq] at this
  omega
theorem parity_row {R : Type} {N : Nat} {k0 : List Int → Int × (List (List Int) × List Int) → Int → Int → List (List Int) → Int → Int → Option R} {b row : List Int} {x4 : Int × (List (List Int) × List Int)} {i : Int} {x5 : List (List Int)} {x6 x7 : Int} (hb : ∀ x ∈ b, x = 0 ∨ x = 1) (hr : ∀ v ∈ row, 0 ≤ v ∧ v < b.length) (hl : row.length ≤ 1048576) :
    ∀ (d n K : Nat), n + d = row.length → d < K → impl_Parity_solutions_c1_l0_0 N k0 K b x4 i (sumAt b (row.take n)) x5 x6 x7 row (row.length : Int) (n : Int) = k0 b x4 i (sumAt b row) x5 x6 x7 := by
  intro d
  induction d with
  | zero =>
    intro n K hn hK
    obtain ⟨K, rfl⟩ := succ_of hK
    simp only [impl_Parity_solutions_c1_l0_0, ilt_nf (show ¬ n < row.length by omega), br_f]
    rw [List.take_of_length_le (by omega)]
  | succ d ih =>
    intro n K hn hK
    obtain ⟨K, rfl⟩ := succ_of hK
    have hlt : n < row.length := by omega
    have hv := hr _ (List.getElem_mem hlt)
    simp only [impl_Parity_solutions_c1_l0_0, ilt_n hlt, br_t, inb_n hlt, chk_t, rdI_n hlt]
    rw [inb_i hv.1 (by omega), chk_t]
    have h1 := sumAt_le hb (row.take n)
    have h2 := rdI_bit hb row[n]
    have h3 : (row.take n).length ≤ 1048576 := by simp; omega
    rw [wrap_ok (show -9223372036854775808 ≤ sumAt b (row.take n) + rdI b row[n] by omega) (by omega), wrap_succ (by omega), ← sumAt_snoc]
    have e : row.take n ++ [row[n]] = row.take (n + 1) := by rw [List.take_add_one, List.getElem?_eq_getElem hlt]; rfl
    rw [e]
    exact ih (n + 1) K (by omega) (by omega)
theorem parity_c1 {N : Nat} (hN : 1048577 ≤ N) {p : Int × (List (List Int) × List Int)} (hp : goodP p) (hrows : ∀ x ∈ p.2.1, x.length ≤ 1048576) {b : List Int} (hb : b ∈ allB p.1.toNat) : impl_Parity_solutions_c1 N b p = some ((evenB p b, ()), ()) := by
  have hbits := allB_bits hb
  have hbl := allB_row hb
  obtain ⟨hr1, hr2⟩ := goodP_right hp
  have h0 := hp.1
  have h6 := hp.2.1
  unfold impl_Parity_solutions_c1
  have := loop_all_if (P := ∀ r, r < p.2.1.length → evenAt p.2.1 p.2.2 b r) (m := p.2.1.length) (L := fun K i => impl_Parity_solutions_c1_l0 N (fun x => some ((x, ()), ())) (fun (_ : Unit) => some ((true, ()), ())) K b p p.2.1 (p.2.1.length : Int) i) (fun i => evenAt p.2.1 p.2.2 b i) Iff.rfl
    (kt := some ((true, ()), ())) (kf := some ((false, ()), ())) (fun K n hn => ?_) (fun K n hn hq => ?_) (fun K n hn hq => ?_) (show p.2.1.length < N by omega)
  · rw [show ((0 : Nat) : Int) = 0 from rfl] at this
    rw [tLen_n, this]
    unfold evenB
    by_cases h : ∀ r, r < p.2.1.length → evenAt p.2.1 p.2.2 b r
    · rw [if_pos h, decide_eq_true h]
    · rw [if_neg h, decide_eq_false h]
  · simp only [impl_Parity_solutions_c1_l0, ilt_nf hn, br_f]
  all_goals
    simp only [impl_Parity_solutions_c1_l0, ilt_n hn, br_t, inb_n hn, chk_t]
    have hmem : rdL p.2.1 n ∈ p.2.1 := by rw [rdL_n hn]; exact List.getElem_mem hn
    have hin := rising_in (hp.2.2.2 _ hmem)
    have hlen := hrows _ hmem
    have hpr := parity_row (R := (Bool × Unit) × Unit) (N := N) (k0 := fun list2 x4 i sum x5 x6 x7 => chk (inb x4.2.2 i) (br (ine (sum.tmod 2) (rdI x4.2.2 i)) (some ((false, ()), ())) (impl_Parity_solutions_c1_l0 N (fun x => some ((x, ()), ())) (fun (_ : Unit) => some ((true, ()), ())) K list2 x4 x5 x6 (IntKind.i64.wrap (x7 + 1)))))
      (b := b) (row := rdL p.2.1 n) (x4 := p) (i := (n : Int)) (x5 := p.2.1) (x6 := (p.2.1.length : Int)) (x7 := (n : Int)) hbits (fun v hv => by have := hin v hv; omega) hlen (rdL p.2.1 n).length 0 N (by omega) (by omega)
    simp only [List.take_zero, sumAt] at hpr
    rw [show ((0 : Nat) : Int) = 0 from rfl] at hpr
    rw [tLen_n, hpr, inb_n (show n < p.2.2.length by omega), chk_t, wrap_succ (by omega)]
    have hs := sumAt_le hbits (rdL p.2.1 n)
    have hbit := rdI_bit hr2 (n : Int)
    rw [Int.tmod_eq_emod_of_nonneg hs.1]
    unfold evenAt at hq
  · rw [ine_f (by omega), br_f]
  · rw [ine_t (by omega), br_t]
theorem impl_even_eq {N : Nat} (hN : 1048577 ≤ N) {p : Int × (List (List Int) × List Int)} (hp : goodP p) (hrows : ∀ x ∈ p.2.1, x.length ≤ 1048576) : impl_Parity_solutions N p = some (((allB p.1.toNat).filter (evenB p), ()), ()) := by
  unfold impl_Parity_solutions
  have h0 := hp.1
  have e : p.1 = ((p.1.toNat : Nat) : Int) := by omega
  have := assignments_eq hN (m := p.1.toNat) (is := fun y0 => (impl_Parity_solutions_c1 N y0 p).bind fun z => some z.1.1) (p := evenB p) (by omega) fun b hb => by rw [parity_c1 hN hp hrows hb, bind_some']
  rw [← e] at this
  rw [show ((p.1, (p.2.1, p.2.2)) : Int × (List (List Int) × List Int)) = p from rfl, this, bind_some']
theorem even_row {R : Type} {N : Nat} {k0 : List (List Int) → Int → Bool → Int → Int → Int → List (List Int) → List Int → List (List Int) → Option R} {all rows : List (List Int)} {a r : Nat} {f : Bool} {x : Int} {o16 : Int} {right : List Int} {o19 : List (List Int)} (ha : a < all.length) (hr : r < rows.length) (hb : ∀ x ∈ rdL all a, x = 0 ∨ x = 1) (hrow : ∀ v ∈ rdL rows r, 0 ≤ v ∧ v < (rdL all a).length) (hl : (rdL rows r).length ≤ 1048576) (hx : x = 0 ∨ x = 1) :
    ∀ (d n K : Nat), n + d = (rdL rows r).length → d < K → spec_l6Even_l0_0_0 N k0 K all (a : Int) f (r : Int) (x + sumAt (rdL all a) ((rdL rows r).take n)) (n : Int) o16 rows right o19 = k0 all (a : Int) f (r : Int) (x + sumAt (rdL all a) (rdL rows r)) o16 rows right o19 := by
  intro d
  induction d with
  | zero =>
    intro n K hn hK
    obtain ⟨K, rfl⟩ := succ_of hK
    simp only [spec_l6Even_l0_0_0, inb_n hr, chk_t, tLen_n, ilt_nf (show ¬ n < (rdL rows r).length by omega), br_f]
    rw [List.take_of_length_le (by omega)]
  | succ d ih =>
    intro n K hn hK
    obtain ⟨K, rfl⟩ := succ_of hK
    have hlt : n < (rdL rows r).length := by omega
    have hv := hrow _ (List.getElem_mem hlt)
    simp only [spec_l6Even_l0_0_0, inb_n hr, inb_n ha, chk_t, tLen_n, ilt_n hlt, br_t, inb_n hlt, rdI_n hlt]
    rw [inb_i hv.1 (by omega), chk_t]
    have h1 := sumAt_le hb ((rdL rows r).take n)
    have h2 := rdI_bit hb (rdL rows r)[n]
    have h3 : ((rdL rows r).take n).length ≤ 1048576 := by simp; omega
    rw [wrap_ok (show -9223372036854775808 ≤ x + sumAt (rdL all a) ((rdL rows r).take n) + rdI (rdL all a) (rdL rows r)[n] by omega) (by omega), wrap_succ (by omega), Int.add_assoc, ← sumAt_snoc]
    have e : (rdL rows r).take n ++ [(rdL rows r)[n]] = (rdL rows r).take (n + 1) := by rw [List.take_add_one, List.getElem?_eq_getElem hlt]; rfl
    rw [e]
    exact ih (n + 1) K (by omega) (by omega)
theorem even_rows {R : Type} {N : Nat} (hN : 1048577 ≤ N) {k0 : List (List Int) → Int → Bool → Int → List (List Int) → List Int → List (List Int) → Option R} {all : List (List Int)} {a : Nat} {p : Int × (List (List Int) × List Int)} {o12 : Int} {o15 : List (List Int)} (hp : goodP p) (hrows : ∀ x ∈ p.2.1, x.length ≤ 1048576) (ha : a < all.length) (hb : ∀ x ∈ rdL all a, x = 0 ∨ x = 1) (hbl : (rdL all a).length = p.1.toNat) :
    ∀ (d n K : Nat) (f : Bool), n + d = p.2.1.length → d < K → spec_l6Even_l0_0 N k0 K all (a : Int) f (n : Int) o12 p.2.1 p.2.2 o15 = k0 all (a : Int) (f && decide (∀ r : Nat, n ≤ r → r < p.2.1.length → evenAt p.2.1 p.2.2 (rdL all a) r)) o12 p.2.1 p.2.2 o15 := by
  obtain ⟨hr1, hr2⟩ := goodP_right hp
  have h0 := hp.1
  have h6 := hp.2.1
  intro d
  induction d with
  | zero =>
    intro n K f hn hK
    obtain ⟨K, rfl⟩ := succ_of hK
    simp only [spec_l6Even_l0_0, ilt_lenf (show ¬ n < p.2.1.length by omega), br_f]
    rw [decide_eq_true (fun r h1 h2 => by omega), Bool.and_true]
  | succ d ih =>
    intro n K f hn hK
    obtain ⟨K, rfl⟩ := succ_of hK
    have hlt : n < p.2.1.length := by omega
    simp only [spec_l6Even_l0_0, ilt_len hlt, br_t, inb_n (show n < p.2.2.length by omega), chk_t]
    have hmem : rdL p.2.1 n ∈ p.2.1 := by rw [rdL_n hlt]; exact List.getElem_mem hlt
    have hin := rising_in (hp.2.2.2 _ hmem)
    have hlen := hrows _ hmem
    have hbit := rdI_bit hr2 (n : Int)
    have hpr := even_row (R := R) (N := N) (k0 := fun x11 x12 x13 x14 x15 o16 o17 o18 o19 => br x13 (spec_l6Even_l0_0 N k0 K x11 x12 (ieq (x15.tmod 2) 0) (IntKind.i64.wrap (x14 + 1)) o16 o17 o18 o19) (spec_l6Even_l0_0 N k0 K x11 x12 false (IntKind.i64.wrap (x14 + 1)) o16 o17 o18 o19))
      (all := all) (rows := p.2.1) (a := a) (r := n) (f := f) (x := rdI p.2.2 n) (o16 := o12) (right := p.2.2) (o19 := o15) ha hlt hb (fun v hv => by have := hin v hv; omega) hlen hbit (rdL p.2.1 n).length 0 N (by omega) (by omega)
    simp only [List.take_zero, sumAt, Int.add_zero] at hpr
    rw [show ((0 : Nat) : Int) = 0 from rfl] at hpr
    rw [hpr]
    have hs := sumAt_le hb (rdL p.2.1 n)
    rw [Int.tmod_eq_emod_of_nonneg (show 0 ≤ rdI p.2.2 n + sumAt (rdL all a) (rdL p.2.1 n) by omega), wrap_succ (by omega)]
    have split : (∀ r : Nat, n ≤ r → r < p.2.1.length → evenAt p.2.1 p.2.2 (rdL all a) r) ↔ evenAt p.2.1 p.2.2 (rdL all a) n ∧ ∀ r : Nat, n + 1 ≤ r → r < p.2.1.length → evenAt p.2.1 p.2.2 (rdL all a) r :=
      ⟨fun h => ⟨h n (Nat.le_refl _) hlt, fun r h1 h2 => h r (by omega) h2⟩, fun h r h1 h2 => by
        by_cases e : r = n
        · rw [e]; exact h.1
        · exact h.2 r (by omega) h2⟩
    rw [ih (n + 1) K _ (by omega) (by omega), ih (n + 1) K _ (by omega) (by omega), ieq_d]
    cases f with
    | false => rw [br_f, Bool.false_and, Bool.false_and]
    | true =>
      rw [br_t, Bool.true_and, ← Bool.decide_and]
      congr 1
      exact decide_eq_decide.2 split.symm
theorem spec_even_eq {N : Nat} (hNe : N = 1048577) {p : Int × (List (List Int) × List Int)} (hp : goodP p) (hrows : ∀ x ∈ p.2.1, x.length ≤ 1048576) : spec_l6Even N p = some (((allB p.1.toNat).filter (evenB p), ()), ()) := by
  have hN : 1048577 ≤ N := by omega
  have h0 := hp.1
  have e : p.1 = ((p.1.toNat : Nat) : Int) := by omega
  have hall := allB_spec p.1.toNat (by omega)
  rw [← hNe, ← e] at hall
  unfold spec_l6Even
  rw [hall, bind_some']
  have hlen := allB_len p.1.toNat
  have h64 := pow_le64 (m := p.1.toNat) (by omega)
  have go : ∀ (d n K : Nat) (o : List (List Int)), n + d = (allB p.1.toNat).length → d < K → o.length ≤ n →
      spec_l6Even_l0 N (fun o8 => some ((o8, ()), ())) K (allB p.1.toNat) (n : Int) p.1 p.2.1 p.2.2 o = some ((o ++ ((allB p.1.toNat).drop n).filter (evenB p), ()), ()) := by
    intro d
    induction d with
    | zero =>
      intro n K o hn hK ho
      obtain ⟨K, rfl⟩ := succ_of hK
      simp only [spec_l6Even_l0, ilt_lenf (show ¬ n < (allB p.1.toNat).length by omega), br_f]
      rw [List.drop_of_length_le (by omega)]
      simp
    | succ d ih =>
      intro n K o hn hK ho
      obtain ⟨K, rfl⟩ := succ_of hK
      have hlt : n < (allB p.1.toNat).length := by omega
      simp only [spec_l6Even_l0, ilt_len hlt, br_t]
      have hmem : rdL (allB p.1.toNat) n ∈ allB p.1.toNat := by rw [rdL_n hlt]; exact List.getElem_mem hlt
      have := even_rows (R := (List (List Int) × Unit) × Unit) hN (k0 := fun x7 x8 x9 o12 o13 o14 o15 => br x9 (chk (inb x7 x8) (chk (room o15 [rdL x7 x8]) (spec_l6Even_l0 N (fun o8 => some ((o8, ()), ())) K x7 (IntKind.i64.wrap (x8 + 1)) o12 o13 o14 (tApp o15 [rdL x7 x8])))) (spec_l6Even_l0 N (fun o8 => some ((o8, ()), ())) K x7 (IntKind.i64.wrap (x8 + 1)) o12 o13 o14 o15))
        (all := allB p.1.toNat) (a := n) (p := p) (o12 := p.1) (o15 := o) hp hrows hlt (allB_bits hmem) (allB_row hmem) p.2.1.length 0 N true (by omega) (by have := hp.2.1; omega)
      rw [show ((0 : Nat) : Int) = 0 from rfl] at this
      rw [this, Bool.true_and, wrap_succ (by omega)]
      obtain ⟨y, r, e1, e2, e3⟩ := drop_split hlt
      have hev : decide (∀ r : Nat, 0 ≤ r → r < p.2.1.length → evenAt p.2.1 p.2.2 (rdL (allB p.1.toNat) n) r) = evenB p y := by
        unfold evenB
        rw [rdL_n hlt, e2]
        exact decide_eq_decide.2 ⟨fun h r hr => h r (Nat.zero_le _) hr, fun h r _ hr => h r hr⟩
      rw [hev, e1]
      cases hq : evenB p y with
      | true =>
        rw [br_t, inb_n hlt, chk_t, room_ok (by simp; omega), chk_t, tApp_d, ih (n + 1) K _ (by omega) (by omega) (by simp; omega), rdL_n hlt, e2, e3, List.filter_cons_of_pos hq, List.append_assoc]
        rfl
      | false =>
        rw [br_f, ih (n + 1) K _ (by omega) (by omega) (by omega), e3, List.filter_cons_of_neg (by rw [hq]; simp)]
  have := go (allB p.1.toNat).length 0 N [] (by omega) (by omega) (by simp)
  rw [show ((0 : Nat) : Int) = 0 from rfl] at this
  rw [this, List.nil_append, List.drop_zero]
/-! ### The formula of a parity -/
noncomputable def parF (p : Int × (List (List Int) × List Int)) : (Int × List (List Int)) × Bool := if goodP p then ((p.1, formR p.1.toNat ((allB p.1.toNat).filter (evenB p))), true) else ((0, []), false)
theorem even_small {p : Int × (List (List Int) × List Int)} (hp : goodP p) : ((allB p.1.toNat).filter (evenB p)).length ≤ 64 ∧ ∀ s ∈ (allB p.1.toNat).filter (evenB p), s.length ≤ 1048576 := by
  have h0 := hp.1
  have h64 := pow_le64 (m := p.1.toNat) (by omega)
  refine ⟨?_, fun s hs => ?_⟩
  · have := List.length_filter_le (evenB p) (allB p.1.toNat)
    rw [allB_len] at this
    omega
  · have := allB_row (List.mem_filter.1 hs).1
    omega
theorem spec_ParityFormula_eq {N : Nat} (hNe : N = 1048577) {p : Int × (List (List Int) × List Int)} (hx : p.2.1.length ≤ 1048576) (hxs : ∀ x ∈ p.2.1, x.length ≤ 1048576) (hy : p.2.2.length ≤ 1048576) : spec_ParityFormula N p = some (((parF p).1, (parF p).2, ()), ()) := by
  have hN : 1048577 ≤ N := by omega
  unfold spec_ParityFormula parF
  rw [show ((p.1, (p.2.1, p.2.2)) : Int × (List (List Int) × List Int)) = p from rfl, spec_l6Parity_eq hx hxs hy hN, bind_some']
  by_cases h : goodP p
  · obtain ⟨s1, s2⟩ := even_small h
    have h0 := h.1
    have e : p.1 = ((p.1.toNat : Nat) : Int) := by omega
    have := (spec_l6Formula_eq (m := p.1.toNat) (ss := (allB p.1.toNat).filter (evenB p)) hNe (by omega) (by omega) s2).1
    rw [← e] at this
    rw [decide_eq_true h, Bool.not_true, br_f, spec_even_eq hNe h hxs, bind_some', this, bind_some', if_pos h]
  · rw [decide_eq_false h, Bool.not_false, br_t, if_neg h]
theorem impl_ParityFormula_eq {N : Nat} (hNe : N = 1048577) {p : Int × (List (List Int) × List Int)} (hx : p.2.1.length ≤ 1048576) (hxs : ∀ x ∈ p.2.1, x.length ≤ 1048576) (hy : p.2.2.length ≤ 1048576) : impl_ParityFormula N p = some (((parF p).1, (parF p).2, ()), ()) := by
  have hN : 1048577 ≤ N := by omega
  unfold impl_ParityFormula parF
  rw [show ((p.1, (p.2.1, p.2.2)) : Int × (List (List Int) × List Int)) = p from rfl, impl_IsParity_eq hx hxs hy hN, bind_some']
  by_cases h : goodP p
  · obtain ⟨s1, s2⟩ := even_small h
    have h0 := h.1
    have e : p.1 = ((p.1.toNat : Nat) : Int) := by omega
    have := impl_formulaOf_eq (m := p.1.toNat) (ss := (allB p.1.toNat).filter (evenB p)) hNe (by omega) (by omega) s2
    rw [← e] at this
    rw [decide_eq_true h, Bool.not_true, br_f, impl_even_eq hN h hxs, bind_some', this, bind_some', if_pos h]
  · rw [decide_eq_false h, Bool.not_false, br_t, if_neg h]
theorem parF_small {p : Int × (List (List Int) × List Int)} : (parF p).1.2.length ≤ 64 ∧ ∀ x ∈ (parF p).1.2, x.length ≤ 1048576 := by
  unfold parF
  by_cases h : goodP p
  · rw [if_pos h]
    have h0 := h.1
    obtain ⟨s1, s2⟩ := even_small h
    exact ⟨(spec_l6Formula_eq (N := 1048577) (m := p.1.toNat) rfl (by omega) (by omega) s2).2, formR_rows (by omega) _⟩
  · rw [if_neg h]; simp
theorem ParityFormula_pure {N : Nat} (hNe : N = 1048577) {p : Int × (List (List Int) × List Int)} (hx : p.2.1.length ≤ 9223372036854775807) (hxs : ∀ x ∈ p.2.1, x.length ≤ 9223372036854775807) (hy : p.2.2.length ≤ 9223372036854775807) : laws_FnExactParityFormula N p = some ((true, ()), ()) := by
  unfold laws_FnExactParityFormula
  have hN : 1048577 ≤ N := by omega
  obtain ⟨r, h1, h2⟩ := szParity_eq hx hxs hy hN
  rw [show ((p.1, (p.2.1, p.2.2)) : Int × (List (List Int) × List Int)) = p from rfl]
  simp only [h1, bind_some']
  by_cases h : 0 ≤ r
  · rw [ilt_f (by omega), br_f]
    obtain ⟨h3, h4, h5⟩ := h2 h
    obtain ⟨q1, q2⟩ := parF_small (p := p)
    have k0 : (0 : Int) ≤ 1 ∧ (1 : Int) ≤ 1152921504606846976 := by omega
    have q3 := sumL_le q2
    have q4 := sumL_le h4
    simp only [toParity_eq h3 h4 h5 hN, bind_some', spec_ParityFormula_eq hNe h3 h4 h5, impl_ParityFormula_eq hNe h3 h4 h5, eqParity_eq h3 h4 h5 hN, eqFormula_eq (show (parF p).1.2.length ≤ 1048576 by omega) q2 hN, decide_true, Bool.not_true, br_f,
      markParity_eq k0 h3 h4 h5 hN, ilt_f (show ¬ 1 + sumL p.2.1 + (p.2.2.length : Int) < 0 by omega), markFormula_eq k0 (show (parF p).1.2.length ≤ 1048576 by omega) q2 hN, heldFormula_eq k0 (show (parF p).1.2.length ≤ 1048576 by omega) q2 hN, ilt_f (show ¬ 1 + sumL (parF p).1.2 < 0 by omega), ine_f (rfl : 1 + sumL (parF p).1.2 = 1 + sumL (parF p).1.2)]
    simp [br_ite]
  · rw [ilt_t (by omega), br_t]
theorem ParityFormula_pureT : ∀ x : argsT (psOf [QIQLLILI]), WfA [QIQLLILI] x → ∃ k m, (laws_FnExactParityFormula_S k).f x = some ((true, ()), m) :=
  fun x h => ⟨1048577, (), ParityFormula_pure rfl (len_ok h.1.2.1.1) (fun y hy => len_ok (h.1.2.1.2 y hy).1) (len_ok h.1.2.2.1)⟩
end Go.Proofs.Ythkejedgfhjdiaa
