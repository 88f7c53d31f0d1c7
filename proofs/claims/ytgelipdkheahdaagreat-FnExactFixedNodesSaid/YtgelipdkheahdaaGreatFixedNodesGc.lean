/- Statements on data alone. -/
import Derived.Test.YtgelipdkheahdaaGreatPvPure
import Derived.Test.YtgelipdkheahdaaGreatFixedNodesGb
set_option linter.all false
set_option linter.all false
namespace Go.Proofs.YtgelipdkheahdaaGreat
open Go Go.PV Classical
theorem bitsLenTab : ((List.range 1024).all fun n => match math_bits_Len 0 (n : Int) with | some r => (r.1.1 != 0) || n == 0 | none => false) = true := by kernel_rfl
theorem bitsLen_pos (N : Nat) {n : Nat} (h : n < 1024) : ∃ r : Int, math_bits_Len N (n : Int) = some ((r, ()), ()) ∧ (0 < n → r ≠ 0) := by
  have h1 := List.all_eq_true.1 bitsLenTab n (List.mem_range.2 h)
  have e : math_bits_Len N (n : Int) = math_bits_Len 0 (n : Int) := rfl
  rw [e]
  generalize math_bits_Len 0 (n : Int) = z at h1
  match z, h1 with
  | some ((r, ()), ()), h1 =>
    refine ⟨r, rfl, fun hn hr => ?_⟩
    subst hr
    simp at h1
    omega
theorem SortFunc_srt {N : Nat} {xs : List (List Int)} {c : List Int → List Int → Option Int} (h : Srt xs c) (hx : xs.length < 1024) (hN : 1048577 ≤ N) : slices_SortFunc_LLI_LI N xs c = some ((), ()) := by
  unfold slices_SortFunc_LLI_LI
  obtain ⟨r, hr, hp⟩ := bitsLen_pos N hx
  rw [tLen_n, wrap64 (by omega), hr, bind_some']
  unfold slices_pdqsortCmpFunc_LI
  obtain ⟨k', hk'⟩ : ∃ k', N = k' + 1 := ⟨N - 1, by omega⟩
  have : slices_pdqsortCmpFunc_LI_l0 N (fun (_ : Unit) => some ((), ())) N xs 0 (xs.length : Int) r c true true = some ((), ()) := by
    conv => lhs; rw [hk']
    simp only [slices_pdqsortCmpFunc_LI_l0]
    rw [← hk', wrap_ok (by omega) (by omega)]
    by_cases h12 : xs.length ≤ 12
    · rw [ile_t (by omega), br_t, insertF_eq h (by omega) hN, bind_some']
    · obtain ⟨p, hp2⟩ := choose_eq (N := N) h (by omega) (by omega)
      rw [ile_f (by omega), br_f, ieq_f (hp (by omega)), br_f, Bool.not_true, br_f, hp2, bind_some']
      simp only [br_t]
      rw [ieq_f (by decide), br_f, ieq_t rfl, br_t, partial_eq h (by omega) (by omega) hN, bind_some']
      rfl
  rw [this]
  rfl
def lexSorted (xs : List (List Int)) : Prop := xs.Pairwise fun a b => lexC a b < 0
theorem srt_lex {N : Nat} {xs : List (List Int)} (h : lexSorted xs) (hl : ∀ x ∈ xs, x.length ≤ 1048576) (hN : 1048577 ≤ N) : Srt xs (fun y0 y1 => (slices_Compare_LI_int N y0 y1).bind fun z => some z.1.1) := by
  intro i j hij hj
  have hi : i < xs.length := by omega
  rw [rdL_n hj, rdL_n hi]
  refine ⟨lexC xs[j] xs[i], by show (slices_Compare_LI_int N xs[j] xs[i]).bind _ = _; rw [Compare_lex (hl _ (List.getElem_mem hj)) (hl _ (List.getElem_mem hi)) hN]; rfl, ?_⟩
  by_cases he : i = j
  · subst he
    rw [lexC_self]
    omega
  · have := List.pairwise_iff_getElem.1 h i j hi hj (by omega)
    have h2 := lexC_anti xs[i] xs[j]
    omega
noncomputable def rowSteps (p : List Int → List Int → Bool) (xs : List (List Int)) (i : Nat) : List (Int × Int) := ((List.range' (i + 1) (xs.length - (i + 1))).filter fun j : Nat => p (rdL xs (i : Int)) (rdL xs (j : Int))).map fun j : Nat => ((i : Int), (j : Int))
noncomputable def stepsL (p : List Int → List Int → Bool) (xs : List (List Int)) : List (Int × Int) := (List.range' 0 xs.length).flatMap (rowSteps p xs)
theorem rowSteps_len (p : List Int → List Int → Bool) (xs : List (List Int)) (i : Nat) : (rowSteps p xs i).length ≤ xs.length := by
  unfold rowSteps
  rw [List.length_map]
  exact Nat.le_trans (List.length_filter_le ..) (by simp)
theorem spaceOf_ne {N : Nat} {xs : List (List Int)} {is : List Int → List Int → Option Bool} {p : List Int → List Int → Bool} (hs : lexSorted xs) (hl : ∀ x ∈ xs, x.length ≤ 1048576) (hx : xs.length < 1024) (hp : ∀ a ∈ xs, ∀ b ∈ xs, a ≠ b → is a b = some (p a b)) (hN : 1048577 ≤ N) :
    impl_spaceOf N xs is = some (((xs, stepsL p xs), ()), ()) := by
  unfold impl_spaceOf
  rw [SortFunc_srt (srt_lex hs hl hN) hx hN, bind_some', tLen_n]
  have hrd : ∀ j : Nat, j < xs.length → rdL xs (j : Int) ∈ xs := fun j hj => by rw [rdL_n hj]; exact List.getElem_mem hj
  have hne : ∀ i j : Nat, i < j → j < xs.length → rdL xs (i : Int) ≠ rdL xs (j : Int) := fun i j hij hj e => by
    have := List.pairwise_iff_getElem.1 hs i j (by omega) hj hij
    rw [rdL_n (show i < xs.length by omega), rdL_n hj] at e
    rw [e, lexC_self] at this
    omega
  have inner : ∀ (d i j K : Nat) (o : List (Int × Int)) (k0 : (List Int → List Int → Option Bool) → Int → Int → List (List Int) → List (Int × Int) → Option (((List (List Int) × List (Int × Int)) × Unit) × Unit)), i < xs.length → j + d = xs.length - (i + 1) → d < K → o.length + d ≤ 1099511627776 →
      impl_spaceOf_l0_0 N k0 K is (i : Int) (i : Int) (xs.length : Int) (i : Int) ((i + 1 : Nat) : Int) (xs.length : Int) ((xs.length - (i + 1) : Nat) : Int) (j : Int) xs o = k0 is (xs.length : Int) (i : Int) xs (o ++ ((List.range' (i + 1 + j) d).filter fun j : Nat => p (rdL xs (i : Int)) (rdL xs (j : Int))).map fun j : Nat => ((i : Int), (j : Int))) := by
    intro d
    induction d with
    | zero =>
      intro i j K o k0 hi hj hK ho
      obtain ⟨k, rfl⟩ := succ_of hK
      simp only [impl_spaceOf_l0_0, ilt_nf (show ¬ j < xs.length - (i + 1) by omega), br_f]
      simp
    | succ d ih =>
      intro i j K o k0 hi hj hK ho
      obtain ⟨k, rfl⟩ := succ_of hK
      have hj' : i + 1 + j < xs.length := by omega
      simp only [impl_spaceOf_l0_0, ilt_n (show j < xs.length - (i + 1) by omega), br_t]
      rw [ile_t (by omega), ilt_t (show (j : Int) < (xs.length : Int) - ((i + 1 : Nat) : Int) by omega)]
      simp only [Bool.and_self, chk_t]
      rw [show ((i + 1 : Nat) : Int) + (j : Int) = ((i + 1 + j : Nat) : Int) by omega, hp _ (hrd i hi) _ (hrd _ hj') (hne i _ (by omega) hj'), bind_some', wrap_succ (show i < 4611686018427387904 by omega), show ((i + 1 : Nat) : Int) + (j : Int) = ((i + 1 + j : Nat) : Int) by omega, wrap_ok (n := ((i + 1 + j : Nat) : Int)) (by omega) (by omega), room_ok (by simp; omega), chk_t, wrap_succ (by omega), tApp_d, List.range'_succ]
      cases hb : p (rdL xs (i : Int)) (rdL xs ((i + 1 + j : Nat) : Int)) with
      | true =>
        rw [br_t, ih i (j + 1) k _ k0 hi (by omega) (by omega) (by simp; omega), List.filter_cons_of_pos (by exact hb), List.append_assoc]
        rfl
      | false =>
        rw [br_f, ih i (j + 1) k _ k0 hi (by omega) (by omega) (by omega), List.filter_cons_of_neg (by rw [hb]; simp)]
        rfl
  have go : ∀ (d i K : Nat) (o : List (Int × Int)), i + d = xs.length → d < K → o.length ≤ i * xs.length →
      impl_spaceOf_l0 N (fun o o1 => some (((o, o1), ()), ())) K is (xs.length : Int) (i : Int) xs o = some (((xs, o ++ (List.range' i d).flatMap (rowSteps p xs)), ()), ()) := by
    intro d
    induction d with
    | zero =>
      intro i K o hd hK ho
      obtain ⟨k, rfl⟩ := succ_of hK
      simp only [impl_spaceOf_l0, ilt_nf (show ¬ i < xs.length by omega), br_f]
      simp
    | succ d ih =>
      intro i K o hd hK ho
      obtain ⟨k, rfl⟩ := succ_of hK
      have hi : i < xs.length := by omega
      have hmul : i * xs.length ≤ 1024 * 1024 := Nat.mul_le_mul (by omega) (by omega)
      simp only [impl_spaceOf_l0, ilt_n hi, br_t, inb_n hi, chk_t]
      rw [wrap_succ (by omega), tLen_n, ile_t (by omega), ile_t (by omega), ile_t (Int.le_refl _)]
      simp only [Bool.and_self, chk_t]
      rw [show (xs.length : Int) - ((i + 1 : Nat) : Int) = ((xs.length - (i + 1) : Nat) : Int) by omega]
      have h1 := inner (xs.length - (i + 1)) i 0 N o (fun isStep2 x2 x3 o2 o3 => impl_spaceOf_l0 N (fun o o1 => some (((o, o1), ()), ())) k isStep2 x2 (IntKind.i64.wrap (x3 + 1)) o2 o3) hi (by omega) (by omega) (by omega)
      simp only [Int.natCast_zero] at h1
      rw [h1, Nat.add_zero, wrap_succ (by omega)]
      have h2 := rowSteps_len p xs i
      have h3 := ih (i + 1) k (o ++ rowSteps p xs i) (by omega) (by omega) (by rw [List.length_append, Nat.add_mul, Nat.one_mul]; omega)
      rw [List.append_assoc] at h3
      rw [List.range'_succ, List.flatMap_cons]
      exact h3
  have := go xs.length 0 N [] (by omega) (by omega) (Nat.zero_le _)
  exact this
theorem spaceOf_eq {N : Nat} {xs : List (List Int)} {is : List Int → List Int → Option Bool} {p : List Int → List Int → Bool} (hs : lexSorted xs) (hl : ∀ x ∈ xs, x.length ≤ 1048576) (hx : xs.length < 1024) (hp : ∀ a ∈ xs, ∀ b ∈ xs, is a b = some (p a b)) (hN : 1048577 ≤ N) :
    impl_spaceOf N xs is = some (((xs, stepsL p xs), ()), ()) := spaceOf_ne hs hl hx (fun a ha b hb _ => hp a ha b hb) hN
/-! ### Places that differ -/
noncomputable def apartL (a b : List Int) : List Int := ((List.range' 0 a.length).filter fun i : Nat => decide (rdI a (i : Int) ≠ rdI b (i : Int))).map fun i : Nat => (i : Int)
noncomputable def isCh (a b : List Int) : Bool := decide ((apartL a b).length = 1)
theorem places_ap {N : Nat} {a b : List Int} (ha : a.length ≤ 1048576) (hab : a.length ≤ b.length) (hN : 1048577 ≤ N) : impl_places N a b = some ((apartL a b, ()), ()) := by
  unfold impl_places
  rw [tLen_n]
  refine (loop_iter (L := fun K n o => impl_places_l0 N (fun o => some ((o, ()), ())) K b a (a.length : Int) n o) (k := fun o => some ((o, ()), ())) (Inv := fun n o => o.length ≤ n) (step := fun n o => if rdI a (n : Int) ≠ rdI b (n : Int) then o ++ [(n : Int)] else o) (fun K n s hn _ => ?_) (fun K n s hn hs => ?_) (fun n s hn h => ?_) (s := []) (m := a.length) (K := N) (by omega) (Nat.zero_le _)).trans ?_
  · simp only [impl_places_l0, ilt_nf hn, br_f]
  · simp only [impl_places_l0, ilt_n hn, br_t, inb_n hn, inb_n (show n < b.length by omega), chk_t]
    rw [wrap_succ (by omega), room_ok (by simp; omega), chk_t, tApp_d]
    by_cases h : rdI a (n : Int) = rdI b (n : Int)
    · rw [ine_f h.symm, br_f, if_neg (not_not_intro h)]
    · rw [ine_t (fun e => h e.symm), br_t, if_pos h]
  · by_cases hc : rdI a (n : Int) = rdI b (n : Int)
    · rw [if_neg (not_not_intro hc)]; omega
    · rw [if_pos hc]; simp; omega
  · rw [iter_app, List.nil_append]
    rfl
theorem isChange_eq {N : Nat} {a b : List Int} (ha : a.length ≤ 1048576) (hab : a.length ≤ b.length) (hN : 1048577 ≤ N) : impl_isChange N a b = some ((isCh a b, ()), ()) := by
  unfold impl_isChange isCh
  rw [places_ap ha hab hN, bind_some', tLen_n]
  congr 3
  by_cases h : (apartL a b).length = 1
  · rw [ieq_t (show ((apartL a b).length : Int) = 1 by omega), decide_eq_true h]
  · rw [ieq_f (show ((apartL a b).length : Int) ≠ 1 by omega), decide_eq_false h]
theorem lexC_pre : ∀ (b u v : List Int), lexC (b ++ u) (b ++ v) = lexC u v := by
  intro b
  induction b with
  | nil => intro u v; rfl
  | cons x b ih => intro u v; simp [lexC, ih]
def BefC (d : Nat) (b : List Int) (l : List (List Int)) : Prop := lexSorted l ∧ ∀ x ∈ l, ∀ s : List Int, s.length = d → lexC x (b ++ s) < 0
theorem moreC_sorted {k : Nat} {es : List (Int × Int)} : ∀ (d : Nat) (b : List Int) (l : List (List Int)), BefC d b l → ∃ t, moreC k es d b l = l ++ t ∧ lexSorted (l ++ t) ∧ ∀ x ∈ t, ∃ s : List Int, s.length = d ∧ x = b ++ s ∧ ∀ z ∈ s, 0 ≤ z ∧ z < (k : Int) := by
  intro d
  induction d with
  | zero =>
    intro b l h
    refine ⟨[b], rfl, ?_, fun x hx => ?_⟩
    · refine List.pairwise_append.2 ⟨h.1, List.pairwise_singleton .., fun x hx y hy => ?_⟩
      simp at hy
      subst hy
      have := h.2 x hx [] rfl
      rwa [List.append_nil] at this
    · simp at hx
      subst hx
      exact ⟨[], rfl, by simp, by simp⟩
  | succ d ih =>
    intro b l h
    have go : ∀ (r c : Nat) (t : List (List Int)), c + r = k → lexSorted (l ++ t) → (∀ x ∈ t, ∃ (c' : Nat) (s : List Int), c' < c ∧ s.length = d ∧ x = b ++ (c' : Int) :: s ∧ ∀ z ∈ s, 0 ≤ z ∧ z < (k : Int)) →
        ∃ t', stepsC (fun c l => if freeC es b (c : Int) then moreC k es d (b ++ [(c : Int)]) l else l) r c (l ++ t) = l ++ t' ∧ lexSorted (l ++ t') ∧ ∀ x ∈ t', ∃ (c' : Nat) (s : List Int), c' < k ∧ s.length = d ∧ x = b ++ (c' : Int) :: s ∧ ∀ z ∈ s, 0 ≤ z ∧ z < (k : Int) := by
      intro r
      induction r with
      | zero =>
        intro c t hc ht hx
        refine ⟨t, rfl, ht, fun x hx' => ?_⟩
        obtain ⟨c', s, h1, h2⟩ := hx x hx'
        exact ⟨c', s, by omega, h2⟩
      | succ r ihr =>
        intro c t hc ht hx
        unfold stepsC
        by_cases h3 : (l ++ t).length ≤ 300
        · rw [if_pos h3]
          by_cases hf : freeC es b (c : Int)
          · rw [if_pos hf]
            obtain ⟨t2, e1, e2, e3⟩ := ih (b ++ [(c : Int)]) (l ++ t) ⟨ht, fun x hx' s hs => by
              rcases List.mem_append.1 hx' with hx' | hx'
              · have := h.2 x hx' ((c : Int) :: s) (by simp [hs])
                rw [List.append_assoc]
                exact this
              · obtain ⟨c', s', h1, h2, rfl, _⟩ := hx x hx'
                rw [List.append_assoc, lexC_pre]
                simp only [List.singleton_append, lexC]
                rw [if_pos (by omega)]
                decide⟩
            rw [e1, List.append_assoc]
            rw [List.append_assoc] at e2
            refine ihr (c + 1) (t ++ t2) (by omega) e2 fun x hx' => ?_
            rcases List.mem_append.1 hx' with hx' | hx'
            · obtain ⟨c', s', h1, h2⟩ := hx x hx'
              exact ⟨c', s', by omega, h2⟩
            · obtain ⟨s, g1, g2, g3⟩ := e3 x hx'
              exact ⟨c, s, by omega, g1, by rw [g2, List.append_assoc]; rfl, g3⟩
          · rw [if_neg hf]
            refine ihr (c + 1) t (by omega) ht fun x hx' => ?_
            obtain ⟨c', s', h1, h2⟩ := hx x hx'
            exact ⟨c', s', by omega, h2⟩
        · rw [if_neg h3]
          refine ⟨t, rfl, ht, fun x hx' => ?_⟩
          obtain ⟨c', s, h1, h2⟩ := hx x hx'
          exact ⟨c', s, by omega, h2⟩
    unfold moreC
    obtain ⟨t', e1, e2, e3⟩ := go k 0 [] (by omega) (by simpa using h.1) (by simp)
    rw [List.append_nil] at e1
    refine ⟨t', e1, e2, fun x hx => ?_⟩
    obtain ⟨c', s, h1, h2, h3, h4⟩ := e3 x hx
    refine ⟨(c' : Int) :: s, by simp [h2], h3, fun z hz => ?_⟩
    rcases List.mem_cons.1 hz with rfl | hz
    · omega
    · exact h4 z hz
theorem allC_sorted (g : Int × List (Int × Int)) (k : Int) : lexSorted (allC g k) ∧ ∀ x ∈ allC g k, ∀ z ∈ x, 0 ≤ z ∧ z < (k.toNat : Int) := by
  obtain ⟨t, e1, e2, e3⟩ := moreC_sorted (k := k.toNat) (es := g.2) g.1.toNat [] [] ⟨List.Pairwise.nil, by simp⟩
  unfold allC
  rw [e1]
  refine ⟨e2, fun x hx z hz => ?_⟩
  rw [List.nil_append] at hx
  obtain ⟨s, _, h2, h3⟩ := e3 x hx
  rw [h2, List.nil_append] at hz
  exact h3 z hz
/-! ### Not too many steps -/
theorem nodup_leL : ∀ {a b : List (List Int)}, a.Nodup → (∀ x ∈ a, x ∈ b) → a.length ≤ b.length := by
  intro a
  induction a with
  | nil => intro b _ _; exact Nat.zero_le _
  | cons x a ih =>
    intro b hn hs
    obtain ⟨h1, h2⟩ := List.nodup_cons.1 hn
    have hx := hs x (List.mem_cons_self ..)
    have := ih (b := b.erase x) h2 fun y hy => (List.mem_erase_of_ne (fun (e : y = x) => h1 (e ▸ hy))).2 (hs y (List.mem_cons_of_mem _ hy))
    rw [List.length_erase_of_mem hx] at this
    have := List.length_pos_of_mem hx
    rw [List.length_cons]
    omega
def numP (q : Nat → Bool) (s d : Nat) : Nat := ((List.range' s d).filter q).length
theorem numP_succ (q : Nat → Bool) (s d : Nat) : numP q s (d + 1) = numP q s d + if q (s + d) = true then 1 else 0 := by
  unfold numP
  rw [List.range'_1_concat, List.filter_append, List.length_append]
  congr 1
  by_cases h : q (s + d) = true <;> simp [h]
theorem numP_split (q : Nat → Bool) : ∀ (d s e : Nat), numP q s (d + e) = numP q s d + numP q (s + d) e := by
  intro d s e
  unfold numP
  rw [← List.range'_append_1, List.filter_append, List.length_append]
theorem sum_up (p : Nat → Nat → Bool) (hp : ∀ i j, p i j = p j i) : ∀ n, ((List.range' 0 n).map fun i : Nat => numP (p i) (i + 1) (n - (i + 1))).sum = ((List.range' 0 n).map fun i : Nat => numP (p i) 0 i).sum := by
  intro n
  induction n with
  | zero => rfl
  | succ n ih =>
    rw [List.range'_1_concat, List.map_append, List.sum_append, List.map_append, List.sum_append, ← ih]
    simp only [Nat.zero_add, List.map_cons, List.map_nil, List.sum_cons, List.sum_nil, Nat.add_zero]
    have e0 : numP (p n) (n + 1) (n + 1 - (n + 1)) = 0 := by rw [Nat.sub_self]; rfl
    rw [e0, Nat.add_zero]
    have key : ∀ m, m ≤ n → ((List.range' 0 m).map fun i : Nat => numP (p i) (i + 1) (n + 1 - (i + 1))).sum = ((List.range' 0 m).map fun i : Nat => numP (p i) (i + 1) (n - (i + 1))).sum + numP (p n) 0 m := by
      intro m
      induction m with
      | zero => intro _; rfl
      | succ m ihm =>
        intro hm
        rw [List.range'_1_concat, List.map_append, List.sum_append, List.map_append, List.sum_append, ihm (by omega), numP_succ (p n) 0 m]
        simp only [Nat.zero_add, List.map_cons, List.map_nil, List.sum_cons, List.sum_nil, Nat.add_zero]
        have := numP_succ (p m) (m + 1) (n - (m + 1))
        rw [show n - (m + 1) + 1 = n + 1 - (m + 1) by omega, show m + 1 + (n - (m + 1)) = n by omega] at this
        rw [this, hp m n]
        omega
    exact key n (Nat.le_refl n)
theorem sum_add {f g h : Nat → Nat} : ∀ (xs : List Nat), (∀ i ∈ xs, f i + g i ≤ h i) → (xs.map f).sum + (xs.map g).sum ≤ (xs.map h).sum := by
  intro xs
  induction xs with
  | nil => intro _; simp
  | cons x xs ih =>
    intro hh
    have h1 := hh x (List.mem_cons_self ..)
    have h2 := ih fun i hi => hh i (List.mem_cons_of_mem _ hi)
    simp only [List.map_cons, List.sum_cons]
    omega
theorem steps_half {p : List Int → List Int → Bool} {xs : List (List Int)} {B : Nat} (hsym : ∀ a ∈ xs, ∀ b ∈ xs, p a b = p b a) (hB : ∀ i, i < xs.length → numP (fun j : Nat => p (rdL xs (i : Int)) (rdL xs (j : Int))) 0 xs.length ≤ B) : 2 * (stepsL p xs).length ≤ xs.length * B := by
  have hrd : ∀ j : Nat, j < xs.length → rdL xs (j : Int) ∈ xs := fun j hj => by rw [rdL_n hj]; exact List.getElem_mem hj
  have e : (stepsL p xs).length = ((List.range' 0 xs.length).map fun i : Nat => numP (fun j : Nat => p (rdL xs (i : Int)) (rdL xs (j : Int))) (i + 1) (xs.length - (i + 1))).sum := by
    unfold stepsL
    rw [List.length_flatMap]
    congr 1
    refine List.map_congr_left fun i _ => ?_
    unfold rowSteps numP
    rw [List.length_map]
  have hp' := sum_up (fun i j : Nat => p (rdL xs (i : Int)) (rdL xs (j : Int)) && decide (i < xs.length) && decide (j < xs.length)) (fun i j => by
    by_cases hi : i < xs.length <;> by_cases hj : j < xs.length
    · rw [hsym _ (hrd i hi) _ (hrd j hj)]; simp [hi, hj]
    · simp [hi, hj]
    · simp [hi, hj]
    · simp [hi, hj]) xs.length
  have c1 : ∀ i, i < xs.length → ∀ s d, s + d ≤ xs.length → numP (fun j : Nat => p (rdL xs (i : Int)) (rdL xs (j : Int)) && decide (i < xs.length) && decide (j < xs.length)) s d = numP (fun j : Nat => p (rdL xs (i : Int)) (rdL xs (j : Int))) s d := by
    intro i hi s d hd
    unfold numP
    congr 1
    refine List.filter_congr fun j hj => ?_
    have := List.mem_range'_1.1 hj
    simp [hi, show j < xs.length by omega]
  have m1 : ((List.range' 0 xs.length).map fun i : Nat => numP (fun j : Nat => p (rdL xs (i : Int)) (rdL xs (j : Int)) && decide (i < xs.length) && decide (j < xs.length)) (i + 1) (xs.length - (i + 1))) = (List.range' 0 xs.length).map fun i : Nat => numP (fun j : Nat => p (rdL xs (i : Int)) (rdL xs (j : Int))) (i + 1) (xs.length - (i + 1)) :=
    List.map_congr_left fun i hi => by have := List.mem_range'_1.1 hi; exact c1 i (by omega) _ _ (by omega)
  have m2 : ((List.range' 0 xs.length).map fun i : Nat => numP (fun j : Nat => p (rdL xs (i : Int)) (rdL xs (j : Int)) && decide (i < xs.length) && decide (j < xs.length)) 0 i) = (List.range' 0 xs.length).map fun i : Nat => numP (fun j : Nat => p (rdL xs (i : Int)) (rdL xs (j : Int))) 0 i :=
    List.map_congr_left fun i hi => by have := List.mem_range'_1.1 hi; exact c1 i (by omega) _ _ (by omega)
  rw [m1, m2] at hp'
  have h3 := sum_add (f := fun i : Nat => numP (fun j : Nat => p (rdL xs (i : Int)) (rdL xs (j : Int))) 0 i) (g := fun i : Nat => numP (fun j : Nat => p (rdL xs (i : Int)) (rdL xs (j : Int))) (i + 1) (xs.length - (i + 1))) (h := fun i : Nat => numP (fun j : Nat => p (rdL xs (i : Int)) (rdL xs (j : Int))) 0 xs.length) (List.range' 0 xs.length) fun i hi => by
    have hi := List.mem_range'_1.1 hi
    have h1 := numP_split (fun j : Nat => p (rdL xs (i : Int)) (rdL xs (j : Int))) (i + 1) 0 (xs.length - (i + 1))
    rw [show i + 1 + (xs.length - (i + 1)) = xs.length by omega, Nat.zero_add] at h1
    have h2 := numP_succ (fun j : Nat => p (rdL xs (i : Int)) (rdL xs (j : Int))) 0 i
    rw [h1, h2]
    omega
  have h4 := sum_le (f := fun i : Nat => numP (fun j : Nat => p (rdL xs (i : Int)) (rdL xs (j : Int))) 0 xs.length) (b := B) (xs := List.range' 0 xs.length) fun i hi => hB i (by have := List.mem_range'_1.1 hi; omega)
  rw [List.length_range'] at h4
  rw [e]
  omega
theorem numP_le {p : List Int → Bool} {xs L : List (List Int)} (hs : xs.Nodup) (h : ∀ b ∈ xs, p b = true → b ∈ L) : numP (fun j : Nat => p (rdL xs (j : Int))) 0 xs.length ≤ L.length := by
  have e : numP (fun j : Nat => p (rdL xs (j : Int))) 0 xs.length = (xs.filter p).length := by
    have go : ∀ (ys zs : List (List Int)), numP (fun j : Nat => p (rdL (zs ++ ys) (j : Int))) zs.length ys.length = (ys.filter p).length := by
      intro ys
      induction ys with
      | nil => intro zs; rfl
      | cons y ys ih =>
        intro zs
        have h1 := ih (zs ++ [y])
        rw [List.append_assoc, List.singleton_append, List.length_append, List.length_singleton] at h1
        have h2 := numP_split (fun j : Nat => p (rdL (zs ++ y :: ys) (j : Int))) 1 zs.length ys.length
        rw [List.length_cons, Nat.add_comm ys.length 1, h2, h1]
        have h3 : rdL (zs ++ y :: ys) (zs.length : Int) = y := by rw [rdL_n (by simp)]; simp
        have h4 : numP (fun j : Nat => p (rdL (zs ++ y :: ys) (j : Int))) zs.length 1 = if p y = true then 1 else 0 := by
          unfold numP
          rw [List.range'_one]
          by_cases hy : p y = true <;> simp [hy, h3]
        rw [h4, List.filter_cons]
        by_cases hy : p y = true
        · rw [if_pos hy, if_pos hy, List.length_cons]; omega
        · rw [if_neg hy, if_neg hy]; omega
    exact go xs []
  rw [e]
  exact nodup_leL (List.Pairwise.filter _ hs) fun x hx => h x (List.mem_filter.1 hx).1 (List.mem_filter.1 hx).2
theorem lexSorted_nodup {xs : List (List Int)} (h : lexSorted xs) : xs.Nodup := h.imp fun hab e => by rw [e, lexC_self] at hab; omega
theorem apartL_symm {a b : List Int} (h : a.length = b.length) : apartL a b = apartL b a := by
  unfold apartL
  rw [h]
  congr 1
  refine List.filter_congr fun i _ => ?_
  by_cases h : rdI a (i : Int) = rdI b (i : Int)
  · simp [h]
  · have h' : ¬ rdI b (i : Int) = rdI a (i : Int) := fun e => h e.symm
    simp [h, h']
def changesL (k : Nat) (a : List Int) : List (List Int) := (List.range a.length).flatMap fun v : Nat => ((List.range k).filter fun c : Nat => decide ((c : Int) ≠ rdI a (v : Int))).map fun c : Nat => a.set v (c : Int)
theorem changesL_len {k : Nat} {a : List Int} (ha : ∀ z ∈ a, 0 ≤ z ∧ z < (k : Int)) : (changesL k a).length ≤ a.length * (k - 1) := by
  unfold changesL
  rw [List.length_flatMap]
  have := sum_le (f := fun v : Nat => (((List.range k).filter fun c : Nat => decide ((c : Int) ≠ rdI a (v : Int))).map fun c : Nat => a.set v (c : Int)).length) (b := k - 1) (xs := List.range a.length) fun v hv => by
    have hv := List.mem_range.1 hv
    have hz := ha (rdI a (v : Int)) (by rw [rdI_n hv]; exact List.getElem_mem hv)
    obtain ⟨z, hz1⟩ : ∃ z : Nat, rdI a (v : Int) = z := ⟨(rdI a (v : Int)).toNat, by omega⟩
    rw [List.length_map]
    have e : ((List.range k).filter fun c : Nat => decide ((c : Int) ≠ rdI a (v : Int))) = (List.range k).erase z := by
      rw [List.nodup_range.erase_eq_filter]
      refine List.filter_congr fun c _ => ?_
      rw [hz1]
      by_cases h : c = z
      · simp [h]
      · simp [h, show (c : Int) ≠ z by omega]
    rw [e, List.length_erase_of_mem (List.mem_range.2 (by omega)), List.length_range]
    exact Nat.le_refl _
  rwa [List.length_range] at this
theorem isCh_mem {k : Nat} {a b : List Int} (hab : a.length = b.length) (hb : ∀ z ∈ b, 0 ≤ z ∧ z < (k : Int)) (h : isCh a b = true) : b ∈ changesL k a := by
  have h1 := of_decide_eq_true h
  obtain ⟨v, hv⟩ := List.length_eq_one_iff.1 h1
  have hm : ∀ i : Nat, i < a.length → (rdI a (i : Int) ≠ rdI b (i : Int) ↔ (i : Int) = v) := by
    intro i hi
    have : (i : Int) ∈ apartL a b ↔ (i : Int) = v := by rw [hv]; simp
    rw [← this]
    unfold apartL
    rw [List.mem_map]
    constructor
    · intro hne
      exact ⟨i, List.mem_filter.2 ⟨List.mem_range'_1.2 (by omega), decide_eq_true hne⟩, rfl⟩
    · rintro ⟨j, hj, hji⟩
      have : j = i := by omega
      subst this
      exact of_decide_eq_true (List.mem_filter.1 hj).2
  have hvin : v ∈ apartL a b := by rw [hv]; simp
  obtain ⟨i, hi, rfl⟩ := List.mem_map.1 hvin
  have hil := List.mem_range'_1.1 (List.mem_filter.1 hi).1
  have hia : i < a.length := by omega
  have hz := hb (rdI b (i : Int)) (by rw [rdI_n (by omega)]; exact List.getElem_mem _)
  unfold changesL
  refine List.mem_flatMap.2 ⟨i, List.mem_range.2 hia, List.mem_map.2 ⟨(rdI b (i : Int)).toNat, List.mem_filter.2 ⟨List.mem_range.2 (by omega), decide_eq_true ?_⟩, ?_⟩⟩
  · have := (hm i hia).2 rfl
    rw [show (((rdI b (i : Int)).toNat : Nat) : Int) = rdI b (i : Int) by omega]
    exact fun e => this e.symm
  · rw [show (((rdI b (i : Int)).toNat : Nat) : Int) = rdI b (i : Int) by omega]
    refine List.ext_getElem (by rw [List.length_set]; exact hab) fun j h1 h2 => ?_
    rw [List.length_set] at h1
    by_cases hji : j = i
    · subst hji
      rw [List.getElem_set_self, rdI_n h2]
    · rw [List.getElem_set_ne (fun e => hji e.symm)]
      have := (hm j h1)
      have h3 : rdI a (j : Int) = rdI b (j : Int) := by
        by_cases he : rdI a (j : Int) = rdI b (j : Int)
        · exact he
        · have := this.1 he; omega
      rw [rdI_n h1, rdI_n h2] at h3
      exact h3
theorem colSteps_le {g : Int × List (Int × Int)} {k : Int} (h : colCase g k) (hl : (allC g k).length ≤ 300) : (stepsL isCh (allC g k)).length ≤ 4800 := by
  obtain ⟨s1, s2⟩ := allC_sorted g k
  have hr := allC_rows (g := g) (k := k)
  have hg := h.1.1
  have hk := h.2
  have := steps_half (p := isCh) (xs := allC g k) (B := 32) (fun a ha b hb => by unfold isCh; rw [apartL_symm (by rw [hr a ha, hr b hb])]) fun i hi => by
    have hi' : rdL (allC g k) (i : Int) ∈ allC g k := by rw [rdL_n hi]; exact List.getElem_mem hi
    refine Nat.le_trans (numP_le (p := fun b => isCh (rdL (allC g k) (i : Int)) b) (lexSorted_nodup s1) fun b hb hc => isCh_mem (by rw [hr _ hi', hr b hb]) (s2 b hb) hc) ?_
    refine Nat.le_trans (changesL_len (s2 _ hi')) ?_
    rw [hr _ hi']
    exact Nat.le_trans (Nat.mul_le_mul (show g.1.toNat ≤ 8 by omega) (show k.toNat - 1 ≤ 4 by omega)) (by omega)
  omega
theorem l5Changed_ap {N : Nat} {a b : List Int} (ha : a.length ≤ 1048576) (hab : a.length ≤ b.length) (hN : 1048577 ≤ N) : spec_l5Changed N a b = some ((apartL a b, ()), ()) := by
  unfold spec_l5Changed
  refine (loop_iter (L := fun K n o => spec_l5Changed_l0 N (fun o => some ((o, ()), ())) K a b n o) (k := fun o => some ((o, ()), ())) (Inv := fun n o => o.length ≤ n) (step := fun n o => if rdI a (n : Int) ≠ rdI b (n : Int) then o ++ [(n : Int)] else o) (fun K n s hn _ => ?_) (fun K n s hn hs => ?_) (fun n s hn h => ?_) (s := []) (m := a.length) (K := N) (by omega) (Nat.zero_le _)).trans ?_
  · simp only [spec_l5Changed_l0, ilt_lenf hn, br_f]
  · simp only [spec_l5Changed_l0, ilt_len hn, br_t, inb_n hn, inb_n (show n < b.length by omega), chk_t]
    rw [wrap_succ (by omega), room_ok (by simp; omega), chk_t, tApp_d]
    by_cases h : rdI a (n : Int) = rdI b (n : Int)
    · rw [ine_f h, br_f, if_neg (not_not_intro h)]
    · rw [ine_t h, br_t, if_pos h]
  · by_cases hc : rdI a (n : Int) = rdI b (n : Int)
    · rw [if_neg (not_not_intro hc)]; omega
    · rw [if_pos hc]; simp; omega
  · rw [iter_app, List.nil_append]
    rfl
theorem l5Space_loop {N : Nat} {m : Int} {es : List (Int × Int)} {kempe : Bool} {xs : List (List Int)} {p : List Int → List Int → Bool} (hp : ∀ a ∈ xs, ∀ b ∈ xs, spec_l5Step N (m, es) kempe a b = some ((p a b, ()), ())) (hx : xs.length < 1024) (hN : 1048577 ≤ N) :
    spec_l5Space_l0 N (fun o o1 => some (((o, o1), true, ()), ())) N kempe 0 m es xs [] = some (((xs, stepsL p xs), true, ()), ()) := by
  have hrd : ∀ j : Nat, j < xs.length → rdL xs (j : Int) ∈ xs := fun j hj => by rw [rdL_n hj]; exact List.getElem_mem hj
  have inner : ∀ (d i j K : Nat) (o : List (Int × Int)) (k0 : Bool → Int → Int → List (Int × Int) → List (List Int) → List (Int × Int) → Option (((List (List Int) × List (Int × Int)) × Bool × Unit) × Unit)), i < xs.length → j + d = xs.length → d < K → o.length + d ≤ 1099511627776 →
      spec_l5Space_l0_0 N k0 K kempe (i : Int) (j : Int) m es xs o = k0 kempe (i : Int) m es xs (o ++ ((List.range' j d).filter fun j : Nat => p (rdL xs (i : Int)) (rdL xs (j : Int))).map fun j : Nat => ((i : Int), (j : Int))) := by
    intro d
    induction d with
    | zero =>
      intro i j K o k0 hi hj hK ho
      obtain ⟨k, rfl⟩ := succ_of hK
      simp only [spec_l5Space_l0_0, ilt_lenf (show ¬ j < xs.length by omega), br_f]
      simp
    | succ d ih =>
      intro i j K o k0 hi hj hK ho
      obtain ⟨k, rfl⟩ := succ_of hK
      have hj' : j < xs.length := by omega
      simp only [spec_l5Space_l0_0, ilt_len hj', br_t, inb_n hi, inb_n hj', chk_t]
      rw [hp _ (hrd i hi) _ (hrd j hj'), bind_some', room_ok (by simp; omega), chk_t, wrap_succ (by omega), tApp_d, List.range'_succ]
      simp only []
      cases hb : p (rdL xs (i : Int)) (rdL xs (j : Int)) with
      | true =>
        rw [br_t, ih i (j + 1) k _ k0 hi (by omega) (by omega) (by simp; omega), List.filter_cons_of_pos (by exact hb), List.append_assoc]
        rfl
      | false =>
        rw [br_f, ih i (j + 1) k _ k0 hi (by omega) (by omega) (by omega), List.filter_cons_of_neg (by rw [hb]; simp)]
  have go : ∀ (d i K : Nat) (o : List (Int × Int)), i + d = xs.length → d < K → o.length ≤ i * xs.length →
      spec_l5Space_l0 N (fun o o1 => some (((o, o1), true, ()), ())) K kempe (i : Int) m es xs o = some (((xs, o ++ (List.range' i d).flatMap (rowSteps p xs)), true, ()), ()) := by
    intro d
    induction d with
    | zero =>
      intro i K o hd hK ho
      obtain ⟨k, rfl⟩ := succ_of hK
      simp only [spec_l5Space_l0, ilt_lenf (show ¬ i < xs.length by omega), br_f]
      simp
    | succ d ih =>
      intro i K o hd hK ho
      obtain ⟨k, rfl⟩ := succ_of hK
      have hi : i < xs.length := by omega
      have hmul : i * xs.length ≤ 1024 * 1024 := Nat.mul_le_mul (by omega) (by omega)
      simp only [spec_l5Space_l0, ilt_len hi, br_t]
      rw [wrap_succ (by omega)]
      have h1 := inner (xs.length - (i + 1)) i (i + 1) N o (fun kempe2 i1 o4 o5 o6 o7 => spec_l5Space_l0 N (fun o o1 => some (((o, o1), true, ()), ())) k kempe2 (IntKind.i64.wrap (i1 + 1)) o4 o5 o6 o7) hi (by omega) (by omega) (by omega)
      rw [h1, wrap_succ (by omega)]
      have h2 := rowSteps_len p xs i
      have h3 := ih (i + 1) k (o ++ rowSteps p xs i) (by omega) (by omega) (by rw [List.length_append, Nat.add_mul, Nat.one_mul]; omega)
      rw [List.append_assoc] at h3
      rw [List.range'_succ, List.flatMap_cons]
      exact h3
  have := go xs.length 0 N [] (by omega) (by omega) (Nat.zero_le _)
  exact this
theorem orNone_eq {N : Nat} {x : List (List Int) × List (Int × Int)} (h1 : x.1.length ≤ 300) (h2 : x.2.length ≤ 6000) : impl_orNone N x = some ((x, true, ()), ()) := by
  unfold impl_orNone
  rw [tLen_n, tLen_n, ilt_f (by omega), br_f, ilt_f (by omega), br_f]
noncomputable def colSpV (g : Int × List (Int × Int)) (k : Int) : (List (List Int) × List (Int × Int)) × Bool := if colCase g k ∧ (allC g k).length ≤ 300 then ((allC g k, stepsL isCh (allC g k)), true) else (([], []), false)
theorem apart_mem {a b : List Int} {x : Int} (h : x ∈ apartL a b) : InN a.length x ∧ rdI a x ≠ rdI b x := by
  unfold apartL at h
  obtain ⟨i, hi, rfl⟩ := List.mem_map.1 h
  obtain ⟨h1, h2⟩ := List.mem_filter.1 hi
  have := List.mem_range'_1.1 h1
  exact ⟨in_nat (by omega), of_decide_eq_true h2⟩
theorem sortI_self {xs : List Int} : asc xs → sortI xs = xs := by
  have go : ∀ (n : Nat) (xs : List Int), xs.length = n → asc xs → sortI xs = xs := by
    intro n
    induction n with
    | zero =>
      intro xs h _
      cases xs with
      | nil => rfl
      | cons => simp at h
    | succ n ih =>
      intro xs h ha
      have hne : xs ≠ [] := fun e => by rw [e] at h; simp at h
      obtain ⟨ys, y, rfl⟩ : ∃ ys y, xs = ys ++ [y] := ⟨xs.dropLast, xs.getLast hne, (List.dropLast_concat_getLast hne).symm⟩
      have ha' := List.pairwise_append.1 ha
      rw [sortI_snoc, ih ys (by simp at h; exact h) ha'.1]
      exact insI_ge fun z hz => ha'.2.2 z hz y (List.mem_singleton_self _)
  exact go xs.length xs rfl
theorem asc_rd {xs : List Int} (h : asc xs) {i j : Nat} (hij : i ≤ j) (hj : j < xs.length) : ¬ rdI xs (j : Int) < rdI xs (i : Int) := by
  rw [rdI_n hj, rdI_n (show i < xs.length by omega)]
  by_cases he : i = j
  · subst he; omega
  · have := List.pairwise_iff_getElem.1 h i j (by omega) hj (by omega)
    omega
theorem order2I_eq {N : Nat} {xs : List Int} (h : asc xs) {a b : Nat} (hab : a ≤ b) (hb : b < xs.length) (s : Int) : slices_order2Ordered_int N xs (a : Int) (b : Int) s = some (((a : Int), (b : Int), ()), (s, ())) := by
  unfold slices_order2Ordered_int
  rw [inb_n hb, chk_t, inb_n (by omega), chk_t, Less_eq, bind_some']
  simp only []
  rw [ilt_f (asc_rd h hab hb), br_f]
theorem medianI_eq {N : Nat} {xs : List Int} (h : asc xs) {a b d : Nat} (hab : a ≤ b) (hbd : b ≤ d) (hd : d < xs.length) (s : Int) : slices_medianOrdered_int N xs (a : Int) (b : Int) (d : Int) s = some (((b : Int), ()), (s, ())) := by
  unfold slices_medianOrdered_int
  rw [order2I_eq h hab (by omega), bind_some']
  simp only []
  rw [order2I_eq h hbd hd, bind_some']
  simp only []
  rw [order2I_eq h hab (by omega), bind_some']
theorem medianAdjI_eq {N : Nat} {xs : List Int} (h : asc xs) {a : Nat} (ha : 1 ≤ a) (hd : a + 1 < xs.length) (hx : xs.length ≤ 1048576) (s : Int) : slices_medianAdjacentOrdered_int N xs (a : Int) s = some (((a : Int), ()), (s, ())) := by
  unfold slices_medianAdjacentOrdered_int
  rw [wrap_pred (by omega) (by omega), wrap_succ (by omega), medianI_eq h (by omega) (by omega) hd, bind_some']
theorem chooseI_eq {N : Nat} {xs : List Int} (h : asc xs) (h12 : 12 < xs.length) (hx : xs.length ≤ 1048576) : ∃ p : Int, slices_choosePivotOrdered_int N xs 0 (xs.length : Int) = some ((p, 1, ()), ()) := by
  unfold slices_choosePivotOrdered_int
  have e4 : ((xs.length : Int)).tdiv 4 = ((xs.length / 4 : Nat) : Int) := rfl
  have hw : IntKind.i64.wrap ((xs.length : Int) - 0) = (xs.length : Int) := by rw [wrap_ok (by omega) (by omega)]; omega
  have q : ∀ k : Nat, k ≤ 3 → IntKind.i64.wrap (0 + IntKind.i64.wrap (((xs.length / 4 : Nat) : Int) * (k : Int))) = ((xs.length / 4 * k : Nat) : Int) := by
    intro k hk
    have hb : xs.length / 4 * k ≤ xs.length / 4 * 3 := Nat.mul_le_mul_left _ hk
    have e : ((xs.length / 4 : Nat) : Int) * (k : Int) = ((xs.length / 4 * k : Nat) : Int) := by simp
    rw [e, wrap_ok (n := ((xs.length / 4 * k : Nat) : Int)) (by omega) (by omega), wrap_ok (by omega) (by omega)]
    omega
  have q1 := q 1 (by omega)
  have q2 := q 2 (by omega)
  have q3 := q 3 (by omega)
  simp only [show ((1 : Nat) : Int) = 1 from rfl, show ((2 : Nat) : Int) = 2 from rfl, show ((3 : Nat) : Int) = 3 from rfl] at q1 q2 q3
  rw [hw, e4, wrap_ok (n := ((xs.length / 4 : Nat) : Int)) (by omega) (by omega), q1, q2, q3, ile_t (by omega), br_t]
  have b4 : 3 ≤ xs.length / 4 := by omega
  by_cases h50 : 50 ≤ xs.length
  · rw [ile_t (by omega), br_t, medianAdjI_eq h (by omega) (by omega) hx, bind_some']
    simp only []
    rw [medianAdjI_eq h (by omega) (by omega) hx, bind_some']
    simp only []
    rw [medianAdjI_eq h (by omega) (by omega) hx, bind_some']
    simp only []
    rw [medianI_eq h (by omega) (by omega) (by omega), bind_some', ieq_t rfl, br_t]
    exact ⟨_, rfl⟩
  · rw [ile_f (by omega), br_f, medianI_eq h (by omega) (by omega) (by omega), bind_some', ieq_t rfl, br_t]
    exact ⟨_, rfl⟩
theorem partialI_eq {N : Nat} {xs : List Int} (h : asc xs) (h1 : 1 ≤ xs.length) (hx : xs.length ≤ 1048576) (hN : 1048577 ≤ N) : slices_partialInsertionSortOrdered_int N xs 0 (xs.length : Int) = some ((true, ()), (xs, ())) := by
  unfold slices_partialInsertionSortOrdered_int
  obtain ⟨k', hk'⟩ : ∃ k', N = k' + 1 := ⟨N - 1, by omega⟩
  have go : ∀ (d i K : Nat) (k0 : Int → Int → Int → Int → List Int → Option ((Bool × Unit) × (List Int × Unit))), i + d = xs.length → d < K → 1 ≤ i → slices_partialInsertionSortOrdered_int_l0_0 N k0 K 0 (xs.length : Int) i 0 xs = k0 0 (xs.length : Int) (xs.length : Int) 0 xs := by
    intro d
    induction d with
    | zero =>
      intro i K k0 hd hK hi
      obtain ⟨k, rfl⟩ := succ_of hK
      simp only [slices_partialInsertionSortOrdered_int_l0_0, ilt_nf (show ¬ i < xs.length by omega), br_f]
      rw [show i = xs.length by omega]
    | succ d ih =>
      intro i K k0 hd hK hi
      obtain ⟨k, rfl⟩ := succ_of hK
      have hin : i < xs.length := by omega
      simp only [slices_partialInsertionSortOrdered_int_l0_0, ilt_n hin, br_t, inb_n hin, chk_t]
      rw [wrap_pred (by omega) (by omega), inb_n (by omega), chk_t, Less_eq, bind_some']
      simp only []
      rw [ilt_f (asc_rd h (by omega) hin), Bool.not_false, br_t, wrap_succ (by omega)]
      exact ih (i + 1) k k0 (by omega) (by omega) (by omega)
  rw [show IntKind.i64.wrap (0 + 1) = ((1 : Nat) : Int) from rfl, hk']
  simp only [slices_partialInsertionSortOrdered_int_l0]
  rw [← hk', ilt_t (by omega), br_t, go (xs.length - 1) 1 N _ (by omega) (by omega) (Nat.le_refl 1), ieq_t rfl, br_t]
theorem Sort_asc {N : Nat} {xs : List Int} (h : asc xs) (hx : xs.length < 1024) (hN : 1048577 ≤ N) : slices_Sort_LI_int N xs = some ((), (xs, ())) := by
  unfold slices_Sort_LI_int
  obtain ⟨r, hr, hp⟩ := bitsLen_pos N hx
  rw [tLen_n, wrap64 (by omega), hr, bind_some']
  unfold slices_pdqsortOrdered_int
  obtain ⟨k', hk'⟩ : ∃ k', N = k' + 1 := ⟨N - 1, by omega⟩
  have : slices_pdqsortOrdered_int_l0 N (fun o => some ((), (o, ()))) N 0 (xs.length : Int) r true true xs = some ((), (xs, ())) := by
    conv => lhs; rw [hk']
    simp only [slices_pdqsortOrdered_int_l0]
    rw [← hk', wrap_ok (by omega) (by omega)]
    by_cases h12 : xs.length ≤ 12
    · rw [ile_t (by omega), br_t, insertion_eq (by omega) hN, bind_some', sortI_self h]
    · obtain ⟨p, hp2⟩ := chooseI_eq (N := N) h (by omega) (by omega)
      rw [ile_f (by omega), br_f, ieq_f (hp (by omega)), br_f, Bool.not_true, br_f, hp2, bind_some']
      simp only [br_t]
      rw [ieq_f (by decide), br_f, ieq_t rfl, br_t, partialI_eq h (by omega) (by omega) hN, bind_some']
      rfl
  rw [this]
  rfl
def okSt (n : Nat) (st : List (Int × Int)) : Prop := (st.Pairwise fun a b => a.1 < b.1 ∨ (a.1 = b.1 ∧ a.2 < b.2)) ∧ ∀ e ∈ st, 0 ≤ e.1 ∧ e.1 < e.2 ∧ e.2 < (n : Int)
noncomputable def nbA (st : List (Int × Int)) (v : Int) : List Int := (st.filter fun e => decide (e.2 = v)).map Prod.fst
noncomputable def nbB (st : List (Int × Int)) (v : Int) : List Int := (st.filter fun e => decide (e.1 = v)).map Prod.snd
noncomputable def nbS (st : List (Int × Int)) (v : Int) : List Int := nbA st v ++ nbB st v
noncomputable def nbT (st : List (Int × Int)) (v : Int) : List Int := st.flatMap fun e => (if e.1 = v then [e.2] else []) ++ (if e.2 = v then [e.1] else [])
noncomputable def nbL (n : Nat) (st : List (Int × Int)) : List (List Int) := (List.range n).map fun i : Nat => nbS st (i : Int)
theorem okSt_cons {n : Nat} {e : Int × Int} {st : List (Int × Int)} (h : okSt n (e :: st)) : okSt n st := ⟨(List.pairwise_cons.1 h.1).2, fun e' he' => h.2 e' (List.mem_cons_of_mem _ he')⟩
theorem nbT_eq {n : Nat} : ∀ {st : List (Int × Int)} {v : Int}, okSt n st → nbT st v = nbS st v := by
  intro st v
  induction st with
  | nil => intro _; rfl
  | cons e st ih =>
    intro h
    have ih := ih (okSt_cons h)
    have h1 := h.2 e (List.mem_cons_self ..)
    have h2 := (List.pairwise_cons.1 h.1).1
    unfold nbT at ih ⊢
    rw [List.flatMap_cons, ih]
    unfold nbS nbA nbB
    by_cases he : e.1 = v
    · have hne : ¬ e.2 = v := by omega
      have hnil : (st.filter fun e => decide (e.2 = v)) = [] := List.filter_eq_nil_iff.2 fun b hb => by
        have hb1 := h2 b hb
        have hb2 := h.2 b (List.mem_cons_of_mem _ hb)
        simp only [decide_eq_true_eq]
        omega
      rw [if_pos he, if_neg hne, List.filter_cons_of_neg (by simp [hne]), List.filter_cons_of_pos (by simp [he]), hnil]
      rfl
    · by_cases he2 : e.2 = v
      · rw [if_neg he, if_pos he2, List.filter_cons_of_pos (by simp [he2]), List.filter_cons_of_neg (by simp [he])]
        rfl
      · rw [if_neg he, if_neg he2, List.filter_cons_of_neg (by simp [he2]), List.filter_cons_of_neg (by simp [he])]
        rfl
theorem nbS_strict {n : Nat} {st : List (Int × Int)} {v : Int} (h : okSt n st) : (nbS st v).Pairwise (· < ·) := by
  unfold nbS nbA nbB
  refine List.pairwise_append.2 ⟨?_, ?_, ?_⟩
  · refine List.pairwise_map.2 ((h.1.filter _).imp_of_mem fun {a b} ha hb hab => ?_)
    have e1 := of_decide_eq_true (List.mem_filter.1 ha).2
    have e2 := of_decide_eq_true (List.mem_filter.1 hb).2
    omega
  · refine List.pairwise_map.2 ((h.1.filter _).imp_of_mem fun {a b} ha hb hab => ?_)
    have e1 := of_decide_eq_true (List.mem_filter.1 ha).2
    have e2 := of_decide_eq_true (List.mem_filter.1 hb).2
    omega
  · intro a ha b hb
    obtain ⟨a', ha1, rfl⟩ := List.mem_map.1 ha
    obtain ⟨b', hb1, rfl⟩ := List.mem_map.1 hb
    have e1 := of_decide_eq_true (List.mem_filter.1 ha1).2
    have e2 := of_decide_eq_true (List.mem_filter.1 hb1).2
    have l1 := h.2 a' (List.mem_filter.1 ha1).1
    have l2 := h.2 b' (List.mem_filter.1 hb1).1
    omega
theorem nbS_in {n : Nat} {st : List (Int × Int)} {v : Int} (h : okSt n st) : ∀ z ∈ nbS st v, InN n z := by
  intro z hz
  unfold nbS nbA nbB at hz
  rcases List.mem_append.1 hz with hz | hz
  · obtain ⟨a, ha, rfl⟩ := List.mem_map.1 hz
    have := h.2 a (List.mem_filter.1 ha).1
    exact ⟨by omega, by omega⟩
  · obtain ⟨a, ha, rfl⟩ := List.mem_map.1 hz
    have := h.2 a (List.mem_filter.1 ha).1
    exact ⟨by omega, by omega⟩
theorem nbS_len {n : Nat} {st : List (Int × Int)} {v : Int} (h : okSt n st) : (nbS st v).length ≤ n :=
  inM_len ⟨strict_nodup (nbS_strict h), nbS_in h⟩
theorem nbL_rd {n : Nat} {st : List (Int × Int)} {v : Int} (hv : InN n v) : rdL (nbL n st) v = nbS st v := by
  obtain ⟨i, hi, rfl⟩ := nat_of hv
  rw [rdL_n (by simp [nbL]; exact hi)]
  simp [nbL]
theorem nbL_ok {n : Nat} {st : List (Int × Int)} (hn : n ≤ 1048576) (h : okSt n st) : okLists (nbL n st) n := by
  refine ⟨by simp [nbL], fun l hl => ?_⟩
  obtain ⟨i, _, rfl⟩ := List.mem_map.1 hl
  exact ⟨Nat.le_trans (nbS_len h) hn, nbS_in h⟩
theorem stepsL_ok {p : List Int → List Int → Bool} {xs : List (List Int)} : okSt xs.length (stepsL p xs) := by
  have hin : ∀ i, i < xs.length → ∀ e ∈ rowSteps p xs i, e.1 = (i : Int) ∧ e.1 < e.2 ∧ e.2 < (xs.length : Int) := by
    intro i hi e he
    unfold rowSteps at he
    obtain ⟨j, hj, rfl⟩ := List.mem_map.1 he
    have := List.mem_range'_1.1 (List.mem_filter.1 hj).1
    refine ⟨rfl, ?_, ?_⟩
    · show (i : Int) < (j : Int)
      omega
    · show (j : Int) < _
      omega
  constructor
  · unfold stepsL
    rw [List.pairwise_flatMap]
    refine ⟨fun i hi => ?_, ?_⟩
    · unfold rowSteps
      refine List.pairwise_map.2 (List.Pairwise.filter _ ?_)
      refine (List.pairwise_lt_range' (step := 1) (by omega)).imp fun {a b} hab => .inr ⟨rfl, ?_⟩
      show (a : Int) < (b : Int)
      omega
    · refine List.Pairwise.imp_of_mem ?_ (List.pairwise_lt_range' (step := 1) (by omega))
      intro a b ha hb hab x hx y hy
      have ha := List.mem_range'_1.1 ha
      have hb := List.mem_range'_1.1 hb
      have h1 := hin a (by omega) x hx
      have h2 := hin b (by omega) y hy
      omega
  · intro e he
    unfold stepsL at he
    obtain ⟨i, hi, he⟩ := List.mem_flatMap.1 he
    have hi := List.mem_range'_1.1 hi
    have := hin i (by omega) e he
    omega
theorem set_map {n v : Nat} {f g : Nat → List Int} {u : List Int} (h : g v = u) (ho : ∀ i, i < n → i ≠ v → g i = f i) : tSet ((List.range n).map f) (v : Int) u = (List.range n).map g := by
  rw [tSet_n]
  refine List.ext_getElem (by simp) fun i h1 h2 => ?_
  rw [List.length_set, List.length_map, List.length_range] at h1
  by_cases hi : i = v
  · subst hi
    rw [List.getElem_set_self]
    simp [h]
  · rw [List.getElem_set_ne (fun e => hi e.symm)]
    simp [ho i h1 hi]
theorem rdL_map {n : Nat} {f : Nat → List Int} {i : Nat} (hi : i < n) : rdL ((List.range n).map f) (i : Int) = f i := by
  rw [rdL_n (by simp; exact hi)]
  simp
theorem inb_map {n : Nat} {f : Nat → List Int} {i : Nat} (hi : i < n) : inb ((List.range n).map f) (i : Int) = true := inb_n (by simp; exact hi)
theorem rep_map (n : Nat) : List.replicate n ([] : List Int) = (List.range n).map fun _ => [] := by
  refine List.ext_getElem (by simp) fun i h1 h2 => ?_
  simp
theorem rdP_mid (p q : List (Int × Int)) (e : Int × Int) : rdP (p ++ e :: q) ((p.length : Nat) : Int) = e := by simp [rdP]
theorem nbA_snoc (p : List (Int × Int)) (e : Int × Int) (v : Int) : nbA (p ++ [e]) v = nbA p v ++ if e.2 = v then [e.1] else [] := by
  unfold nbA
  by_cases h : e.2 = v <;> simp [h]
theorem nbB_snoc (p : List (Int × Int)) (e : Int × Int) (v : Int) : nbB (p ++ [e]) v = nbB p v ++ if e.1 = v then [e.2] else [] := by
  unfold nbB
  by_cases h : e.1 = v <;> simp [h]
theorem nbT_snoc (p : List (Int × Int)) (e : Int × Int) (v : Int) : nbT (p ++ [e]) v = nbT p v ++ ((if e.1 = v then [e.2] else []) ++ (if e.2 = v then [e.1] else [])) := by
  unfold nbT
  rw [List.flatMap_append]
  simp
theorem nbA_len (p : List (Int × Int)) (v : Int) : (nbA p v).length ≤ p.length := by unfold nbA; rw [List.length_map]; exact List.length_filter_le ..
theorem nbB_len (p : List (Int × Int)) (v : Int) : (nbB p v).length ≤ p.length := by unfold nbB; rw [List.length_map]; exact List.length_filter_le ..
theorem nbT_len (p : List (Int × Int)) (v : Int) : (nbT p v).length ≤ 2 * p.length := by
  induction p with
  | nil => simp [nbT]
  | cons e p ih =>
    unfold nbT at ih ⊢
    rw [List.flatMap_cons, List.length_append, List.length_append, List.length_cons]
    have h1 : (if e.1 = v then [e.2] else []).length ≤ 1 := by by_cases h : e.1 = v <;> simp [h]
    have h2 : (if e.2 = v then [e.1] else []).length ≤ 1 := by by_cases h : e.2 = v <;> simp [h]
    omega
theorem l2Lists_eq {N : Nat} {xs : List (List Int)} {st : List (Int × Int)} (hx : xs.length ≤ 1048576) (hs : st.length ≤ 1048576) (h : okSt xs.length st) (hN : 1048577 ≤ N) : spec_l2Lists N (xs, st) = some ((nbL xs.length st, ()), ()) := by
  have hin : ∀ e ∈ st, ∃ a b : Nat, e = ((a : Int), (b : Int)) ∧ a < xs.length ∧ b < xs.length := fun e he => by
    have := h.2 e he
    exact ⟨e.1.toNat, e.2.toNat, Prod.ext (by simp only []; omega) (by simp only []; omega), by omega, by omega⟩
  have goA : ∀ (q p : List (Int × Int)) (K : Nat) (k0 : List (List Int) → List (Int × Int) → List (List Int) → Option ((List (List Int) × Unit) × Unit)), q.length < K → p ++ q = st →
      spec_l2Lists_l0 N k0 K (p.length : Int) xs st ((List.range xs.length).map fun i : Nat => nbA p (i : Int)) = k0 xs st ((List.range xs.length).map fun i : Nat => nbA st (i : Int)) := by
    intro q
    induction q with
    | nil =>
      intro p K k0 hK hp
      obtain ⟨k, rfl⟩ := succ_of hK
      rw [List.append_nil] at hp
      subst hp
      simp only [spec_l2Lists_l0, ilt_lenf (Nat.lt_irrefl _), br_f]
    | cons e q ih =>
      intro p K k0 hK hp
      obtain ⟨k, rfl⟩ := succ_of hK
      have hpl : p.length < st.length := by rw [← hp]; simp
      obtain ⟨a, b, rfl, ha, hb⟩ := hin e (by rw [← hp]; simp)
      have hr : rdP st (p.length : Int) = ((a : Int), (b : Int)) := by rw [← hp, rdP_mid]
      have hl := nbA_len p (b : Int)
      simp only [spec_l2Lists_l0, ilt_len hpl, br_t, inb_n hpl, chk_t, hr, inb_map hb, rdL_map hb]
      rw [room_ok (by simp; omega), chk_t, ieq_t rfl, chk_t, wrap_succ (by omega), tApp_d, set_map (g := fun i : Nat => nbA (p ++ [((a : Int), (b : Int))]) (i : Int)) (by rw [nbA_snoc]; simp) (fun i _ hi => by rw [nbA_snoc, if_neg (by simp only []; omega), List.append_nil])]
      have := ih (p ++ [((a : Int), (b : Int))]) k k0 (by simp at hK; omega) (by rw [List.append_assoc]; exact hp)
      rw [List.length_append, List.length_singleton] at this
      exact this
  have goB : ∀ (q p : List (Int × Int)) (K : Nat) (k0 : List (List Int) → Option ((List (List Int) × Unit) × Unit)), q.length < K → p ++ q = st →
      spec_l2Lists_l1 N k0 K (p.length : Int) xs st ((List.range xs.length).map fun i : Nat => nbA st (i : Int) ++ nbB p (i : Int)) = k0 ((List.range xs.length).map fun i : Nat => nbA st (i : Int) ++ nbB st (i : Int)) := by
    intro q
    induction q with
    | nil =>
      intro p K k0 hK hp
      obtain ⟨k, rfl⟩ := succ_of hK
      rw [List.append_nil] at hp
      subst hp
      simp only [spec_l2Lists_l1, ilt_lenf (Nat.lt_irrefl _), br_f]
    | cons e q ih =>
      intro p K k0 hK hp
      obtain ⟨k, rfl⟩ := succ_of hK
      have hpl : p.length < st.length := by rw [← hp]; simp
      obtain ⟨a, b, rfl, ha, hb⟩ := hin e (by rw [← hp]; simp)
      have hr : rdP st (p.length : Int) = ((a : Int), (b : Int)) := by rw [← hp, rdP_mid]
      have hl := nbB_len p (a : Int)
      have hl2 := nbA_len st (a : Int)
      simp only [spec_l2Lists_l1, ilt_len hpl, br_t, inb_n hpl, chk_t, hr, inb_map ha, rdL_map ha]
      rw [room_ok (by simp; omega), chk_t, ieq_t rfl, chk_t, wrap_succ (by omega), tApp_d, set_map (g := fun i : Nat => nbA st (i : Int) ++ nbB (p ++ [((a : Int), (b : Int))]) (i : Int)) (by rw [nbB_snoc]; simp) (fun i _ hi => by rw [nbB_snoc, if_neg (by simp only []; omega), List.append_nil])]
      have := ih (p ++ [((a : Int), (b : Int))]) k k0 (by simp at hK; omega) (by rw [List.append_assoc]; exact hp)
      rw [List.length_append, List.length_singleton] at this
      exact this
  unfold spec_l2Lists
  simp only []
  rw [tLen_n, ile_t (by omega), ile_t (Int.le_refl _), fits_ok (by omega)]
  simp only [Bool.and_self, chk_t]
  rw [tRep_n, rep_map]
  have g1 := goA st [] N (fun o o1 o2 => spec_l2Lists_l1 N (fun o3 => some ((o3, ()), ())) N 0 o o1 o2) (by omega) rfl
  have e1 : ((List.range xs.length).map fun i : Nat => nbA [] (i : Int)) = (List.range xs.length).map fun _ => [] := rfl
  rw [e1] at g1
  simp only [List.length_nil, Int.natCast_zero] at g1
  rw [g1]
  have g2 := goB st [] N (fun o3 => some ((o3, ()), ())) (by omega) rfl
  have e2 : ((List.range xs.length).map fun i : Nat => nbA st (i : Int) ++ nbB [] (i : Int)) = (List.range xs.length).map fun i : Nat => nbA st (i : Int) := List.map_congr_left fun i _ => by show nbA st (i : Int) ++ [] = _; rw [List.append_nil]
  rw [e2] at g2
  simp only [List.length_nil, Int.natCast_zero] at g2
  rw [g2]
  rfl
theorem sroads_eq {N : Nat} {xs : List (List Int)} {st : List (Int × Int)} (hx : xs.length < 1024) (hs : st.length ≤ 1048576) (h : okSt xs.length st) (hN : 1048577 ≤ N) : impl_Space_roads N (xs, st) = some ((nbL xs.length st, ()), ()) := by
  have hin : ∀ e ∈ st, ∃ a b : Nat, e = ((a : Int), (b : Int)) ∧ a < b ∧ b < xs.length := fun e he => by
    have := h.2 e he
    exact ⟨e.1.toNat, e.2.toNat, Prod.ext (by simp only []; omega) (by simp only []; omega), by omega, by omega⟩
  have goA : ∀ (q p : List (Int × Int)) (K : Nat) (k0 : List (List Int) → Option ((List (List Int) × Unit) × Unit)), q.length < K → p ++ q = st →
      impl_Space_roads_l0 N k0 K st (st.length : Int) (p.length : Int) ((List.range xs.length).map fun i : Nat => nbT p (i : Int)) = k0 ((List.range xs.length).map fun i : Nat => nbT st (i : Int)) := by
    intro q
    induction q with
    | nil =>
      intro p K k0 hK hp
      obtain ⟨k, rfl⟩ := succ_of hK
      rw [List.append_nil] at hp
      subst hp
      simp only [impl_Space_roads_l0, ilt_nf (Nat.lt_irrefl _), br_f]
    | cons e q ih =>
      intro p K k0 hK hp
      obtain ⟨k, rfl⟩ := succ_of hK
      have hpl : p.length < st.length := by rw [← hp]; simp
      obtain ⟨a, b, rfl, hab, hb⟩ := hin e (by rw [← hp]; simp)
      have hr : rdP st (p.length : Int) = ((a : Int), (b : Int)) := by rw [← hp, rdP_mid]
      have hl := nbT_len p (b : Int)
      have hl2 := nbT_len p (a : Int)
      have ha : a < xs.length := by omega
      have hs1 := set_map (n := xs.length) (v := a) (f := fun i : Nat => nbT p (i : Int)) (g := fun i : Nat => nbT p (i : Int) ++ if a = i then [(b : Int)] else []) (u := nbT p (a : Int) ++ [(b : Int)]) (by simp) (fun i _ hi => by rw [if_neg (fun e => hi e.symm), List.append_nil])
      have hs2 := set_map (n := xs.length) (v := b) (f := fun i : Nat => nbT p (i : Int) ++ if a = i then [(b : Int)] else []) (g := fun i : Nat => nbT (p ++ [((a : Int), (b : Int))]) (i : Int)) (u := nbT p (b : Int) ++ [(a : Int)]) (by rw [nbT_snoc, if_neg (show ¬ (a : Int) = (b : Int) by omega), if_pos rfl]; rfl) (fun i _ hi => by
        rw [nbT_snoc, if_neg (show ¬ (b : Int) = (i : Int) by omega)]
        by_cases hai : a = i
        · rw [if_pos (show (a : Int) = (i : Int) by omega), if_pos hai]; rfl
        · rw [if_neg (show ¬ (a : Int) = (i : Int) by omega), if_neg hai]; rfl)
      have hrb : rdL ((List.range xs.length).map fun i : Nat => nbT p (i : Int) ++ if a = i then [(b : Int)] else []) (b : Int) = nbT p (b : Int) := by
        rw [rdL_map hb, if_neg (show ¬ a = b by omega), List.append_nil]
      simp only [impl_Space_roads_l0, ilt_n hpl, br_t, inb_n hpl, chk_t, hr, inb_map ha, rdL_map ha]
      rw [room_ok (by simp; omega), chk_t, ieq_t rfl, chk_t, wrap_succ (by omega), tApp_d, hs1, inb_map hb, chk_t, hrb, room_ok (by simp; omega), chk_t, ieq_t rfl, chk_t, chk_t, tApp_d, hs2]
      have := ih (p ++ [((a : Int), (b : Int))]) k k0 (by simp at hK; omega) (by rw [List.append_assoc]; exact hp)
      rw [List.length_append, List.length_singleton] at this
      exact this
  have e0 : ((List.range xs.length).map fun i : Nat => nbT st (i : Int)) = nbL xs.length st := List.map_congr_left fun i _ => nbT_eq h
  have hlen : (nbL xs.length st).length = xs.length := by simp [nbL]
  have goB : ∀ (d n K : Nat), n + d = xs.length → d < K → impl_Space_roads_l1 N (fun o1 => some ((o1, ()), ())) K (xs.length : Int) n (nbL xs.length st) = some ((nbL xs.length st, ()), ()) := by
    intro d
    induction d with
    | zero =>
      intro n K hd hK
      obtain ⟨k, rfl⟩ := succ_of hK
      simp only [impl_Space_roads_l1, ilt_nf (show ¬ n < xs.length by omega), br_f]
    | succ d ih =>
      intro n K hd hK
      obtain ⟨k, rfl⟩ := succ_of hK
      have hn : n < xs.length := by omega
      have hs := nbS_strict (v := (n : Int)) h
      have hl := nbS_len (v := (n : Int)) h
      simp only [impl_Space_roads_l1, ilt_n hn, br_t, inb_n (show n < (nbL xs.length st).length by omega), chk_t]
      rw [nbL_rd (in_nat hn), Sort_asc (hs.imp fun hab => by omega) (by omega) hN, bind_some', wrap_succ (by omega), tSet_n]
      have : (nbL xs.length st).set n (nbS st (n : Int)) = nbL xs.length st := by
        refine List.ext_getElem (by simp) fun i h1 h2 => ?_
        by_cases hi : i = n
        · subst hi
          rw [List.getElem_set_self]
          simp [nbL]
        · rw [List.getElem_set_ne (fun e => hi e.symm)]
      simp only [this]
      exact ih (n + 1) k (by omega) (by omega)
  unfold impl_Space_roads
  simp only []
  rw [tLen_n, tLen_n, ile_t (by omega), ile_t (Int.le_refl _), fits_ok (by omega)]
  simp only [Bool.and_self, chk_t]
  rw [tRep_n, rep_map]
  have g1 := goA st [] N (fun o => impl_Space_roads_l1 N (fun o1 => some ((o1, ()), ())) N (tLen o) 0 o) (by omega) rfl
  have e1 : ((List.range xs.length).map fun i : Nat => nbT [] (i : Int)) = (List.range xs.length).map fun _ => [] := rfl
  rw [e1] at g1
  simp only [List.length_nil, Int.natCast_zero] at g1
  rw [g1, e0, tLen_n, hlen]
  exact goB xs.length 0 N (by omega) (by omega)
theorem mid_eq {i j : Nat} (h : i + j < 4611686018427387904) : IntKind.i64.wrap (shrI .u64 (IntKind.u64.wrap (IntKind.i64.wrap ((i : Int) + (j : Int)))) 1) = (((i + j) / 2 : Nat) : Int) := by
  have e : (i : Int) + (j : Int) = ((i + j : Nat) : Int) := by omega
  rw [e, wrap_ok (n := ((i + j : Nat) : Int)) (by omega) (by omega), wrap64 (by omega)]
  have e2 : shrI .u64 ((i + j : Nat) : Int) 1 = (((i + j) / 2 : Nat) : Int) := by
    show ((i + j : Nat) : Int).fdiv (2 ^ (min 1 64)) = _
    rw [Int.fdiv_eq_ediv_of_nonneg _ (by decide)]
    show ((i + j : Nat) : Int) / 2 = _
    omega
  rw [e2, wrap_ok (by omega) (by omega)]
theorem bin_eq {R : Type} {N : Nat} {xs : List (List Int)} {a : List Int} {t : Nat} {len : Int} {k0 : List (List Int) → List Int → (List Int → List Int → Option Int) → Int → Int → Option R} (hx : xs.length ≤ 1048576) (hl : ∀ x ∈ xs, x.length ≤ 1048576) (ha : a.length ≤ 1048576) (hN : 1048577 ≤ N)
    (hlo : ∀ k : Nat, k < t → k < xs.length → lexC (rdL xs (k : Int)) a < 0) (hhi : ∀ k : Nat, t ≤ k → k < xs.length → ¬ lexC (rdL xs (k : Int)) a < 0) : ∀ (d i j K : Nat), j - i ≤ d → d < K → i ≤ t → t ≤ j → j ≤ xs.length →
      slices_BinarySearchFunc_LLI_LI_LI_l0 N k0 K xs a (fun y0 y1 => (slices_Compare_LI_int N y0 y1).bind fun z => some z.1.1) len (i : Int) (j : Int) = k0 xs a (fun y0 y1 => (slices_Compare_LI_int N y0 y1).bind fun z => some z.1.1) len (t : Int) := by
  intro d
  induction d with
  | zero =>
    intro i j K hd hK hi hj hjx
    obtain ⟨k, rfl⟩ := succ_of hK
    have : i = t := by omega
    subst this
    simp only [slices_BinarySearchFunc_LLI_LI_LI_l0, ilt_nf (show ¬ i < j by omega), br_f]
  | succ d ih =>
    intro i j K hd hK hi hj hjx
    obtain ⟨k, rfl⟩ := succ_of hK
    by_cases hij : i < j
    · have hm : (i + j) / 2 < xs.length := by omega
      simp only [slices_BinarySearchFunc_LLI_LI_LI_l0, ilt_n hij, br_t, mid_eq (show i + j < 4611686018427387904 by omega), inb_n hm, chk_t]
      rw [Compare_lex (hl _ (by rw [rdL_n hm]; exact List.getElem_mem hm)) ha hN, bind_some', bind_some']
      simp only []
      by_cases hc : lexC (rdL xs (((i + j) / 2 : Nat) : Int)) a < 0
      · rw [ilt_t hc, br_t, wrap_succ (by omega)]
        refine ih ((i + j) / 2 + 1) j k (by omega) (by omega) ?_ hj hjx
        by_cases h : t ≤ (i + j) / 2
        · exact absurd hc (hhi _ h hm)
        · omega
      · rw [ilt_f hc, br_f]
        refine ih i ((i + j) / 2) k (by omega) (by omega) hi ?_ (by omega)
        by_cases h : (i + j) / 2 < t
        · exact absurd (hlo _ h hm) hc
        · omega
    · have : i = t := by omega
      subst this
      simp only [slices_BinarySearchFunc_LLI_LI_LI_l0, ilt_nf hij, br_f]
theorem idx_lt {xs : List (List Int)} {a : List Int} (h : a ∈ xs) : xs.idxOf a < xs.length := List.idxOf_lt_length_iff.2 h
theorem idx_rd {xs : List (List Int)} {a : List Int} (h : a ∈ xs) : rdL xs ((xs.idxOf a : Nat) : Int) = a := by
  rw [rdL_n (idx_lt h)]
  exact List.getElem_idxOf (idx_lt h)
theorem place_in {N : Nat} {xs : List (List Int)} {st : List (Int × Int)} {a : List Int} (hs : lexSorted xs) (hx : xs.length ≤ 1048576) (hl : ∀ x ∈ xs, x.length ≤ 1048576) (ha : a ∈ xs) (hN : 1048577 ≤ N) :
    impl_Space_place N (xs, st) a = some ((((xs.idxOf a : Nat) : Int), true, ()), ()) := by
  have hp := List.pairwise_iff_getElem.1 hs
  have hi := idx_lt ha
  have ht : xs[xs.idxOf a] = a := List.getElem_idxOf hi
  have hal := hl a ha
  unfold impl_Space_place slices_BinarySearchFunc_LLI_LI_LI
  simp only []
  have := bin_eq (N := N) (len := tLen xs) (t := xs.idxOf a) (k0 := fun x1 target1 cmp1 n i => (br (ilt i n) ((chk (inb x1 i) ((cmp1 (rdL x1 i) target1).bind fun v => some ((i, (ieq v 0), ()), ())))) (some ((i, false, ()), ())))) hx hl hal hN (fun k hk hkx => by
    have := hp k _ hkx hi hk
    rwa [ht, ← rdL_n hkx] at this) (fun k hk hkx hc => by
    by_cases he : k = xs.idxOf a
    · subst he
      rw [rdL_n hkx, ht, lexC_self] at hc
      omega
    · have := hp _ k hi hkx (by omega)
      rw [ht, ← rdL_n hkx] at this
      have e := lexC_anti a (rdL xs (k : Int))
      omega) xs.length 0 xs.length N (by omega) (by omega) (Nat.zero_le _) (by omega) (Nat.le_refl _)
  simp only [Int.natCast_zero] at this
  rw [tLen_n] at this ⊢
  rw [this, ilt_n hi, br_t, inb_n hi, chk_t, Compare_lex (by rw [idx_rd ha]; exact hal) hal hN, bind_some', bind_some', bind_some', idx_rd ha, lexC_self]
  rfl
theorem index_in {N : Nat} {xs : List (List Int)} {st : List (Int × Int)} {a : List Int} (hx : xs.length ≤ 1048576) (hl : ∀ x ∈ xs, x.length ≤ 1048576) (ha : a ∈ xs) (hN : 1048577 ≤ N) :
    spec_l2Index N (xs, st) a = some ((((xs.idxOf a : Nat) : Int), ()), ()) := by
  unfold spec_l2Index
  simp only []
  have go : ∀ (d n K : Nat), n + d = xs.idxOf a → d < K → spec_l2Index_l0 N (fun x1 => some ((x1, ()), ())) (fun (_ : Unit) => some (((-1), ()), ())) K a (n : Int) xs st = some ((((xs.idxOf a : Nat) : Int), ()), ()) := by
    intro d
    induction d with
    | zero =>
      intro n K hd hK
      obtain ⟨k, rfl⟩ := succ_of hK
      have : n = xs.idxOf a := by omega
      subst this
      simp only [spec_l2Index_l0, ilt_len (idx_lt ha), br_t, inb_n (idx_lt ha), chk_t, idx_rd ha]
      rw [l1Same_eq (hl a ha) hN, bind_some', decide_eq_true rfl, br_t]
    | succ d ih =>
      intro n K hd hK
      obtain ⟨k, rfl⟩ := succ_of hK
      have hi := idx_lt ha
      have hn : n < xs.length := by omega
      have hne : ¬ rdL xs (n : Int) = a := by
        rw [rdL_n hn]
        intro e
        have := List.not_of_lt_findIdx (p := (· == a)) (xs := xs) (i := n) (by show n < xs.idxOf a; omega)
        simp [e] at this
      simp only [spec_l2Index_l0, ilt_len hn, br_t, inb_n hn, chk_t]
      rw [l1Same_eq (hl _ (by rw [rdL_n hn]; exact List.getElem_mem hn)) hN, bind_some', decide_eq_false hne, br_f, wrap_succ (by omega)]
      exact ih (n + 1) k (by omega) (by omega)
  have hi := idx_lt ha
  exact go (xs.idxOf a) 0 N (by omega) (by omega)
/-! ### The first way -/
end Go.Proofs.YtgelipdkheahdaaGreat
