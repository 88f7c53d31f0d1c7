/- Statements on data alone. -/
import Derived.Test.YtbnjcjpnpidhmaaGreatPvPure
import Derived.Test.YtbnjcjpnpidhmaaGreatColouringsLawGb
set_option linter.all false
set_option linter.all false
namespace Go.Proofs.YtbnjcjpnpidhmaaGreat
open Go Go.PV Classical
noncomputable def rowSteps (p : List Int → List Int → Bool) (xs : List (List Int)) (i : Nat) : List (Int × Int) := ((List.range' (i + 1) (xs.length - (i + 1))).filter fun j : Nat => p (rdL xs (i : Int)) (rdL xs (j : Int))).map fun j : Nat => ((i : Int), (j : Int))
noncomputable def stepsL (p : List Int → List Int → Bool) (xs : List (List Int)) : List (Int × Int) := (List.range' 0 xs.length).flatMap (rowSteps p xs)
theorem rowSteps_len (p : List Int → List Int → Bool) (xs : List (List Int)) (i : Nat) : (rowSteps p xs i).length ≤ xs.length := by
  unfold rowSteps
  rw [List.length_map]
  exact Nat.le_trans (List.length_filter_le ..) (by simp)
noncomputable def apartL (a b : List Int) : List Int := ((List.range' 0 a.length).filter fun i : Nat => decide (rdI a (i : Int) ≠ rdI b (i : Int))).map fun i : Nat => (i : Int)
noncomputable def isCh (a b : List Int) : Bool := decide ((apartL a b).length = 1)
theorem places_ap {N : Nat} {a b : List Int} (ha : a.length ≤ 1048576) (hab : a.length ≤ b.length) (hN : 1048577 ≤ N) : impl_places N a b = some ((apartL a b, ()), ()) := by
  unfold impl_places
  rw [tLen_n]
  refine (loop_iter (L := fun K n o => impl_places_l0 N (fun o => some ((o, ()), ())) K b a (a.length : Int) n o) (k := fun o => some ((o, ()), ())) (Inv := fun n o => o.length ≤ n) (step := fun n o => if rdI a (n : Int) ≠ rdI b (n : Int) then o ++ [(n : Int)] else o) (fun K n s hn _ => ?_) (fun K n s hn hs => ?_) (fun n s hn h => ?_) (s := []) (m := a.length) (K := N) (by omega) (Nat.zero_le _)).trans ?_
  · simp only [impl_places_l0, ilt_nf hn, br_f]
  · simp only [impl_places_l0, ilt_n hn, br_t, inb_n hn, inb_n (show n < b.length by omega), chk_t]
    rw [wrap_succ (by omega), room_ok (by simp; omega), chk_t, tApp_d]
    by_cases h : rdI a (n : Int) = rdI b (n : Int)
    · rw [ine_f h.symm, br_f, if_neg (not_not_intro h)]
    · rw [ine_t (fun e => h e.symm), br_t, if_pos h]
  · by_cases hc : rdI a (n : Int) = rdI b (n : Int)
    · rw [if_neg (not_not_intro hc)]; omega
    · rw [if_pos hc]; simp; omega
  · rw [iter_app, List.nil_append]
    rfl
theorem isChange_eq {N : Nat} {a b : List Int} (ha : a.length ≤ 1048576) (hab : a.length ≤ b.length) (hN : 1048577 ≤ N) : impl_isChange N a b = some ((isCh a b, ()), ()) := by
  unfold impl_isChange isCh
  rw [places_ap ha hab hN, bind_some', tLen_n]
  congr 3
  by_cases h : (apartL a b).length = 1
  · rw [ieq_t (show ((apartL a b).length : Int) = 1 by omega), decide_eq_true h]
  · rw [ieq_f (show ((apartL a b).length : Int) ≠ 1 by omega), decide_eq_false h]
def okSp (x : List (List Int) × List (Int × Int)) : Prop := x.1.length ≤ 1048576 ∧ (∀ r ∈ x.1, r.length ≤ 1048576) ∧ x.2.length ≤ 1048576 ∧ x.1.length ≤ 1024
theorem spaceOf_g {N : Nat} {xs0 xs : List (List Int)} {is : List Int → List Int → Option Bool} {p : List Int → List Int → Bool} (hsort : slices_SortFunc_LLI_LI_kslices_Compare_LI_int N xs0 () = some ((), (xs, ()))) (hs : lexSorted xs) (hx : xs.length < 1024) (hp : ∀ a ∈ xs, ∀ b ∈ xs, a ≠ b → is a b = some (p a b)) (hN : 1048577 ≤ N) :
    impl_spaceOf N xs0 is = some (((xs, stepsL p xs), ()), ()) := by
  unfold impl_spaceOf
  rw [hsort, bind_some']
  simp only []
  rw [tLen_n]
  have hrd : ∀ j : Nat, j < xs.length → rdL xs (j : Int) ∈ xs := fun j hj => by rw [rdL_n hj]; exact List.getElem_mem hj
  have hne : ∀ i j : Nat, i < j → j < xs.length → rdL xs (i : Int) ≠ rdL xs (j : Int) := fun i j hij hj e => by
    have := List.pairwise_iff_getElem.1 hs i j (by omega) hj hij
    rw [rdL_n (show i < xs.length by omega), rdL_n hj] at e
    rw [e, lexC_self] at this
    omega
  have inner : ∀ (d i j K : Nat) (o : List (Int × Int)) (k0 : (List Int → List Int → Option Bool) → Int → Int → List (List Int) → List (Int × Int) → Option (((List (List Int) × List (Int × Int)) × Unit) × Unit)), i < xs.length → j + d = xs.length - (i + 1) → d < K → o.length + d ≤ 1099511627776 →
      impl_spaceOf_l0_0 N k0 K is (i : Int) (i : Int) (xs.length : Int) (i : Int) ((i + 1 : Nat) : Int) (xs.length : Int) ((xs.length - (i + 1) : Nat) : Int) (j : Int) xs o = k0 is (xs.length : Int) (i : Int) xs (o ++ ((List.range' (i + 1 + j) d).filter fun j : Nat => p (rdL xs (i : Int)) (rdL xs (j : Int))).map fun j : Nat => ((i : Int), (j : Int))) := by
    intro d
    induction d with
    | zero =>
      intro i j K o k0 hi hj hK ho
      obtain ⟨k, rfl⟩ := succ_of hK
      simp only [impl_spaceOf_l0_0, ilt_nf (show ¬ j < xs.length - (i + 1) by omega), br_f]
      simp
    | succ d ih =>
      intro i j K o k0 hi hj hK ho
      obtain ⟨k, rfl⟩ := succ_of hK
      have hj' : i + 1 + j < xs.length := by omega
      simp only [impl_spaceOf_l0_0, ilt_n (show j < xs.length - (i + 1) by omega), br_t]
      rw [ile_t (by omega), ilt_t (show (j : Int) < (xs.length : Int) - ((i + 1 : Nat) : Int) by omega)]
      simp only [Bool.and_self, chk_t]
      rw [show ((i + 1 : Nat) : Int) + (j : Int) = ((i + 1 + j : Nat) : Int) by omega, hp _ (hrd i hi) _ (hrd _ hj') (hne i _ (by omega) hj'), bind_some', wrap_succ (show i < 4611686018427387904 by omega), show ((i + 1 : Nat) : Int) + (j : Int) = ((i + 1 + j : Nat) : Int) by omega, wrap_ok (n := ((i + 1 + j : Nat) : Int)) (by omega) (by omega), room_ok (by simp; omega), chk_t, wrap_succ (by omega), tApp_d, List.range'_succ]
      cases hb : p (rdL xs (i : Int)) (rdL xs ((i + 1 + j : Nat) : Int)) with
      | true =>
        rw [br_t, ih i (j + 1) k _ k0 hi (by omega) (by omega) (by simp; omega), List.filter_cons_of_pos (by exact hb), List.append_assoc]
        rfl
      | false =>
        rw [br_f, ih i (j + 1) k _ k0 hi (by omega) (by omega) (by omega), List.filter_cons_of_neg (by rw [hb]; simp)]
        rfl
  have go : ∀ (d i K : Nat) (o : List (Int × Int)), i + d = xs.length → d < K → o.length ≤ i * xs.length →
      impl_spaceOf_l0 N (fun o o1 => some (((o, o1), ()), ())) K is (xs.length : Int) (i : Int) xs o = some (((xs, o ++ (List.range' i d).flatMap (rowSteps p xs)), ()), ()) := by
    intro d
    induction d with
    | zero =>
      intro i K o hd hK ho
      obtain ⟨k, rfl⟩ := succ_of hK
      simp only [impl_spaceOf_l0, ilt_nf (show ¬ i < xs.length by omega), br_f]
      simp
    | succ d ih =>
      intro i K o hd hK ho
      obtain ⟨k, rfl⟩ := succ_of hK
      have hi : i < xs.length := by omega
      have hmul : i * xs.length ≤ 1024 * 1024 := Nat.mul_le_mul (by omega) (by omega)
      simp only [impl_spaceOf_l0, ilt_n hi, br_t, inb_n hi, chk_t]
      rw [wrap_succ (by omega), tLen_n, ile_t (by omega), ile_t (by omega), ile_t (Int.le_refl _)]
      simp only [Bool.and_self, chk_t]
      rw [show (xs.length : Int) - ((i + 1 : Nat) : Int) = ((xs.length - (i + 1) : Nat) : Int) by omega]
      have h1 := inner (xs.length - (i + 1)) i 0 N o (fun isStep2 x2 x3 o2 o3 => impl_spaceOf_l0 N (fun o o1 => some (((o, o1), ()), ())) k isStep2 x2 (IntKind.i64.wrap (x3 + 1)) o2 o3) hi (by omega) (by omega) (by omega)
      simp only [Int.natCast_zero] at h1
      rw [h1, Nat.add_zero, wrap_succ (by omega)]
      have h2 := rowSteps_len p xs i
      have h3 := ih (i + 1) k (o ++ rowSteps p xs i) (by omega) (by omega) (by rw [List.length_append, Nat.add_mul, Nat.one_mul]; omega)
      rw [List.append_assoc] at h3
      rw [List.range'_succ, List.flatMap_cons]
      exact h3
  have := go xs.length 0 N [] (by omega) (by omega) (Nat.zero_le _)
  exact this
theorem spaceOf_ne {N : Nat} {xs : List (List Int)} {is : List Int → List Int → Option Bool} {p : List Int → List Int → Bool} (hs : lexSorted xs) (hl : ∀ x ∈ xs, x.length ≤ 1048576) (hx : xs.length < 1024) (hp : ∀ a ∈ xs, ∀ b ∈ xs, a ≠ b → is a b = some (p a b)) (hN : 1048577 ≤ N) :
    impl_spaceOf N xs is = some (((xs, stepsL p xs), ()), ()) :=
  spaceOf_g (SortFunc_rows (by omega) hl (lex_nodup hs) hs (fun _ => Iff.rfl) hN) hs hx hp hN
theorem spaceOf_eq {N : Nat} {xs : List (List Int)} {is : List Int → List Int → Option Bool} {p : List Int → List Int → Bool} (hs : lexSorted xs) (hl : ∀ x ∈ xs, x.length ≤ 1048576) (hx : xs.length < 1024) (hp : ∀ a ∈ xs, ∀ b ∈ xs, is a b = some (p a b)) (hN : 1048577 ≤ N) :
    impl_spaceOf N xs is = some (((xs, stepsL p xs), ()), ()) := spaceOf_ne hs hl hx (fun a ha b hb _ => hp a ha b hb) hN
theorem lexC_pre : ∀ (b u v : List Int), lexC (b ++ u) (b ++ v) = lexC u v := by
  intro b
  induction b with
  | nil => intro u v; rfl
  | cons x b ih => intro u v; simp [lexC, ih]
def BefC (d : Nat) (b : List Int) (l : List (List Int)) : Prop := lexSorted l ∧ ∀ x ∈ l, ∀ s : List Int, s.length = d → lexC x (b ++ s) < 0
theorem moreC_sorted {k : Nat} {es : List (Int × Int)} : ∀ (d : Nat) (b : List Int) (l : List (List Int)), BefC d b l → ∃ t, moreC k es d b l = l ++ t ∧ lexSorted (l ++ t) ∧ ∀ x ∈ t, ∃ s : List Int, s.length = d ∧ x = b ++ s ∧ ∀ z ∈ s, 0 ≤ z ∧ z < (k : Int) := by
  intro d
  induction d with
  | zero =>
    intro b l h
    refine ⟨[b], rfl, ?_, fun x hx => ?_⟩
    · refine List.pairwise_append.2 ⟨h.1, List.pairwise_singleton .., fun x hx y hy => ?_⟩
      simp at hy
      subst hy
      have := h.2 x hx [] rfl
      rwa [List.append_nil] at this
    · simp at hx
      subst hx
      exact ⟨[], rfl, by simp, by simp⟩
  | succ d ih =>
    intro b l h
    have go : ∀ (r c : Nat) (t : List (List Int)), c + r = k → lexSorted (l ++ t) → (∀ x ∈ t, ∃ (c' : Nat) (s : List Int), c' < c ∧ s.length = d ∧ x = b ++ (c' : Int) :: s ∧ ∀ z ∈ s, 0 ≤ z ∧ z < (k : Int)) →
        ∃ t', stepsC (fun c l => if freeC es b (c : Int) then moreC k es d (b ++ [(c : Int)]) l else l) r c (l ++ t) = l ++ t' ∧ lexSorted (l ++ t') ∧ ∀ x ∈ t', ∃ (c' : Nat) (s : List Int), c' < k ∧ s.length = d ∧ x = b ++ (c' : Int) :: s ∧ ∀ z ∈ s, 0 ≤ z ∧ z < (k : Int) := by
      intro r
      induction r with
      | zero =>
        intro c t hc ht hx
        refine ⟨t, rfl, ht, fun x hx' => ?_⟩
        obtain ⟨c', s, h1, h2⟩ := hx x hx'
        exact ⟨c', s, by omega, h2⟩
      | succ r ihr =>
        intro c t hc ht hx
        unfold stepsC
        by_cases h3 : (l ++ t).length ≤ 300
        · rw [if_pos h3]
          by_cases hf : freeC es b (c : Int)
          · rw [if_pos hf]
            obtain ⟨t2, e1, e2, e3⟩ := ih (b ++ [(c : Int)]) (l ++ t) ⟨ht, fun x hx' s hs => by
              rcases List.mem_append.1 hx' with hx' | hx'
              · have := h.2 x hx' ((c : Int) :: s) (by simp [hs])
                rw [List.append_assoc]
                exact this
              · obtain ⟨c', s', h1, h2, rfl, _⟩ := hx x hx'
                rw [List.append_assoc, lexC_pre]
                simp only [List.singleton_append, lexC]
                rw [if_pos (by omega)]
                decide⟩
            rw [e1, List.append_assoc]
            rw [List.append_assoc] at e2
            refine ihr (c + 1) (t ++ t2) (by omega) e2 fun x hx' => ?_
            rcases List.mem_append.1 hx' with hx' | hx'
            · obtain ⟨c', s', h1, h2⟩ := hx x hx'
              exact ⟨c', s', by omega, h2⟩
            · obtain ⟨s, g1, g2, g3⟩ := e3 x hx'
              exact ⟨c, s, by omega, g1, by rw [g2, List.append_assoc]; rfl, g3⟩
          · rw [if_neg hf]
            refine ihr (c + 1) t (by omega) ht fun x hx' => ?_
            obtain ⟨c', s', h1, h2⟩ := hx x hx'
            exact ⟨c', s', by omega, h2⟩
        · rw [if_neg h3]
          refine ⟨t, rfl, ht, fun x hx' => ?_⟩
          obtain ⟨c', s, h1, h2⟩ := hx x hx'
          exact ⟨c', s, by omega, h2⟩
    unfold moreC
    obtain ⟨t', e1, e2, e3⟩ := go k 0 [] (by omega) (by simpa using h.1) (by simp)
    rw [List.append_nil] at e1
    refine ⟨t', e1, e2, fun x hx => ?_⟩
    obtain ⟨c', s, h1, h2, h3, h4⟩ := e3 x hx
    refine ⟨(c' : Int) :: s, by simp [h2], h3, fun z hz => ?_⟩
    rcases List.mem_cons.1 hz with rfl | hz
    · omega
    · exact h4 z hz
theorem allC_sorted (g : Int × List (Int × Int)) (k : Int) : lexSorted (allC g k) ∧ ∀ x ∈ allC g k, ∀ z ∈ x, 0 ≤ z ∧ z < (k.toNat : Int) := by
  obtain ⟨t, e1, e2, e3⟩ := moreC_sorted (k := k.toNat) (es := g.2) g.1.toNat [] [] ⟨List.Pairwise.nil, by simp⟩
  unfold allC
  rw [e1]
  refine ⟨e2, fun x hx z hz => ?_⟩
  rw [List.nil_append] at hx
  obtain ⟨s, _, h2, h3⟩ := e3 x hx
  rw [h2, List.nil_append] at hz
  exact h3 z hz
/-! ### Not too many steps -/
theorem nodup_leL : ∀ {a b : List (List Int)}, a.Nodup → (∀ x ∈ a, x ∈ b) → a.length ≤ b.length := by
  intro a
  induction a with
  | nil => intro b _ _; exact Nat.zero_le _
  | cons x a ih =>
    intro b hn hs
    obtain ⟨h1, h2⟩ := List.nodup_cons.1 hn
    have hx := hs x (List.mem_cons_self ..)
    have := ih (b := b.erase x) h2 fun y hy => (List.mem_erase_of_ne (fun (e : y = x) => h1 (e ▸ hy))).2 (hs y (List.mem_cons_of_mem _ hy))
    rw [List.length_erase_of_mem hx] at this
    have := List.length_pos_of_mem hx
    rw [List.length_cons]
    omega
def numP (q : Nat → Bool) (s d : Nat) : Nat := ((List.range' s d).filter q).length
theorem numP_succ (q : Nat → Bool) (s d : Nat) : numP q s (d + 1) = numP q s d + if q (s + d) = true then 1 else 0 := by
  unfold numP
  rw [List.range'_1_concat, List.filter_append, List.length_append]
  congr 1
  by_cases h : q (s + d) = true <;> simp [h]
theorem numP_split (q : Nat → Bool) : ∀ (d s e : Nat), numP q s (d + e) = numP q s d + numP q (s + d) e := by
  intro d s e
  unfold numP
  rw [← List.range'_append_1, List.filter_append, List.length_append]
theorem sum_up (p : Nat → Nat → Bool) (hp : ∀ i j, p i j = p j i) : ∀ n, ((List.range' 0 n).map fun i : Nat => numP (p i) (i + 1) (n - (i + 1))).sum = ((List.range' 0 n).map fun i : Nat => numP (p i) 0 i).sum := by
  intro n
  induction n with
  | zero => rfl
  | succ n ih =>
    rw [List.range'_1_concat, List.map_append, List.sum_append, List.map_append, List.sum_append, ← ih]
    simp only [Nat.zero_add, List.map_cons, List.map_nil, List.sum_cons, List.sum_nil, Nat.add_zero]
    have e0 : numP (p n) (n + 1) (n + 1 - (n + 1)) = 0 := by rw [Nat.sub_self]; rfl
    rw [e0, Nat.add_zero]
    have key : ∀ m, m ≤ n → ((List.range' 0 m).map fun i : Nat => numP (p i) (i + 1) (n + 1 - (i + 1))).sum = ((List.range' 0 m).map fun i : Nat => numP (p i) (i + 1) (n - (i + 1))).sum + numP (p n) 0 m := by
      intro m
      induction m with
      | zero => intro _; rfl
      | succ m ihm =>
        intro hm
        rw [List.range'_1_concat, List.map_append, List.sum_append, List.map_append, List.sum_append, ihm (by omega), numP_succ (p n) 0 m]
        simp only [Nat.zero_add, List.map_cons, List.map_nil, List.sum_cons, List.sum_nil, Nat.add_zero]
        have := numP_succ (p m) (m + 1) (n - (m + 1))
        rw [show n - (m + 1) + 1 = n + 1 - (m + 1) by omega, show m + 1 + (n - (m + 1)) = n by omega] at this
        rw [this, hp m n]
        omega
    exact key n (Nat.le_refl n)
theorem sum_add {f g h : Nat → Nat} : ∀ (xs : List Nat), (∀ i ∈ xs, f i + g i ≤ h i) → (xs.map f).sum + (xs.map g).sum ≤ (xs.map h).sum := by
  intro xs
  induction xs with
  | nil => intro _; simp
  | cons x xs ih =>
    intro hh
    have h1 := hh x (List.mem_cons_self ..)
    have h2 := ih fun i hi => hh i (List.mem_cons_of_mem _ hi)
    simp only [List.map_cons, List.sum_cons]
    omega
theorem steps_half {p : List Int → List Int → Bool} {xs : List (List Int)} {B : Nat} (hsym : ∀ a ∈ xs, ∀ b ∈ xs, p a b = p b a) (hB : ∀ i, i < xs.length → numP (fun j : Nat => p (rdL xs (i : Int)) (rdL xs (j : Int))) 0 xs.length ≤ B) : 2 * (stepsL p xs).length ≤ xs.length * B := by
  have hrd : ∀ j : Nat, j < xs.length → rdL xs (j : Int) ∈ xs := fun j hj => by rw [rdL_n hj]; exact List.getElem_mem hj
  have e : (stepsL p xs).length = ((List.range' 0 xs.length).map fun i : Nat => numP (fun j : Nat => p (rdL xs (i : Int)) (rdL xs (j : Int))) (i + 1) (xs.length - (i + 1))).sum := by
    unfold stepsL
    rw [List.length_flatMap]
    congr 1
    refine List.map_congr_left fun i _ => ?_
    unfold rowSteps numP
    rw [List.length_map]
  have hp' := sum_up (fun i j : Nat => p (rdL xs (i : Int)) (rdL xs (j : Int)) && decide (i < xs.length) && decide (j < xs.length)) (fun i j => by
    by_cases hi : i < xs.length <;> by_cases hj : j < xs.length
    · rw [hsym _ (hrd i hi) _ (hrd j hj)]; simp [hi, hj]
    · simp [hi, hj]
    · simp [hi, hj]
    · simp [hi, hj]) xs.length
  have c1 : ∀ i, i < xs.length → ∀ s d, s + d ≤ xs.length → numP (fun j : Nat => p (rdL xs (i : Int)) (rdL xs (j : Int)) && decide (i < xs.length) && decide (j < xs.length)) s d = numP (fun j : Nat => p (rdL xs (i : Int)) (rdL xs (j : Int))) s d := by
    intro i hi s d hd
    unfold numP
    congr 1
    refine List.filter_congr fun j hj => ?_
    have := List.mem_range'_1.1 hj
    simp [hi, show j < xs.length by omega]
  have m1 : ((List.range' 0 xs.length).map fun i : Nat => numP (fun j : Nat => p (rdL xs (i : Int)) (rdL xs (j : Int)) && decide (i < xs.length) && decide (j < xs.length)) (i + 1) (xs.length - (i + 1))) = (List.range' 0 xs.length).map fun i : Nat => numP (fun j : Nat => p (rdL xs (i : Int)) (rdL xs (j : Int))) (i + 1) (xs.length - (i + 1)) :=
    List.map_congr_left fun i hi => by have := List.mem_range'_1.1 hi; exact c1 i (by omega) _ _ (by omega)
  have m2 : ((List.range' 0 xs.length).map fun i : Nat => numP (fun j : Nat => p (rdL xs (i : Int)) (rdL xs (j : Int)) && decide (i < xs.length) && decide (j < xs.length)) 0 i) = (List.range' 0 xs.length).map fun i : Nat => numP (fun j : Nat => p (rdL xs (i : Int)) (rdL xs (j : Int))) 0 i :=
    List.map_congr_left fun i hi => by have := List.mem_range'_1.1 hi; exact c1 i (by omega) _ _ (by omega)
  rw [m1, m2] at hp'
  have h3 := sum_add (f := fun i : Nat => numP (fun j : Nat => p (rdL xs (i : Int)) (rdL xs (j : Int))) 0 i) (g := fun i : Nat => numP (fun j : Nat => p (rdL xs (i : Int)) (rdL xs (j : Int))) (i + 1) (xs.length - (i + 1))) (h := fun i : Nat => numP (fun j : Nat => p (rdL xs (i : Int)) (rdL xs (j : Int))) 0 xs.length) (List.range' 0 xs.length) fun i hi => by
    have hi := List.mem_range'_1.1 hi
    have h1 := numP_split (fun j : Nat => p (rdL xs (i : Int)) (rdL xs (j : Int))) (i + 1) 0 (xs.length - (i + 1))
    rw [show i + 1 + (xs.length - (i + 1)) = xs.length by omega, Nat.zero_add] at h1
    have h2 := numP_succ (fun j : Nat => p (rdL xs (i : Int)) (rdL xs (j : Int))) 0 i
    rw [h1, h2]
    omega
  have h4 := sum_le (f := fun i : Nat => numP (fun j : Nat => p (rdL xs (i : Int)) (rdL xs (j : Int))) 0 xs.length) (b := B) (xs := List.range' 0 xs.length) fun i hi => hB i (by have := List.mem_range'_1.1 hi; omega)
  rw [List.length_range'] at h4
  rw [e]
  omega
theorem numP_le {p : List Int → Bool} {xs L : List (List Int)} (hs : xs.Nodup) (h : ∀ b ∈ xs, p b = true → b ∈ L) : numP (fun j : Nat => p (rdL xs (j : Int))) 0 xs.length ≤ L.length := by
  have e : numP (fun j : Nat => p (rdL xs (j : Int))) 0 xs.length = (xs.filter p).length := by
    have go : ∀ (ys zs : List (List Int)), numP (fun j : Nat => p (rdL (zs ++ ys) (j : Int))) zs.length ys.length = (ys.filter p).length := by
      intro ys
      induction ys with
      | nil => intro zs; rfl
      | cons y ys ih =>
        intro zs
        have h1 := ih (zs ++ [y])
        rw [List.append_assoc, List.singleton_append, List.length_append, List.length_singleton] at h1
        have h2 := numP_split (fun j : Nat => p (rdL (zs ++ y :: ys) (j : Int))) 1 zs.length ys.length
        rw [List.length_cons, Nat.add_comm ys.length 1, h2, h1]
        have h3 : rdL (zs ++ y :: ys) (zs.length : Int) = y := by rw [rdL_n (by simp)]; simp
        have h4 : numP (fun j : Nat => p (rdL (zs ++ y :: ys) (j : Int))) zs.length 1 = if p y = true then 1 else 0 := by
          unfold numP
          rw [List.range'_one]
          by_cases hy : p y = true <;> simp [hy, h3]
        rw [h4, List.filter_cons]
        by_cases hy : p y = true
        · rw [if_pos hy, if_pos hy, List.length_cons]; omega
        · rw [if_neg hy, if_neg hy]; omega
    exact go xs []
  rw [e]
  exact nodup_leL (List.Pairwise.filter _ hs) fun x hx => h x (List.mem_filter.1 hx).1 (List.mem_filter.1 hx).2
theorem lexSorted_nodup {xs : List (List Int)} (h : lexSorted xs) : xs.Nodup := h.imp fun hab e => by rw [e, lexC_self] at hab; omega
theorem apartL_symm {a b : List Int} (h : a.length = b.length) : apartL a b = apartL b a := by
  unfold apartL
  rw [h]
  congr 1
  refine List.filter_congr fun i _ => ?_
  by_cases h : rdI a (i : Int) = rdI b (i : Int)
  · simp [h]
  · have h' : ¬ rdI b (i : Int) = rdI a (i : Int) := fun e => h e.symm
    simp [h, h']
def changesL (k : Nat) (a : List Int) : List (List Int) := (List.range a.length).flatMap fun v : Nat => ((List.range k).filter fun c : Nat => decide ((c : Int) ≠ rdI a (v : Int))).map fun c : Nat => a.set v (c : Int)
theorem changesL_len {k : Nat} {a : List Int} (ha : ∀ z ∈ a, 0 ≤ z ∧ z < (k : Int)) : (changesL k a).length ≤ a.length * (k - 1) := by
  unfold changesL
  rw [List.length_flatMap]
  have := sum_le (f := fun v : Nat => (((List.range k).filter fun c : Nat => decide ((c : Int) ≠ rdI a (v : Int))).map fun c : Nat => a.set v (c : Int)).length) (b := k - 1) (xs := List.range a.length) fun v hv => by
    have hv := List.mem_range.1 hv
    have hz := ha (rdI a (v : Int)) (by rw [rdI_n hv]; exact List.getElem_mem hv)
    obtain ⟨z, hz1⟩ : ∃ z : Nat, rdI a (v : Int) = z := ⟨(rdI a (v : Int)).toNat, by omega⟩
    rw [List.length_map]
    have e : ((List.range k).filter fun c : Nat => decide ((c : Int) ≠ rdI a (v : Int))) = (List.range k).erase z := by
      rw [List.nodup_range.erase_eq_filter]
      refine List.filter_congr fun c _ => ?_
      rw [hz1]
      by_cases h : c = z
      · simp [h]
      · simp [h, show (c : Int) ≠ z by omega]
    rw [e, List.length_erase_of_mem (List.mem_range.2 (by omega)), List.length_range]
    exact Nat.le_refl _
  rwa [List.length_range] at this
theorem isCh_mem {k : Nat} {a b : List Int} (hab : a.length = b.length) (hb : ∀ z ∈ b, 0 ≤ z ∧ z < (k : Int)) (h : isCh a b = true) : b ∈ changesL k a := by
  have h1 := of_decide_eq_true h
  obtain ⟨v, hv⟩ := List.length_eq_one_iff.1 h1
  have hm : ∀ i : Nat, i < a.length → (rdI a (i : Int) ≠ rdI b (i : Int) ↔ (i : Int) = v) := by
    intro i hi
    have : (i : Int) ∈ apartL a b ↔ (i : Int) = v := by rw [hv]; simp
    rw [← this]
    unfold apartL
    rw [List.mem_map]
    constructor
    · intro hne
      exact ⟨i, List.mem_filter.2 ⟨List.mem_range'_1.2 (by omega), decide_eq_true hne⟩, rfl⟩
    · rintro ⟨j, hj, hji⟩
      have : j = i := by omega
      subst this
      exact of_decide_eq_true (List.mem_filter.1 hj).2
  have hvin : v ∈ apartL a b := by rw [hv]; simp
  obtain ⟨i, hi, rfl⟩ := List.mem_map.1 hvin
  have hil := List.mem_range'_1.1 (List.mem_filter.1 hi).1
  have hia : i < a.length := by omega
  have hz := hb (rdI b (i : Int)) (by rw [rdI_n (by omega)]; exact List.getElem_mem _)
  unfold changesL
  refine List.mem_flatMap.2 ⟨i, List.mem_range.2 hia, List.mem_map.2 ⟨(rdI b (i : Int)).toNat, List.mem_filter.2 ⟨List.mem_range.2 (by omega), decide_eq_true ?_⟩, ?_⟩⟩
  · have := (hm i hia).2 rfl
    rw [show (((rdI b (i : Int)).toNat : Nat) : Int) = rdI b (i : Int) by omega]
    exact fun e => this e.symm
  · rw [show (((rdI b (i : Int)).toNat : Nat) : Int) = rdI b (i : Int) by omega]
    refine List.ext_getElem (by rw [List.length_set]; exact hab) fun j h1 h2 => ?_
    rw [List.length_set] at h1
    by_cases hji : j = i
    · subst hji
      rw [List.getElem_set_self, rdI_n h2]
    · rw [List.getElem_set_ne (fun e => hji e.symm)]
      have := (hm j h1)
      have h3 : rdI a (j : Int) = rdI b (j : Int) := by
        by_cases he : rdI a (j : Int) = rdI b (j : Int)
        · exact he
        · have := this.1 he; omega
      rw [rdI_n h1, rdI_n h2] at h3
      exact h3
theorem colSteps_le {g : Int × List (Int × Int)} {k : Int} (h : colCase g k) (hl : (allC g k).length ≤ 300) : (stepsL isCh (allC g k)).length ≤ 4800 := by
  obtain ⟨s1, s2⟩ := allC_sorted g k
  have hr := allC_rows (g := g) (k := k)
  have hg := h.1.1
  have hk := h.2
  have := steps_half (p := isCh) (xs := allC g k) (B := 32) (fun a ha b hb => by unfold isCh; rw [apartL_symm (by rw [hr a ha, hr b hb])]) fun i hi => by
    have hi' : rdL (allC g k) (i : Int) ∈ allC g k := by rw [rdL_n hi]; exact List.getElem_mem hi
    refine Nat.le_trans (numP_le (p := fun b => isCh (rdL (allC g k) (i : Int)) b) (lexSorted_nodup s1) fun b hb hc => isCh_mem (by rw [hr _ hi', hr b hb]) (s2 b hb) hc) ?_
    refine Nat.le_trans (changesL_len (s2 _ hi')) ?_
    rw [hr _ hi']
    exact Nat.le_trans (Nat.mul_le_mul (show g.1.toNat ≤ 8 by omega) (show k.toNat - 1 ≤ 4 by omega)) (by omega)
  omega
theorem l5Changed_ap {N : Nat} {a b : List Int} (ha : a.length ≤ 1048576) (hab : a.length ≤ b.length) (hN : 1048577 ≤ N) : spec_l5Changed N a b = some ((apartL a b, ()), ()) := by
  unfold spec_l5Changed
  refine (loop_iter (L := fun K n o => spec_l5Changed_l0 N (fun o => some ((o, ()), ())) K a b n o) (k := fun o => some ((o, ()), ())) (Inv := fun n o => o.length ≤ n) (step := fun n o => if rdI a (n : Int) ≠ rdI b (n : Int) then o ++ [(n : Int)] else o) (fun K n s hn _ => ?_) (fun K n s hn hs => ?_) (fun n s hn h => ?_) (s := []) (m := a.length) (K := N) (by omega) (Nat.zero_le _)).trans ?_
  · simp only [spec_l5Changed_l0, ilt_lenf hn, br_f]
  · simp only [spec_l5Changed_l0, ilt_len hn, br_t, inb_n hn, inb_n (show n < b.length by omega), chk_t]
    rw [wrap_succ (by omega), room_ok (by simp; omega), chk_t, tApp_d]
    by_cases h : rdI a (n : Int) = rdI b (n : Int)
    · rw [ine_f h, br_f, if_neg (not_not_intro h)]
    · rw [ine_t h, br_t, if_pos h]
  · by_cases hc : rdI a (n : Int) = rdI b (n : Int)
    · rw [if_neg (not_not_intro hc)]; omega
    · rw [if_pos hc]; simp; omega
  · rw [iter_app, List.nil_append]
    rfl
theorem l5Space_loop {N : Nat} {m : Int} {es : List (Int × Int)} {kempe : Bool} {xs : List (List Int)} {p : List Int → List Int → Bool} (hp : ∀ a ∈ xs, ∀ b ∈ xs, spec_l5Step N (m, es) kempe a b = some ((p a b, ()), ())) (hx : xs.length < 1024) (hN : 1048577 ≤ N) :
    spec_l5Space_l0 N (fun o o1 => some (((o, o1), true, ()), ())) N kempe 0 m es xs [] = some (((xs, stepsL p xs), true, ()), ()) := by
  have hrd : ∀ j : Nat, j < xs.length → rdL xs (j : Int) ∈ xs := fun j hj => by rw [rdL_n hj]; exact List.getElem_mem hj
  have inner : ∀ (d i j K : Nat) (o : List (Int × Int)) (k0 : Bool → Int → Int → List (Int × Int) → List (List Int) → List (Int × Int) → Option (((List (List Int) × List (Int × Int)) × Bool × Unit) × Unit)), i < xs.length → j + d = xs.length → d < K → o.length + d ≤ 1099511627776 →
      spec_l5Space_l0_0 N k0 K kempe (i : Int) (j : Int) m es xs o = k0 kempe (i : Int) m es xs (o ++ ((List.range' j d).filter fun j : Nat => p (rdL xs (i : Int)) (rdL xs (j : Int))).map fun j : Nat => ((i : Int), (j : Int))) := by
    intro d
    induction d with
    | zero =>
      intro i j K o k0 hi hj hK ho
      obtain ⟨k, rfl⟩ := succ_of hK
      simp only [spec_l5Space_l0_0, ilt_lenf (show ¬ j < xs.length by omega), br_f]
      simp
    | succ d ih =>
      intro i j K o k0 hi hj hK ho
      obtain ⟨k, rfl⟩ := succ_of hK
      have hj' : j < xs.length := by omega
      simp only [spec_l5Space_l0_0, ilt_len hj', br_t, inb_n hi, inb_n hj', chk_t]
      rw [hp _ (hrd i hi) _ (hrd j hj'), bind_some', room_ok (by simp; omega), chk_t, wrap_succ (by omega), tApp_d, List.range'_succ]
      simp only []
      cases hb : p (rdL xs (i : Int)) (rdL xs (j : Int)) with
      | true =>
        rw [br_t, ih i (j + 1) k _ k0 hi (by omega) (by omega) (by simp; omega), List.filter_cons_of_pos (by exact hb), List.append_assoc]
        rfl
      | false =>
        rw [br_f, ih i (j + 1) k _ k0 hi (by omega) (by omega) (by omega), List.filter_cons_of_neg (by rw [hb]; simp)]
  have go : ∀ (d i K : Nat) (o : List (Int × Int)), i + d = xs.length → d < K → o.length ≤ i * xs.length →
      spec_l5Space_l0 N (fun o o1 => some (((o, o1), true, ()), ())) K kempe (i : Int) m es xs o = some (((xs, o ++ (List.range' i d).flatMap (rowSteps p xs)), true, ()), ()) := by
    intro d
    induction d with
    | zero =>
      intro i K o hd hK ho
      obtain ⟨k, rfl⟩ := succ_of hK
      simp only [spec_l5Space_l0, ilt_lenf (show ¬ i < xs.length by omega), br_f]
      simp
    | succ d ih =>
      intro i K o hd hK ho
      obtain ⟨k, rfl⟩ := succ_of hK
      have hi : i < xs.length := by omega
      have hmul : i * xs.length ≤ 1024 * 1024 := Nat.mul_le_mul (by omega) (by omega)
      simp only [spec_l5Space_l0, ilt_len hi, br_t]
      rw [wrap_succ (by omega)]
      have h1 := inner (xs.length - (i + 1)) i (i + 1) N o (fun kempe2 i1 o4 o5 o6 o7 => spec_l5Space_l0 N (fun o o1 => some (((o, o1), true, ()), ())) k kempe2 (IntKind.i64.wrap (i1 + 1)) o4 o5 o6 o7) hi (by omega) (by omega) (by omega)
      rw [h1, wrap_succ (by omega)]
      have h2 := rowSteps_len p xs i
      have h3 := ih (i + 1) k (o ++ rowSteps p xs i) (by omega) (by omega) (by rw [List.length_append, Nat.add_mul, Nat.one_mul]; omega)
      rw [List.append_assoc] at h3
      rw [List.range'_succ, List.flatMap_cons]
      exact h3
  have := go xs.length 0 N [] (by omega) (by omega) (Nat.zero_le _)
  exact this
theorem orNone_eq {N : Nat} {x : List (List Int) × List (Int × Int)} (h1 : x.1.length ≤ 300) (h2 : x.2.length ≤ 6000) : impl_orNone N x = some ((x, true, ()), ()) := by
  unfold impl_orNone
  rw [tLen_n, tLen_n, ilt_f (by omega), br_f, ilt_f (by omega), br_f]
noncomputable def colSpV (g : Int × List (Int × Int)) (k : Int) : (List (List Int) × List (Int × Int)) × Bool := if colCase g k ∧ (allC g k).length ≤ 300 then ((allC g k, stepsL isCh (allC g k)), true) else (([], []), false)
theorem rd_kempe {m : Nat} {es : List (Int × Int)} {cs : List Int} {x c : Int} (hcs : cs.length = m) (hx : InN m x) {y : Int} (hy : InN m y) : rdI (kempeR m es cs x c) y = if y ∈ chainR m es cs x c then (if rdI cs y = rdI cs x then c else rdI cs x) else rdI cs y := by
  have hxs : x ∈ someL m cs (rdI cs x) c := mem_someL.2 ⟨hx, .inl rfl⟩
  have hst := (reachS_spec (es := es) hxs).1
  have hin : ∀ z ∈ chainR m es cs x c, InN m z := fun z hz => (chainR_mem hx hz).1
  have go : ∀ (l o : List Int), l.Nodup → (∀ z ∈ l, InN m z) → o.length = m → rdI (l.foldl (kStep cs (rdI cs x) c) o) y = if y ∈ l then (if rdI cs y = rdI cs x then c else rdI cs x) else rdI o y := by
    intro l
    induction l with
    | nil => intro o _ _ _; simp
    | cons z l ih =>
      intro o hn hz ho
      obtain ⟨h1, h2⟩ := List.nodup_cons.1 hn
      obtain ⟨i, hi, rfl⟩ := nat_of (hz z (List.mem_cons_self ..))
      rw [List.foldl_cons, ih _ h2 (fun w hw => hz w (List.mem_cons_of_mem _ hw)) (by rw [kStep_len]; exact ho)]
      have hk : rdI (kStep cs (rdI cs x) c o (i : Int)) y = if y = i then (if rdI cs (i : Int) = rdI cs x then c else rdI cs x) else rdI o y := by
        unfold kStep
        rw [rdI_set (by omega) _ y hy.1]
      rw [hk]
      by_cases hyl : y ∈ l
      · have : y ≠ (i : Int) := by rintro rfl; exact h1 hyl
        simp [hyl]
      · by_cases hyi : y = i
        · subst hyi; simp [hyl]
        · simp [hyl, hyi]
  exact go _ _ (strict_nodup hst) hin hcs
theorem x_in_chain {m : Nat} {es : List (Int × Int)} {cs : List Int} {x c : Int} (hx : InN m x) : x ∈ chainR m es cs x c := by
  have hxs : x ∈ someL m cs (rdI cs x) c := mem_someL.2 ⟨hx, .inl rfl⟩
  exact ((reachS_spec (es := es) hxs).2 x).2 .base
theorem kempe_back {m : Nat} {es : List (Int × Int)} {cs : List Int} {x c : Int} (hcs : cs.length = m) (hx : InN m x) (hne : rdI cs x ≠ c) : kempeR m es (kempeR m es cs x c) x (rdI cs x) = cs ∧ rdI (kempeR m es cs x c) x = c ∧ chainR m es (kempeR m es cs x c) x (rdI cs x) = chainR m es cs x c := by
  have hd := kempeR_len m es cs x c
  have hrd := fun (y : Int) (hy : InN m y) => rd_kempe (es := es) (c := c) hcs hx hy
  have hdx : rdI (kempeR m es cs x c) x = c := by rw [hrd x hx, if_pos (x_in_chain hx), if_pos rfl]
  have hset : someL m (kempeR m es cs x c) (rdI (kempeR m es cs x c) x) (rdI cs x) = someL m cs (rdI cs x) c := by
    rw [hdx]
    unfold someL
    congr 1
    refine List.filter_congr fun i hi => ?_
    have hi := List.mem_range'_1.1 hi
    rw [hrd (i : Int) (in_nat (by omega))]
    by_cases hm : (i : Int) ∈ chainR m es cs x c
    · rw [if_pos hm]
      have hc := (chainR_mem hx hm).2
      have h1 : (if rdI cs (i : Int) = rdI cs x then c else rdI cs x) = c ∨ (if rdI cs (i : Int) = rdI cs x then c else rdI cs x) = rdI cs x := by
        split
        · exact .inl rfl
        · exact .inr rfl
      rw [decide_eq_true h1, decide_eq_true hc]
    · rw [if_neg hm]
      by_cases h1 : rdI cs (i : Int) = c <;> by_cases h2 : rdI cs (i : Int) = rdI cs x <;> simp [h1, h2]
  have hch : chainR m es (kempeR m es cs x c) x (rdI cs x) = chainR m es cs x c := by
    unfold chainR
    rw [hset]
  refine ⟨?_, hdx, hch⟩
  refine List.ext_getElem (by rw [kempeR_len, hd]) fun i h1 h2 => ?_
  have hi : InN m (i : Int) := in_nat (by omega)
  have e := rd_kempe (es := es) (c := rdI cs x) (by rw [hd, hcs]) hx hi (cs := kempeR m es cs x c)
  rw [rdI_n h1, hch, hdx] at e
  rw [e]
  by_cases hm : (i : Int) ∈ chainR m es cs x c
  · rw [if_pos hm, hrd _ hi, if_pos hm, ← rdI_n h2]
    have hc := (chainR_mem hx hm).2
    by_cases h3 : rdI cs (i : Int) = rdI cs x
    · rw [if_pos h3, if_pos rfl, h3]
    · rw [if_neg h3, if_neg hne]
      exact (hc.resolve_left h3).symm
  · rw [if_neg hm, hrd _ hi, if_neg hm, rdI_n h2]
noncomputable def kemP (m : Nat) (es : List (Int × Int)) (a b : List Int) : Bool := match apartL a b with
  | [] => false
  | x :: _ => decide (kempeR m es a x (rdI b x) = b)
theorem apart_mem {a b : List Int} {x : Int} (h : x ∈ apartL a b) : InN a.length x ∧ rdI a x ≠ rdI b x := by
  unfold apartL at h
  obtain ⟨i, hi, rfl⟩ := List.mem_map.1 h
  obtain ⟨h1, h2⟩ := List.mem_filter.1 hi
  have := List.mem_range'_1.1 h1
  exact ⟨in_nat (by omega), of_decide_eq_true h2⟩
theorem kemP_symm {m : Nat} {es : List (Int × Int)} {a b : List Int} (ha : a.length = m) (hb : b.length = m) : kemP m es a b = kemP m es b a := by
  have hs := apartL_symm (a := a) (b := b) (by omega)
  unfold kemP
  rw [← hs]
  cases hl : apartL a b with
  | nil => rfl
  | cons x l =>
    obtain ⟨h1, h2⟩ := apart_mem (a := a) (b := b) (x := x) (by rw [hl]; exact List.mem_cons_self ..)
    rw [ha] at h1
    simp only []
    have k1 := kempe_back (es := es) (c := rdI b x) ha h1 h2
    have k2 := kempe_back (es := es) (c := rdI a x) hb h1 (fun e => h2 e.symm)
    by_cases hk : kempeR m es a x (rdI b x) = b
    · have : kempeR m es b x (rdI a x) = a := by have := k1.1; rwa [hk] at this
      rw [decide_eq_true hk, decide_eq_true this]
    · have : ¬ kempeR m es b x (rdI a x) = a := by
        intro e
        apply hk
        have := k2.1
        rwa [e] at this
      rw [decide_eq_false hk, decide_eq_false this]
noncomputable def kemL (k m : Nat) (es : List (Int × Int)) (a : List Int) : List (List Int) := (List.range a.length).flatMap fun v : Nat => ((List.range k).filter fun c : Nat => decide ((c : Int) ≠ rdI a (v : Int))).map fun c : Nat => kempeR m es a (v : Int) (c : Int)
theorem kemL_len {k m : Nat} {es : List (Int × Int)} {a : List Int} (ha : ∀ z ∈ a, 0 ≤ z ∧ z < (k : Int)) : (kemL k m es a).length ≤ a.length * (k - 1) := by
  unfold kemL
  rw [List.length_flatMap]
  have := sum_le (f := fun v : Nat => (((List.range k).filter fun c : Nat => decide ((c : Int) ≠ rdI a (v : Int))).map fun c : Nat => kempeR m es a (v : Int) (c : Int)).length) (b := k - 1) (xs := List.range a.length) fun v hv => by
    have hv := List.mem_range.1 hv
    have hz := ha (rdI a (v : Int)) (by rw [rdI_n hv]; exact List.getElem_mem hv)
    obtain ⟨z, hz1⟩ : ∃ z : Nat, rdI a (v : Int) = z := ⟨(rdI a (v : Int)).toNat, by omega⟩
    rw [List.length_map]
    have e : ((List.range k).filter fun c : Nat => decide ((c : Int) ≠ rdI a (v : Int))) = (List.range k).erase z := by
      rw [List.nodup_range.erase_eq_filter]
      refine List.filter_congr fun c _ => ?_
      rw [hz1]
      by_cases h : c = z
      · simp [h]
      · simp [h, show (c : Int) ≠ z by omega]
    rw [e, List.length_erase_of_mem (List.mem_range.2 (by omega)), List.length_range]
    exact Nat.le_refl _
  rwa [List.length_range] at this
theorem kemP_mem {k m : Nat} {es : List (Int × Int)} {a b : List Int} (ha : a.length = m) (hb : b.length = m) (hbc : ∀ z ∈ b, 0 ≤ z ∧ z < (k : Int)) (h : kemP m es a b = true) : b ∈ kemL k m es a := by
  unfold kemP at h
  cases hl : apartL a b with
  | nil => rw [hl] at h; cases h
  | cons x l =>
    rw [hl] at h
    simp only [] at h
    have h := of_decide_eq_true h
    obtain ⟨h1, h2⟩ := apart_mem (a := a) (b := b) (x := x) (by rw [hl]; exact List.mem_cons_self ..)
    obtain ⟨i, hi, rfl⟩ := nat_of h1
    have hz := hbc (rdI b (i : Int)) (by rw [rdI_n (by omega)]; exact List.getElem_mem _)
    unfold kemL
    refine List.mem_flatMap.2 ⟨i, List.mem_range.2 hi, List.mem_map.2 ⟨(rdI b (i : Int)).toNat, List.mem_filter.2 ⟨List.mem_range.2 (by omega), decide_eq_true ?_⟩, ?_⟩⟩
    · rw [show (((rdI b (i : Int)).toNat : Nat) : Int) = rdI b (i : Int) by omega]
      exact fun e => h2 e.symm
    · rw [show (((rdI b (i : Int)).toNat : Nat) : Int) = rdI b (i : Int) by omega]
      exact h
theorem kemSteps_le {g : Int × List (Int × Int)} {k : Int} (h : colCase g k) (hl : (allC g k).length ≤ 300) : (stepsL (kemP g.1.toNat g.2) (allC g k)).length ≤ 4800 := by
  obtain ⟨s1, s2⟩ := allC_sorted g k
  have hr := allC_rows (g := g) (k := k)
  have hg := h.1.1
  have hk := h.2
  have := steps_half (p := kemP g.1.toNat g.2) (xs := allC g k) (B := 32) (fun a ha b hb => kemP_symm (hr a ha) (hr b hb)) fun i hi => by
    have hi' : rdL (allC g k) (i : Int) ∈ allC g k := by rw [rdL_n hi]; exact List.getElem_mem hi
    refine Nat.le_trans (numP_le (p := fun b => kemP g.1.toNat g.2 (rdL (allC g k) (i : Int)) b) (lexSorted_nodup s1) fun b hb hc => kemP_mem (hr _ hi') (hr b hb) (s2 b hb) hc) ?_
    refine Nat.le_trans (kemL_len (s2 _ hi')) ?_
    rw [hr _ hi']
    exact Nat.le_trans (Nat.mul_le_mul (show g.1.toNat ≤ 8 by omega) (show k.toNat - 1 ≤ 4 by omega)) (by omega)
  omega
theorem apart_nil {a b : List Int} (h : a.length = b.length) (hn : apartL a b = []) : a = b := by
  refine List.ext_getElem h fun i h1 h2 => ?_
  by_cases he : rdI a (i : Int) = rdI b (i : Int)
  · rwa [rdI_n h1, rdI_n h2] at he
  · have : (i : Int) ∈ apartL a b := by
      unfold apartL
      exact List.mem_map.2 ⟨i, List.mem_filter.2 ⟨List.mem_range'_1.2 (by omega), decide_eq_true he⟩, rfl⟩
    rw [hn] at this
    cases this
noncomputable def kemSpV (g : Int × List (Int × Int)) (k : Int) : (List (List Int) × List (Int × Int)) × Bool := if colCase g k ∧ (allC g k).length ≤ 300 then ((allC g k, stepsL (kemP g.1.toNat g.2) (allC g k)), true) else (([], []), false)
theorem l5Step_kem {N m : Nat} {es : List (Int × Int)} {a b : List Int} (hm : m ≤ 8) (hx : es.length ≤ 1048576) (ha : a.length = m) (hb : b.length = m) (hac : ∀ z ∈ a, 0 ≤ z ∧ z ≤ 4) (hbc : ∀ z ∈ b, 0 ≤ z ∧ z ≤ 4) (hN : 1048577 ≤ N) : spec_l5Step N ((m : Int), es) true a b = some ((kemP m es a b, ()), ()) := by
  unfold spec_l5Step kemP
  rw [l5Changed_ap (by omega) (by omega) hN, bind_some', Bool.not_true, br_f]
  simp only []
  cases hl : apartL a b with
  | nil => rfl
  | cons x l =>
    obtain ⟨h1, h2⟩ := apart_mem (a := a) (b := b) (x := x) (by rw [hl]; exact List.mem_cons_self ..)
    obtain ⟨i, hi, rfl⟩ := nat_of h1
    have e0 : rdI ((i : Int) :: l) 0 = (i : Int) := rfl
    have hbi := hbc (rdI b (i : Int)) (by rw [rdI_n (by omega)]; exact List.getElem_mem _)
    rw [ieq_f (by rw [tLen_n, List.length_cons]; omega), br_f]
    simp only [e0, inb_n (show i < b.length by omega), chk_t]
    rw [show inb ((i : Int) :: l) 0 = true from inb_n (by simp), chk_t, chk_t, spec_kempe_eq hm hx (by omega) (by omega) hbi hac hN, bind_some', l1Same_eq (by rw [kempeR_len]; omega) hN, bind_some']
theorem impl_kem {N m : Nat} {es : List (Int × Int)} {a b : List Int} (hm : m ≤ 8) (hg : goodG ((m : Int), es)) (hx : es.length ≤ 1048576) (ha : a.length = m) (hb : b.length = m) (hne : a ≠ b) (hN : 1048577 ≤ N) : (impl_KempeSpace_c1 N a b ((m : Int), es)).bind (fun z => some z.1.1) = some (kemP m es a b) := by
  unfold impl_KempeSpace_c1 kemP
  rw [places_ap (by omega) (by omega) hN, bind_some']
  simp only []
  cases hl : apartL a b with
  | nil => exact absurd (apart_nil (by omega) hl) hne
  | cons x l =>
    obtain ⟨h1, h2⟩ := apart_mem (a := a) (b := b) (x := x) (by rw [hl]; exact List.mem_cons_self ..)
    obtain ⟨i, hi, rfl⟩ := nat_of h1
    have e0 : rdI ((i : Int) :: l) 0 = (i : Int) := rfl
    simp only [e0, inb_n (show i < b.length by omega), chk_t]
    rw [show inb ((i : Int) :: l) 0 = true from inb_n (by simp), chk_t, chk_t, impl_kempe_eq hm hg hx (by omega) (by omega) hN, bind_some', Equal_eq (by rw [kempeR_len]; omega) hN, bind_some', bind_some']
def okSt (n : Nat) (st : List (Int × Int)) : Prop := (st.Pairwise fun a b => a.1 < b.1 ∨ (a.1 = b.1 ∧ a.2 < b.2)) ∧ ∀ e ∈ st, 0 ≤ e.1 ∧ e.1 < e.2 ∧ e.2 < (n : Int)
noncomputable def nbA (st : List (Int × Int)) (v : Int) : List Int := (st.filter fun e => decide (e.2 = v)).map Prod.fst
noncomputable def nbB (st : List (Int × Int)) (v : Int) : List Int := (st.filter fun e => decide (e.1 = v)).map Prod.snd
noncomputable def nbS (st : List (Int × Int)) (v : Int) : List Int := nbA st v ++ nbB st v
noncomputable def nbT (st : List (Int × Int)) (v : Int) : List Int := st.flatMap fun e => (if e.1 = v then [e.2] else []) ++ (if e.2 = v then [e.1] else [])
noncomputable def nbL (n : Nat) (st : List (Int × Int)) : List (List Int) := (List.range n).map fun i : Nat => nbS st (i : Int)
theorem okSt_cons {n : Nat} {e : Int × Int} {st : List (Int × Int)} (h : okSt n (e :: st)) : okSt n st := ⟨(List.pairwise_cons.1 h.1).2, fun e' he' => h.2 e' (List.mem_cons_of_mem _ he')⟩
theorem nbT_eq {n : Nat} : ∀ {st : List (Int × Int)} {v : Int}, okSt n st → nbT st v = nbS st v := by
  intro st v
  induction st with
  | nil => intro _; rfl
  | cons e st ih =>
    intro h
    have ih := ih (okSt_cons h)
    have h1 := h.2 e (List.mem_cons_self ..)
    have h2 := (List.pairwise_cons.1 h.1).1
    unfold nbT at ih ⊢
    rw [List.flatMap_cons, ih]
    unfold nbS nbA nbB
    by_cases he : e.1 = v
    · have hne : ¬ e.2 = v := by omega
      have hnil : (st.filter fun e => decide (e.2 = v)) = [] := List.filter_eq_nil_iff.2 fun b hb => by
        have hb1 := h2 b hb
        have hb2 := h.2 b (List.mem_cons_of_mem _ hb)
        simp only [decide_eq_true_eq]
        omega
      rw [if_pos he, if_neg hne, List.filter_cons_of_neg (by simp [hne]), List.filter_cons_of_pos (by simp [he]), hnil]
      rfl
    · by_cases he2 : e.2 = v
      · rw [if_neg he, if_pos he2, List.filter_cons_of_pos (by simp [he2]), List.filter_cons_of_neg (by simp [he])]
        rfl
      · rw [if_neg he, if_neg he2, List.filter_cons_of_neg (by simp [he2]), List.filter_cons_of_neg (by simp [he])]
        rfl
theorem nbS_strict {n : Nat} {st : List (Int × Int)} {v : Int} (h : okSt n st) : (nbS st v).Pairwise (· < ·) := by
  unfold nbS nbA nbB
  refine List.pairwise_append.2 ⟨?_, ?_, ?_⟩
  · refine List.pairwise_map.2 ((h.1.filter _).imp_of_mem fun {a b} ha hb hab => ?_)
    have e1 := of_decide_eq_true (List.mem_filter.1 ha).2
    have e2 := of_decide_eq_true (List.mem_filter.1 hb).2
    omega
  · refine List.pairwise_map.2 ((h.1.filter _).imp_of_mem fun {a b} ha hb hab => ?_)
    have e1 := of_decide_eq_true (List.mem_filter.1 ha).2
    have e2 := of_decide_eq_true (List.mem_filter.1 hb).2
    omega
  · intro a ha b hb
    obtain ⟨a', ha1, rfl⟩ := List.mem_map.1 ha
    obtain ⟨b', hb1, rfl⟩ := List.mem_map.1 hb
    have e1 := of_decide_eq_true (List.mem_filter.1 ha1).2
    have e2 := of_decide_eq_true (List.mem_filter.1 hb1).2
    have l1 := h.2 a' (List.mem_filter.1 ha1).1
    have l2 := h.2 b' (List.mem_filter.1 hb1).1
    omega
theorem nbS_in {n : Nat} {st : List (Int × Int)} {v : Int} (h : okSt n st) : ∀ z ∈ nbS st v, InN n z := by
  intro z hz
  unfold nbS nbA nbB at hz
  rcases List.mem_append.1 hz with hz | hz
  · obtain ⟨a, ha, rfl⟩ := List.mem_map.1 hz
    have := h.2 a (List.mem_filter.1 ha).1
    exact ⟨by omega, by omega⟩
  · obtain ⟨a, ha, rfl⟩ := List.mem_map.1 hz
    have := h.2 a (List.mem_filter.1 ha).1
    exact ⟨by omega, by omega⟩
theorem nbS_len {n : Nat} {st : List (Int × Int)} {v : Int} (h : okSt n st) : (nbS st v).length ≤ n :=
  inM_len ⟨strict_nodup (nbS_strict h), nbS_in h⟩
theorem mem_nbS {n : Nat} {st : List (Int × Int)} {v w : Int} (h : okSt n st) : w ∈ nbS st v ↔ (w, v) ∈ st ∨ (v, w) ∈ st := by
  unfold nbS nbA nbB
  rw [List.mem_append, List.mem_map, List.mem_map]
  constructor
  · rintro (⟨a, ha, rfl⟩ | ⟨a, ha, rfl⟩)
    · have e1 := of_decide_eq_true (List.mem_filter.1 ha).2
      refine .inl ?_
      rw [← e1]
      exact (List.mem_filter.1 ha).1
    · have e1 := of_decide_eq_true (List.mem_filter.1 ha).2
      refine .inr ?_
      rw [← e1]
      exact (List.mem_filter.1 ha).1
  · rintro (ha | ha)
    · exact .inl ⟨_, List.mem_filter.2 ⟨ha, by simp⟩, rfl⟩
    · exact .inr ⟨_, List.mem_filter.2 ⟨ha, by simp⟩, rfl⟩
theorem nbL_rd {n : Nat} {st : List (Int × Int)} {v : Int} (hv : InN n v) : rdL (nbL n st) v = nbS st v := by
  obtain ⟨i, hi, rfl⟩ := nat_of hv
  rw [rdL_n (by simp [nbL]; exact hi)]
  simp [nbL]
theorem nbL_ok {n : Nat} {st : List (Int × Int)} (hn : n ≤ 1048576) (h : okSt n st) : okLists (nbL n st) n := by
  refine ⟨by simp [nbL], fun l hl => ?_⟩
  obtain ⟨i, _, rfl⟩ := List.mem_map.1 hl
  exact ⟨Nat.le_trans (nbS_len h) hn, nbS_in h⟩
theorem stepsL_ok {p : List Int → List Int → Bool} {xs : List (List Int)} : okSt xs.length (stepsL p xs) := by
  have hin : ∀ i, i < xs.length → ∀ e ∈ rowSteps p xs i, e.1 = (i : Int) ∧ e.1 < e.2 ∧ e.2 < (xs.length : Int) := by
    intro i hi e he
    unfold rowSteps at he
    obtain ⟨j, hj, rfl⟩ := List.mem_map.1 he
    have := List.mem_range'_1.1 (List.mem_filter.1 hj).1
    refine ⟨rfl, ?_, ?_⟩
    · show (i : Int) < (j : Int)
      omega
    · show (j : Int) < _
      omega
  constructor
  · unfold stepsL
    rw [List.pairwise_flatMap]
    refine ⟨fun i hi => ?_, ?_⟩
    · unfold rowSteps
      refine List.pairwise_map.2 (List.Pairwise.filter _ ?_)
      refine (List.pairwise_lt_range' (step := 1) (by omega)).imp fun {a b} hab => .inr ⟨rfl, ?_⟩
      show (a : Int) < (b : Int)
      omega
    · refine List.Pairwise.imp_of_mem ?_ (List.pairwise_lt_range' (step := 1) (by omega))
      intro a b ha hb hab x hx y hy
      have ha := List.mem_range'_1.1 ha
      have hb := List.mem_range'_1.1 hb
      have h1 := hin a (by omega) x hx
      have h2 := hin b (by omega) y hy
      omega
  · intro e he
    unfold stepsL at he
    obtain ⟨i, hi, he⟩ := List.mem_flatMap.1 he
    have hi := List.mem_range'_1.1 hi
    have := hin i (by omega) e he
    omega
theorem set_map {n v : Nat} {f g : Nat → List Int} {u : List Int} (h : g v = u) (ho : ∀ i, i < n → i ≠ v → g i = f i) : tSet ((List.range n).map f) (v : Int) u = (List.range n).map g := by
  rw [tSet_n]
  refine List.ext_getElem (by simp) fun i h1 h2 => ?_
  rw [List.length_set, List.length_map, List.length_range] at h1
  by_cases hi : i = v
  · subst hi
    rw [List.getElem_set_self]
    simp [h]
  · rw [List.getElem_set_ne (fun e => hi e.symm)]
    simp [ho i h1 hi]
theorem rdL_map {n : Nat} {f : Nat → List Int} {i : Nat} (hi : i < n) : rdL ((List.range n).map f) (i : Int) = f i := by
  rw [rdL_n (by simp; exact hi)]
  simp
theorem inb_map {n : Nat} {f : Nat → List Int} {i : Nat} (hi : i < n) : inb ((List.range n).map f) (i : Int) = true := inb_n (by simp; exact hi)
theorem rep_map (n : Nat) : List.replicate n ([] : List Int) = (List.range n).map fun _ => [] := by
  refine List.ext_getElem (by simp) fun i h1 h2 => ?_
  simp
theorem rdP_mid (p q : List (Int × Int)) (e : Int × Int) : rdP (p ++ e :: q) ((p.length : Nat) : Int) = e := by simp [rdP]
theorem nbT_snoc (p : List (Int × Int)) (e : Int × Int) (v : Int) : nbT (p ++ [e]) v = nbT p v ++ ((if e.1 = v then [e.2] else []) ++ (if e.2 = v then [e.1] else [])) := by
  unfold nbT
  rw [List.flatMap_append]
  simp
theorem nbT_len (p : List (Int × Int)) (v : Int) : (nbT p v).length ≤ 2 * p.length := by
  induction p with
  | nil => simp [nbT]
  | cons e p ih =>
    unfold nbT at ih ⊢
    rw [List.flatMap_cons, List.length_append, List.length_append, List.length_cons]
    have h1 : (if e.1 = v then [e.2] else []).length ≤ 1 := by by_cases h : e.1 = v <;> simp [h]
    have h2 : (if e.2 = v then [e.1] else []).length ≤ 1 := by by_cases h : e.2 = v <;> simp [h]
    omega
theorem sroads_eq {N : Nat} {xs : List (List Int)} {st : List (Int × Int)} (hx : xs.length < 1024) (hs : st.length ≤ 1048576) (h : okSt xs.length st) (hN : 1048577 ≤ N) : impl_Space_roads N (xs, st) = some ((nbL xs.length st, ()), ()) := by
  have hin : ∀ e ∈ st, ∃ a b : Nat, e = ((a : Int), (b : Int)) ∧ a < b ∧ b < xs.length := fun e he => by
    have := h.2 e he
    exact ⟨e.1.toNat, e.2.toNat, Prod.ext (by simp only []; omega) (by simp only []; omega), by omega, by omega⟩
  have goA : ∀ (q p : List (Int × Int)) (K : Nat) (k0 : List (List Int) → Option ((List (List Int) × Unit) × Unit)), q.length < K → p ++ q = st →
      impl_Space_roads_l0 N k0 K st (st.length : Int) (p.length : Int) ((List.range xs.length).map fun i : Nat => nbT p (i : Int)) = k0 ((List.range xs.length).map fun i : Nat => nbT st (i : Int)) := by
    intro q
    induction q with
    | nil =>
      intro p K k0 hK hp
      obtain ⟨k, rfl⟩ := succ_of hK
      rw [List.append_nil] at hp
      subst hp
      simp only [impl_Space_roads_l0, ilt_nf (Nat.lt_irrefl _), br_f]
    | cons e q ih =>
      intro p K k0 hK hp
      obtain ⟨k, rfl⟩ := succ_of hK
      have hpl : p.length < st.length := by rw [← hp]; simp
      obtain ⟨a, b, rfl, hab, hb⟩ := hin e (by rw [← hp]; simp)
      have hr : rdP st (p.length : Int) = ((a : Int), (b : Int)) := by rw [← hp, rdP_mid]
      have hl := nbT_len p (b : Int)
      have hl2 := nbT_len p (a : Int)
      have ha : a < xs.length := by omega
      have hs1 := set_map (n := xs.length) (v := a) (f := fun i : Nat => nbT p (i : Int)) (g := fun i : Nat => nbT p (i : Int) ++ if a = i then [(b : Int)] else []) (u := nbT p (a : Int) ++ [(b : Int)]) (by simp) (fun i _ hi => by rw [if_neg (fun e => hi e.symm), List.append_nil])
      have hs2 := set_map (n := xs.length) (v := b) (f := fun i : Nat => nbT p (i : Int) ++ if a = i then [(b : Int)] else []) (g := fun i : Nat => nbT (p ++ [((a : Int), (b : Int))]) (i : Int)) (u := nbT p (b : Int) ++ [(a : Int)]) (by rw [nbT_snoc, if_neg (show ¬ (a : Int) = (b : Int) by omega), if_pos rfl]; rfl) (fun i _ hi => by
        rw [nbT_snoc, if_neg (show ¬ (b : Int) = (i : Int) by omega)]
        by_cases hai : a = i
        · rw [if_pos (show (a : Int) = (i : Int) by omega), if_pos hai]; rfl
        · rw [if_neg (show ¬ (a : Int) = (i : Int) by omega), if_neg hai]; rfl)
      have hrb : rdL ((List.range xs.length).map fun i : Nat => nbT p (i : Int) ++ if a = i then [(b : Int)] else []) (b : Int) = nbT p (b : Int) := by
        rw [rdL_map hb, if_neg (show ¬ a = b by omega), List.append_nil]
      simp only [impl_Space_roads_l0, ilt_n hpl, br_t, inb_n hpl, chk_t, hr, inb_map ha, rdL_map ha]
      rw [room_ok (by simp; omega), chk_t, ieq_t rfl, chk_t, wrap_succ (by omega), tApp_d, hs1, inb_map hb, chk_t, hrb, room_ok (by simp; omega), chk_t, ieq_t rfl, chk_t, chk_t, tApp_d, hs2]
      have := ih (p ++ [((a : Int), (b : Int))]) k k0 (by simp at hK; omega) (by rw [List.append_assoc]; exact hp)
      rw [List.length_append, List.length_singleton] at this
      exact this
  have e0 : ((List.range xs.length).map fun i : Nat => nbT st (i : Int)) = nbL xs.length st := List.map_congr_left fun i _ => nbT_eq h
  have hlen : (nbL xs.length st).length = xs.length := by simp [nbL]
  have goB : ∀ (d n K : Nat), n + d = xs.length → d < K → impl_Space_roads_l1 N (fun o1 => some ((o1, ()), ())) K (xs.length : Int) n (nbL xs.length st) = some ((nbL xs.length st, ()), ()) := by
    intro d
    induction d with
    | zero =>
      intro n K hd hK
      obtain ⟨k, rfl⟩ := succ_of hK
      simp only [impl_Space_roads_l1, ilt_nf (show ¬ n < xs.length by omega), br_f]
    | succ d ih =>
      intro n K hd hK
      obtain ⟨k, rfl⟩ := succ_of hK
      have hn : n < xs.length := by omega
      have hs := nbS_strict (v := (n : Int)) h
      have hl := nbS_len (v := (n : Int)) h
      simp only [impl_Space_roads_l1, ilt_n hn, br_t, inb_n (show n < (nbL xs.length st).length by omega), chk_t]
      rw [nbL_rd (in_nat hn), Sort_asc (hs.imp fun hab => by omega) (by omega) hN, bind_some', wrap_succ (by omega), tSet_n]
      have : (nbL xs.length st).set n (nbS st (n : Int)) = nbL xs.length st := by
        refine List.ext_getElem (by simp) fun i h1 h2 => ?_
        by_cases hi : i = n
        · subst hi
          rw [List.getElem_set_self]
          simp [nbL]
        · rw [List.getElem_set_ne (fun e => hi e.symm)]
      simp only [this]
      exact ih (n + 1) k (by omega) (by omega)
  unfold impl_Space_roads
  simp only []
  rw [tLen_n, tLen_n, ile_t (by omega), ile_t (Int.le_refl _), fits_ok (by omega)]
  simp only [Bool.and_self, chk_t]
  rw [tRep_n, rep_map]
  have g1 := goA st [] N (fun o => impl_Space_roads_l1 N (fun o1 => some ((o1, ()), ())) N (tLen o) 0 o) (by omega) rfl
  have e1 : ((List.range xs.length).map fun i : Nat => nbT [] (i : Int)) = (List.range xs.length).map fun _ => [] := rfl
  rw [e1] at g1
  simp only [List.length_nil, Int.natCast_zero] at g1
  rw [g1, e0, tLen_n, hlen]
  exact goB xs.length 0 N (by omega) (by omega)
theorem idx_lt {xs : List (List Int)} {a : List Int} (h : a ∈ xs) : xs.idxOf a < xs.length := List.idxOf_lt_length_iff.2 h
theorem idx_rd {xs : List (List Int)} {a : List Int} (h : a ∈ xs) : rdL xs ((xs.idxOf a : Nat) : Int) = a := by
  rw [rdL_n (idx_lt h)]
  exact List.getElem_idxOf (idx_lt h)
theorem moreC_pre {k : Nat} {es : List (Int × Int)} : ∀ (d : Nat) (b : List Int) (l : List (List Int)), ∃ t, moreC k es d b l = l ++ t := by
  intro d
  induction d with
  | zero => intro b l; exact ⟨[b], rfl⟩
  | succ d ih =>
    intro b l
    unfold moreC
    refine stepsC_inv (p := fun l' => ∃ t, l' = l ++ t) (fun c l' _ ⟨t, ht⟩ => ?_) k 0 l ⟨[], by simp⟩
    by_cases hf : freeC es b (c : Int)
    · rw [if_pos hf]
      obtain ⟨t2, h2⟩ := ih (b ++ [(c : Int)]) l'
      exact ⟨t ++ t2, by rw [h2, ht, List.append_assoc]⟩
    · rw [if_neg hf]; exact ⟨t, ht⟩
theorem stepsC_mem {f : Nat → List (List Int) → List (List Int)} (hf : ∀ c l, ∃ t, f c l = l ++ t) {x : List Int} {c0 : Nat} (hx : ∀ l, (f c0 l).length ≤ 300 → x ∈ f c0 l) : ∀ (r c : Nat) (l : List (List Int)), c ≤ c0 → c0 < c + r → (stepsC f r c l).length ≤ 300 → x ∈ stepsC f r c l := by
  have mono : ∀ (r c : Nat) (l : List (List Int)), ∃ t, stepsC f r c l = l ++ t := fun r c l =>
    stepsC_inv (p := fun l' => ∃ t, l' = l ++ t) (fun c l' _ ⟨t, ht⟩ => by
      obtain ⟨t2, h2⟩ := hf c l'
      exact ⟨t ++ t2, by rw [h2, ht, List.append_assoc]⟩) r c l ⟨[], by simp⟩
  intro r
  induction r with
  | zero => intro c l h1 h2; omega
  | succ r ih =>
    intro c l h1 h2 h3
    have hl : l.length ≤ 300 := by
      obtain ⟨t, ht⟩ := mono (r + 1) c l
      rw [ht] at h3
      simp at h3
      omega
    unfold stepsC at h3 ⊢
    rw [if_pos hl] at h3 ⊢
    by_cases hc : c = c0
    · subst hc
      obtain ⟨t, ht⟩ := mono r (c + 1) (f c l)
      rw [ht] at h3 ⊢
      rw [List.length_append] at h3
      exact List.mem_append_left _ (hx l (by omega))
    · exact ih (c + 1) (f c l) (by omega) (by omega) h3
theorem moreC_mem {k : Nat} {es : List (Int × Int)} {a : List Int} (ha : ∀ z ∈ a, 0 ≤ z ∧ z < (k : Int)) (hp : ∀ i : Nat, i < a.length → freeC es (a.take i) (rdI a (i : Int))) : ∀ (d i : Nat) (l : List (List Int)), i + d = a.length → (moreC k es d (a.take i) l).length ≤ 300 → a ∈ moreC k es d (a.take i) l := by
  intro d
  induction d with
  | zero =>
    intro i l hi _
    unfold moreC
    rw [List.take_of_length_le (by omega)]
    simp
  | succ d ih =>
    intro i l hi hl
    unfold moreC at hl ⊢
    have hil : i < a.length := by omega
    have hz := ha a[i] (List.getElem_mem hil)
    have hri : rdI a (i : Int) = a[i] := rdI_n hil
    obtain ⟨c0, hc0⟩ : ∃ c0 : Nat, a[i] = (c0 : Int) := ⟨a[i].toNat, by omega⟩
    have hfree := hp i hil
    rw [hri, hc0] at hfree
    refine stepsC_mem (c0 := c0) (fun c l => ?_) (fun l' hl' => ?_) k 0 l (Nat.zero_le _) (by omega) hl
    · by_cases hf : freeC es (a.take i) (c : Int)
      · simp only [if_pos hf]; exact moreC_pre ..
      · simp only [if_neg hf]; exact ⟨[], by simp⟩
    · simp only [if_pos hfree] at hl' ⊢
      have e : a.take i ++ [(c0 : Int)] = a.take (i + 1) := by rw [List.take_add_one, List.getElem?_eq_getElem hil, hc0]; rfl
      rw [e] at hl' ⊢
      exact ih (i + 1) l' (by omega) hl'
theorem mem_allC {g : Int × List (Int × Int)} {k : Int} {a : List Int} (hk : colCase g k) (hl : (allC g k).length ≤ 300) (h : proper g k a) : a ∈ allC g k := by
  obtain ⟨h1, h2, h3⟩ := h
  have hk2 := hk.2
  have hg := hk.1.1
  unfold allC at hl ⊢
  have := moreC_mem (k := k.toNat) (es := g.2) (a := a) (fun z hz => by have := h2 z hz; omega) (fun i hi y hy hc => by
    have hy' : y < i := by simp at hy; omega
    obtain ⟨e1, e2⟩ := hc
    rw [rdI_take hy' (by omega)] at e1
    have hlen : (a.take i).length = i := by simp; omega
    rw [hlen] at e2
    rcases e2 with e2 | e2
    · exact h3 _ e2 e1
    · exact h3 _ e2 e1.symm) g.1.toNat 0 [] (by omega) hl
  exact this
theorem l5Space_ch {N : Nat} {g : Int × List (Int × Int)} {k : Int} (hx : g.2.length ≤ 1048576) (hN : 1048577 ≤ N) : spec_l5Space N g k false = some (((colSpV g k).1, (colSpV g k).2, ()), ()) := by
  unfold spec_l5Space colSpV
  simp only [show ((g.1, g.2) : Int × List (Int × Int)) = g from rfl]
  rw [l5All_eq hx hN, bind_some']
  unfold colsR
  by_cases h : colCase g k ∧ (allC g k).length ≤ 300
  · rw [if_pos h, if_pos h]
    have hr := allC_rows (g := g) (k := k)
    have hg := h.1.1.1
    simp only [Bool.not_true, br_f]
    rw [l5Space_loop (p := isCh) (fun a ha b hb => ?_) (by omega) hN]
    have e1 := hr a ha
    have e2 := hr b hb
    unfold spec_l5Step
    rw [l5Changed_ap (by omega) (by omega) hN, bind_some']
    rw [Bool.not_false, br_t]
    congr 3
    unfold isCh
    by_cases h1 : (apartL a b).length = 1
    · rw [decide_eq_true h1]; exact ieq_t (by simp only [tLen_n]; omega)
    · rw [decide_eq_false h1]; exact ieq_f (by simp only [tLen_n]; omega)
  · rw [if_neg h, if_neg h]
    rfl
theorem impl_ColSp {N : Nat} {g : Int × List (Int × Int)} {k : Int} (hx : g.2.length ≤ 1048576) (hN : 1048577 ≤ N) : impl_ColourSpace N g k = some (((colSpV g k).1, (colSpV g k).2, ()), ()) := by
  unfold impl_ColourSpace colSpV
  simp only [show ((g.1, g.2) : Int × List (Int × Int)) = g from rfl]
  rw [colourings_eq hx hN, bind_some']
  unfold colsR
  by_cases h : colCase g k ∧ (allC g k).length ≤ 300
  · rw [if_pos h, if_pos h]
    obtain ⟨s1, s2⟩ := allC_sorted g k
    have hr := allC_rows (g := g) (k := k)
    have hg := h.1.1.1
    have hst := colSteps_le h.1 h.2
    have hr8 : ∀ x ∈ allC g k, x.length ≤ 8 := fun x hx => by have := hr x hx; omega
    simp only [Bool.not_true, br_f]
    rw [spaceOf_eq (p := isCh) s1 (fun x hx => by have := hr8 x hx; omega) (by omega) (fun a ha b hb => ?_) hN, bind_some']
    · simp only []
      rw [orNone_eq (by simp only []; omega) (by simp only []; omega), bind_some']
    · have e1 := hr a ha
      have e2 := hr b hb
      show (impl_isChange N a b).bind _ = _
      rw [isChange_eq (by omega) (by omega) hN]
      rfl
  · rw [if_neg h, if_neg h]
    rfl
theorem l5Space_kem {N : Nat} {g : Int × List (Int × Int)} {k : Int} (hx : g.2.length ≤ 1048576) (hN : 1048577 ≤ N) : spec_l5Space N g k true = some (((kemSpV g k).1, (kemSpV g k).2, ()), ()) := by
  unfold spec_l5Space kemSpV
  simp only [show ((g.1, g.2) : Int × List (Int × Int)) = g from rfl]
  rw [l5All_eq hx hN, bind_some']
  unfold colsR
  by_cases h : colCase g k ∧ (allC g k).length ≤ 300
  · rw [if_pos h, if_pos h]
    obtain ⟨s1, s2⟩ := allC_sorted g k
    have hr := allC_rows (g := g) (k := k)
    have hg := h.1.1.1
    have hk := h.1.2
    have hc4 : ∀ x ∈ allC g k, ∀ z ∈ x, 0 ≤ z ∧ z ≤ 4 := fun x hx z hz => by have := s2 x hx z hz; omega
    have eg1 : ((g.1.toNat : Nat) : Int) = g.1 := by omega
    simp only [Bool.not_true, br_f]
    rw [l5Space_loop (p := kemP g.1.toNat g.2) (fun a ha b hb => ?_) (by omega) hN]
    have := l5Step_kem (N := N) (m := g.1.toNat) (es := g.2) (by omega) hx (hr a ha) (hr b hb) (hc4 a ha) (hc4 b hb) hN
    rwa [eg1] at this
  · rw [if_neg h, if_neg h]
    rfl
end Go.Proofs.YtbnjcjpnpidhmaaGreat
