/- Statements on data alone. -/
import Derived.Test.YtgelipdkheahdaaPvPure
import Derived.Test.YtgelipdkheahdaaMixingColoursGa
set_option linter.all false
set_option linter.all false
namespace Go.Proofs.Ytgelipdkheahdaa
open Go Go.PV Classical
theorem lexC_anti : ∀ (a b : List Int), lexC b a = - lexC a b := by
  intro a
  induction a with
  | nil => intro b; cases b <;> rfl
  | cons x a ih =>
    intro b
    cases b with
    | nil => rfl
    | cons y b =>
      simp only [lexC]
      by_cases h1 : x < y
      · simp [h1, show ¬ y < x by omega]
      · by_cases h2 : y < x
        · simp [h1, h2]
        · simp [h1, h2, ih]
theorem lexC_self (a : List Int) : lexC a a = 0 := by have := lexC_anti a a; omega
theorem Compare_lex {N : Nat} {a b : List Int} (ha : a.length ≤ 1048576) (hb : b.length ≤ 1048576) (hN : 1048577 ≤ N) : slices_Compare_LI_int N a b = some ((lexC a b, ()), ()) := by
  unfold slices_Compare_LI_int
  have go : ∀ (d n K : Nat), n + d = a.length → d < K → n ≤ b.length → lexC a b = lexC (a.drop n) (b.drop n) → slices_Compare_LI_int_l0 N (fun x => some ((x, ()), ())) (fun s11 s21 => (br (ilt (tLen s11) (tLen s21)) (some (((-1), ()), ())) (some ((0, ()), ())))) K a b a (a.length : Int) n = some ((lexC a b, ()), ()) := by
    intro d
    induction d with
    | zero =>
      intro n K hd hK hn h
      obtain ⟨k, rfl⟩ := succ_of hK
      simp only [slices_Compare_LI_int_l0, ilt_nf (show ¬ n < a.length by omega), br_f]
      rw [tLen_n, tLen_n, h, List.drop_of_length_le (show a.length ≤ n by omega)]
      by_cases hlt : a.length < b.length
      · rw [ilt_n hlt, br_t, drop_cons (show n < b.length by omega)]; rfl
      · rw [ilt_nf hlt, br_f, List.drop_of_length_le (show b.length ≤ n by omega)]; rfl
    | succ d ih =>
      intro n K hd hK hn h
      obtain ⟨k, rfl⟩ := succ_of hK
      have hna : n < a.length := by omega
      simp only [slices_Compare_LI_int_l0, ilt_n hna, br_t, inb_n hna, chk_t]
      rw [drop_cons hna] at h
      by_cases hnb : n < b.length
      · rw [tLen_n, ile_f (by omega), br_f, inb_n hnb, chk_t, compare_eq, bind_some', rdI_n hna, rdI_n hnb]
        rw [drop_cons hnb] at h
        simp only [lexC] at h
        simp only []
        by_cases h1 : a[n] < b[n]
        · rw [if_pos h1] at h ⊢
          rw [ine_t (by omega), br_t, h]
        · rw [if_neg h1] at h ⊢
          by_cases h2 : b[n] < a[n]
          · rw [if_pos h2] at h ⊢
            rw [ine_t (by omega), br_t, h]
          · rw [if_neg h2] at h ⊢
            rw [ine_f rfl, br_f, wrap_succ (by omega)]
            exact ih (n + 1) k (by omega) (by omega) (by omega) h
      · rw [tLen_n, ile_t (by omega), br_t, h, List.drop_of_length_le (show b.length ≤ n by omega)]
        rfl
  exact go a.length 0 N (by omega) (by omega) (Nat.zero_le _) rfl
def lexSorted (xs : List (List Int)) : Prop := xs.Pairwise fun a b => lexC a b < 0
theorem lexC_trans : ∀ {a b c : List Int}, lexC a b < 0 → lexC b c < 0 → lexC a c < 0 := by
  intro a
  induction a with
  | nil =>
    intro b c h1 h2
    cases b with
    | nil => simp [lexC] at h1
    | cons y b =>
      cases c with
      | nil => simp [lexC] at h2
      | cons z c => simp [lexC]
  | cons x a ih =>
    intro b c h1 h2
    cases b with
    | nil => simp [lexC] at h1
    | cons y b =>
      cases c with
      | nil => simp [lexC] at h2
      | cons z c =>
        simp only [lexC] at h1 h2 ⊢
        by_cases p1 : x < y
        · by_cases p2 : y < z
          · rw [if_pos (show x < z by omega)]; decide
          · rw [if_neg p2] at h2
            by_cases p3 : z < y
            · rw [if_pos p3] at h2; omega
            · rw [if_pos (show x < z by omega)]; decide
        · rw [if_neg p1] at h1
          by_cases p2 : y < x
          · rw [if_pos p2] at h1; omega
          · rw [if_neg p2] at h1
            have e : x = y := by omega
            subst e
            by_cases p3 : x < z
            · rw [if_pos p3]; decide
            · rw [if_neg p3] at h2 ⊢
              by_cases p4 : z < x
              · rw [if_pos p4] at h2; omega
              · rw [if_neg p4] at h2 ⊢
                exact ih h1 h2
theorem lexC_eq : ∀ {a b : List Int}, lexC a b = 0 → a = b := by
  intro a
  induction a with
  | nil => intro b h; cases b with
    | nil => rfl
    | cons y b => simp [lexC] at h
  | cons x a ih =>
    intro b h
    cases b with
    | nil => simp [lexC] at h
    | cons y b =>
      simp only [lexC] at h
      by_cases p1 : x < y
      · rw [if_pos p1] at h; omega
      · rw [if_neg p1] at h
        by_cases p2 : y < x
        · rw [if_pos p2] at h; omega
        · rw [if_neg p2] at h
          rw [ih h, show x = y by omega]
theorem lexC_flip {a b : List Int} (h1 : ¬ lexC a b < 0) (h2 : a ≠ b) : lexC b a < 0 := by
  have := lexC_anti a b
  have h3 : lexC a b ≠ 0 := fun e => h2 (lexC_eq e)
  omega
theorem lex_nodup {xs : List (List Int)} (h : lexSorted xs) : xs.Nodup := h.imp fun hab e => by rw [e, lexC_self] at hab; omega
theorem SortFunc_rows {N : Nat} {xs ys : List (List Int)} (hx : xs.length ≤ 1048576) (hl : ∀ x ∈ xs, x.length ≤ 1048576) (hn : xs.Nodup) (hs : lexSorted ys) (hm : ∀ s, s ∈ ys ↔ s ∈ xs) (hN : 1048577 ≤ N) :
    slices_SortFunc_LLI_LI_kslices_Compare_LI_int N xs () = some ((), (ys, ())) := by
  have hc : ∀ a ∈ xs, ∀ b ∈ xs, (slices_Compare_LI_int N a b).map (fun z => z.1.1) = some (lexC a b) := fun a ha b hb => by rw [Compare_lex (hl a ha) (hl b hb) hN]; rfl
  have hv : ∀ a ∈ xs, ∀ b ∈ xs, cmpV (fun a b => (slices_Compare_LI_int N a b).map fun z => z.1.1) a b = lexC a b := fun a ha b hb => by
    show ((slices_Compare_LI_int N a b).map fun z => z.1.1).getD 0 = _
    rw [hc a ha b hb]
    rfl
  unfold slices_SortFunc_LLI_LI_kslices_Compare_LI_int
  refine sortF_eq ⟨⟨by omega, fun a ha b hb => ⟨_, hc a ha b hb⟩, fun a ha => ?_, fun a ha b hb c hc' h1 h2 => ?_, fun a ha b hb c hc' h1 h2 => ?_, fun a ha b hb h1 h2 => ?_⟩, (List.perm_ext_iff_of_nodup (lex_nodup hs) hn).2 hm, ?_⟩
  · rw [hv a ha a ha, lexC_self]; decide
  · rw [hv a ha b hb] at h1
    rw [hv b hb c hc'] at h2
    rw [hv a ha c hc']
    exact lexC_trans h1 h2
  · rw [hv a ha b hb] at h1
    rw [hv b hb c hc'] at h2
    rw [hv a ha c hc']
    intro h3
    by_cases e : a = b
    · exact h2 (e ▸ h3)
    · exact h2 (lexC_trans (lexC_flip h1 e) h3)
  · rw [hv a ha b hb] at h1
    rw [hv b hb a ha] at h2
    have := lexC_anti a b
    exact lexC_eq (by omega)
  · refine hs.imp_of_mem fun {a b} ha hb hab => ?_
    rw [hv b ((hm b).1 hb) a ((hm a).1 ha)]
    have := lexC_anti a b
    omega
noncomputable def rowSteps (p : List Int → List Int → Bool) (xs : List (List Int)) (i : Nat) : List (Int × Int) := ((List.range' (i + 1) (xs.length - (i + 1))).filter fun j : Nat => p (rdL xs (i : Int)) (rdL xs (j : Int))).map fun j : Nat => ((i : Int), (j : Int))
noncomputable def stepsL (p : List Int → List Int → Bool) (xs : List (List Int)) : List (Int × Int) := (List.range' 0 xs.length).flatMap (rowSteps p xs)
theorem rowSteps_len (p : List Int → List Int → Bool) (xs : List (List Int)) (i : Nat) : (rowSteps p xs i).length ≤ xs.length := by
  unfold rowSteps
  rw [List.length_map]
  exact Nat.le_trans (List.length_filter_le ..) (by simp)
noncomputable def apartL (a b : List Int) : List Int := ((List.range' 0 a.length).filter fun i : Nat => decide (rdI a (i : Int) ≠ rdI b (i : Int))).map fun i : Nat => (i : Int)
noncomputable def isCh (a b : List Int) : Bool := decide ((apartL a b).length = 1)
theorem places_ap {N : Nat} {a b : List Int} (ha : a.length ≤ 1048576) (hab : a.length ≤ b.length) (hN : 1048577 ≤ N) : impl_places N a b = some ((apartL a b, ()), ()) := by
  unfold impl_places
  rw [tLen_n]
  refine (loop_iter (L := fun K n o => impl_places_l0 N (fun o => some ((o, ()), ())) K b a (a.length : Int) n o) (k := fun o => some ((o, ()), ())) (Inv := fun n o => o.length ≤ n) (step := fun n o => if rdI a (n : Int) ≠ rdI b (n : Int) then o ++ [(n : Int)] else o) (fun K n s hn _ => ?_) (fun K n s hn hs => ?_) (fun n s hn h => ?_) (s := []) (m := a.length) (K := N) (by omega) (Nat.zero_le _)).trans ?_
  · simp only [impl_places_l0, ilt_nf hn, br_f]
  · simp only [impl_places_l0, ilt_n hn, br_t, inb_n hn, inb_n (show n < b.length by omega), chk_t]
    rw [wrap_succ (by omega), room_ok (by simp; omega), chk_t, tApp_d]
    by_cases h : rdI a (n : Int) = rdI b (n : Int)
    · rw [ine_f h.symm, br_f, if_neg (not_not_intro h)]
    · rw [ine_t (fun e => h e.symm), br_t, if_pos h]
  · by_cases hc : rdI a (n : Int) = rdI b (n : Int)
    · rw [if_neg (not_not_intro hc)]; omega
    · rw [if_pos hc]; simp; omega
  · rw [iter_app, List.nil_append]
    rfl
theorem isChange_eq {N : Nat} {a b : List Int} (ha : a.length ≤ 1048576) (hab : a.length ≤ b.length) (hN : 1048577 ≤ N) : impl_isChange N a b = some ((isCh a b, ()), ()) := by
  unfold impl_isChange isCh
  rw [places_ap ha hab hN, bind_some', tLen_n]
  congr 3
  by_cases h : (apartL a b).length = 1
  · rw [ieq_t (show ((apartL a b).length : Int) = 1 by omega), decide_eq_true h]
  · rw [ieq_f (show ((apartL a b).length : Int) ≠ 1 by omega), decide_eq_false h]
theorem spaceOf_g {N : Nat} {xs0 xs : List (List Int)} {is : List Int → List Int → Option Bool} {p : List Int → List Int → Bool} (hsort : slices_SortFunc_LLI_LI_kslices_Compare_LI_int N xs0 () = some ((), (xs, ()))) (hs : lexSorted xs) (hx : xs.length < 1024) (hp : ∀ a ∈ xs, ∀ b ∈ xs, a ≠ b → is a b = some (p a b)) (hN : 1048577 ≤ N) :
    impl_spaceOf N xs0 is = some (((xs, stepsL p xs), ()), ()) := by
  unfold impl_spaceOf
  rw [hsort, bind_some']
  simp only []
  rw [tLen_n]
  have hrd : ∀ j : Nat, j < xs.length → rdL xs (j : Int) ∈ xs := fun j hj => by rw [rdL_n hj]; exact List.getElem_mem hj
  have hne : ∀ i j : Nat, i < j → j < xs.length → rdL xs (i : Int) ≠ rdL xs (j : Int) := fun i j hij hj e => by
    have := List.pairwise_iff_getElem.1 hs i j (by omega) hj hij
    rw [rdL_n (show i < xs.length by omega), rdL_n hj] at e
    rw [e, lexC_self] at this
    omega
  have inner : ∀ (d i j K : Nat) (o : List (Int × Int)) (k0 : (List Int → List Int → Option Bool) → Int → Int → List (List Int) → List (Int × Int) → Option (((List (List Int) × List (Int × Int)) × Unit) × Unit)), i < xs.length → j + d = xs.length - (i + 1) → d < K → o.length + d ≤ 1099511627776 →
      impl_spaceOf_l0_0 N k0 K is (i : Int) (i : Int) (xs.length : Int) (i : Int) ((i + 1 : Nat) : Int) (xs.length : Int) ((xs.length - (i + 1) : Nat) : Int) (j : Int) xs o = k0 is (xs.length : Int) (i : Int) xs (o ++ ((List.range' (i + 1 + j) d).filter fun j : Nat => p (rdL xs (i : Int)) (rdL xs (j : Int))).map fun j : Nat => ((i : Int), (j : Int))) := by
    intro d
    induction d with
    | zero =>
      intro i j K o k0 hi hj hK ho
      obtain ⟨k, rfl⟩ := succ_of hK
      simp only [impl_spaceOf_l0_0, ilt_nf (show ¬ j < xs.length - (i + 1) by omega), br_f]
      simp
    | succ d ih =>
      intro i j K o k0 hi hj hK ho
      obtain ⟨k, rfl⟩ := succ_of hK
      have hj' : i + 1 + j < xs.length := by omega
      simp only [impl_spaceOf_l0_0, ilt_n (show j < xs.length - (i + 1) by omega), br_t]
      rw [ile_t (by omega), ilt_t (show (j : Int) < (xs.length : Int) - ((i + 1 : Nat) : Int) by omega)]
      simp only [Bool.and_self, chk_t]
      rw [show ((i + 1 : Nat) : Int) + (j : Int) = ((i + 1 + j : Nat) : Int) by omega, hp _ (hrd i hi) _ (hrd _ hj') (hne i _ (by omega) hj'), bind_some', wrap_succ (show i < 4611686018427387904 by omega), show ((i + 1 : Nat) : Int) + (j : Int) = ((i + 1 + j : Nat) : Int) by omega, wrap_ok (n := ((i + 1 + j : Nat) : Int)) (by omega) (by omega), room_ok (by simp; omega), chk_t, wrap_succ (by omega), tApp_d, List.range'_succ]
      cases hb : p (rdL xs (i : Int)) (rdL xs ((i + 1 + j : Nat) : Int)) with
      | true =>
        rw [br_t, ih i (j + 1) k _ k0 hi (by omega) (by omega) (by simp; omega), List.filter_cons_of_pos (by exact hb), List.append_assoc]
        rfl
      | false =>
        rw [br_f, ih i (j + 1) k _ k0 hi (by omega) (by omega) (by omega), List.filter_cons_of_neg (by rw [hb]; simp)]
        rfl
  have go : ∀ (d i K : Nat) (o : List (Int × Int)), i + d = xs.length → d < K → o.length ≤ i * xs.length →
      impl_spaceOf_l0 N (fun o o1 => some (((o, o1), ()), ())) K is (xs.length : Int) (i : Int) xs o = some (((xs, o ++ (List.range' i d).flatMap (rowSteps p xs)), ()), ()) := by
    intro d
    induction d with
    | zero =>
      intro i K o hd hK ho
      obtain ⟨k, rfl⟩ := succ_of hK
      simp only [impl_spaceOf_l0, ilt_nf (show ¬ i < xs.length by omega), br_f]
      simp
    | succ d ih =>
      intro i K o hd hK ho
      obtain ⟨k, rfl⟩ := succ_of hK
      have hi : i < xs.length := by omega
      have hmul : i * xs.length ≤ 1024 * 1024 := Nat.mul_le_mul (by omega) (by omega)
      simp only [impl_spaceOf_l0, ilt_n hi, br_t, inb_n hi, chk_t]
      rw [wrap_succ (by omega), tLen_n, ile_t (by omega), ile_t (by omega), ile_t (Int.le_refl _)]
      simp only [Bool.and_self, chk_t]
      rw [show (xs.length : Int) - ((i + 1 : Nat) : Int) = ((xs.length - (i + 1) : Nat) : Int) by omega]
      have h1 := inner (xs.length - (i + 1)) i 0 N o (fun isStep2 x2 x3 o2 o3 => impl_spaceOf_l0 N (fun o o1 => some (((o, o1), ()), ())) k isStep2 x2 (IntKind.i64.wrap (x3 + 1)) o2 o3) hi (by omega) (by omega) (by omega)
      simp only [Int.natCast_zero] at h1
      rw [h1, Nat.add_zero, wrap_succ (by omega)]
      have h2 := rowSteps_len p xs i
      have h3 := ih (i + 1) k (o ++ rowSteps p xs i) (by omega) (by omega) (by rw [List.length_append, Nat.add_mul, Nat.one_mul]; omega)
      rw [List.append_assoc] at h3
      rw [List.range'_succ, List.flatMap_cons]
      exact h3
  have := go xs.length 0 N [] (by omega) (by omega) (Nat.zero_le _)
  exact this
theorem spaceOf_ne {N : Nat} {xs : List (List Int)} {is : List Int → List Int → Option Bool} {p : List Int → List Int → Bool} (hs : lexSorted xs) (hl : ∀ x ∈ xs, x.length ≤ 1048576) (hx : xs.length < 1024) (hp : ∀ a ∈ xs, ∀ b ∈ xs, a ≠ b → is a b = some (p a b)) (hN : 1048577 ≤ N) :
    impl_spaceOf N xs is = some (((xs, stepsL p xs), ()), ()) :=
  spaceOf_g (SortFunc_rows (by omega) hl (lex_nodup hs) hs (fun _ => Iff.rfl) hN) hs hx hp hN
theorem spaceOf_eq {N : Nat} {xs : List (List Int)} {is : List Int → List Int → Option Bool} {p : List Int → List Int → Bool} (hs : lexSorted xs) (hl : ∀ x ∈ xs, x.length ≤ 1048576) (hx : xs.length < 1024) (hp : ∀ a ∈ xs, ∀ b ∈ xs, is a b = some (p a b)) (hN : 1048577 ≤ N) :
    impl_spaceOf N xs is = some (((xs, stepsL p xs), ()), ()) := spaceOf_ne hs hl hx (fun a ha b hb _ => hp a ha b hb) hN
theorem lexC_pre : ∀ (b u v : List Int), lexC (b ++ u) (b ++ v) = lexC u v := by
  intro b
  induction b with
  | nil => intro u v; rfl
  | cons x b ih => intro u v; simp [lexC, ih]
def BefC (d : Nat) (b : List Int) (l : List (List Int)) : Prop := lexSorted l ∧ ∀ x ∈ l, ∀ s : List Int, s.length = d → lexC x (b ++ s) < 0
theorem moreC_sorted {k : Nat} {es : List (Int × Int)} : ∀ (d : Nat) (b : List Int) (l : List (List Int)), BefC d b l → ∃ t, moreC k es d b l = l ++ t ∧ lexSorted (l ++ t) ∧ ∀ x ∈ t, ∃ s : List Int, s.length = d ∧ x = b ++ s ∧ ∀ z ∈ s, 0 ≤ z ∧ z < (k : Int) := by
  intro d
  induction d with
  | zero =>
    intro b l h
    refine ⟨[b], rfl, ?_, fun x hx => ?_⟩
    · refine List.pairwise_append.2 ⟨h.1, List.pairwise_singleton .., fun x hx y hy => ?_⟩
      simp at hy
      subst hy
      have := h.2 x hx [] rfl
      rwa [List.append_nil] at this
    · simp at hx
      subst hx
      exact ⟨[], rfl, by simp, by simp⟩
  | succ d ih =>
    intro b l h
    have go : ∀ (r c : Nat) (t : List (List Int)), c + r = k → lexSorted (l ++ t) → (∀ x ∈ t, ∃ (c' : Nat) (s : List Int), c' < c ∧ s.length = d ∧ x = b ++ (c' : Int) :: s ∧ ∀ z ∈ s, 0 ≤ z ∧ z < (k : Int)) →
        ∃ t', stepsC (fun c l => if freeC es b (c : Int) then moreC k es d (b ++ [(c : Int)]) l else l) r c (l ++ t) = l ++ t' ∧ lexSorted (l ++ t') ∧ ∀ x ∈ t', ∃ (c' : Nat) (s : List Int), c' < k ∧ s.length = d ∧ x = b ++ (c' : Int) :: s ∧ ∀ z ∈ s, 0 ≤ z ∧ z < (k : Int) := by
      intro r
      induction r with
      | zero =>
        intro c t hc ht hx
        refine ⟨t, rfl, ht, fun x hx' => ?_⟩
        obtain ⟨c', s, h1, h2⟩ := hx x hx'
        exact ⟨c', s, by omega, h2⟩
      | succ r ihr =>
        intro c t hc ht hx
        unfold stepsC
        by_cases h3 : (l ++ t).length ≤ 300
        · rw [if_pos h3]
          by_cases hf : freeC es b (c : Int)
          · rw [if_pos hf]
            obtain ⟨t2, e1, e2, e3⟩ := ih (b ++ [(c : Int)]) (l ++ t) ⟨ht, fun x hx' s hs => by
              rcases List.mem_append.1 hx' with hx' | hx'
              · have := h.2 x hx' ((c : Int) :: s) (by simp [hs])
                rw [List.append_assoc]
                exact this
              · obtain ⟨c', s', h1, h2, rfl, _⟩ := hx x hx'
                rw [List.append_assoc, lexC_pre]
                simp only [List.singleton_append, lexC]
                rw [if_pos (by omega)]
                decide⟩
            rw [e1, List.append_assoc]
            rw [List.append_assoc] at e2
            refine ihr (c + 1) (t ++ t2) (by omega) e2 fun x hx' => ?_
            rcases List.mem_append.1 hx' with hx' | hx'
            · obtain ⟨c', s', h1, h2⟩ := hx x hx'
              exact ⟨c', s', by omega, h2⟩
            · obtain ⟨s, g1, g2, g3⟩ := e3 x hx'
              exact ⟨c, s, by omega, g1, by rw [g2, List.append_assoc]; rfl, g3⟩
          · rw [if_neg hf]
            refine ihr (c + 1) t (by omega) ht fun x hx' => ?_
            obtain ⟨c', s', h1, h2⟩ := hx x hx'
            exact ⟨c', s', by omega, h2⟩
        · rw [if_neg h3]
          refine ⟨t, rfl, ht, fun x hx' => ?_⟩
          obtain ⟨c', s, h1, h2⟩ := hx x hx'
          exact ⟨c', s, by omega, h2⟩
    unfold moreC
    obtain ⟨t', e1, e2, e3⟩ := go k 0 [] (by omega) (by simpa using h.1) (by simp)
    rw [List.append_nil] at e1
    refine ⟨t', e1, e2, fun x hx => ?_⟩
    obtain ⟨c', s, h1, h2, h3, h4⟩ := e3 x hx
    refine ⟨(c' : Int) :: s, by simp [h2], h3, fun z hz => ?_⟩
    rcases List.mem_cons.1 hz with rfl | hz
    · omega
    · exact h4 z hz
theorem allC_sorted (g : Int × List (Int × Int)) (k : Int) : lexSorted (allC g k) ∧ ∀ x ∈ allC g k, ∀ z ∈ x, 0 ≤ z ∧ z < (k.toNat : Int) := by
  obtain ⟨t, e1, e2, e3⟩ := moreC_sorted (k := k.toNat) (es := g.2) g.1.toNat [] [] ⟨List.Pairwise.nil, by simp⟩
  unfold allC
  rw [e1]
  refine ⟨e2, fun x hx z hz => ?_⟩
  rw [List.nil_append] at hx
  obtain ⟨s, _, h2, h3⟩ := e3 x hx
  rw [h2, List.nil_append] at hz
  exact h3 z hz
/-! ### Not too many steps -/
theorem nodup_leL : ∀ {a b : List (List Int)}, a.Nodup → (∀ x ∈ a, x ∈ b) → a.length ≤ b.length := by
  intro a
  induction a with
  | nil => intro b _ _; exact Nat.zero_le _
  | cons x a ih =>
    intro b hn hs
    obtain ⟨h1, h2⟩ := List.nodup_cons.1 hn
    have hx := hs x (List.mem_cons_self ..)
    have := ih (b := b.erase x) h2 fun y hy => (List.mem_erase_of_ne (fun (e : y = x) => h1 (e ▸ hy))).2 (hs y (List.mem_cons_of_mem _ hy))
    rw [List.length_erase_of_mem hx] at this
    have := List.length_pos_of_mem hx
    rw [List.length_cons]
    omega
def numP (q : Nat → Bool) (s d : Nat) : Nat := ((List.range' s d).filter q).length
theorem numP_succ (q : Nat → Bool) (s d : Nat) : numP q s (d + 1) = numP q s d + if q (s + d) = true then 1 else 0 := by
  unfold numP
  rw [List.range'_1_concat, List.filter_append, List.length_append]
  congr 1
  by_cases h : q (s + d) = true <;> simp [h]
theorem numP_split (q : Nat → Bool) : ∀ (d s e : Nat), numP q s (d + e) = numP q s d + numP q (s + d) e := by
  intro d s e
  unfold numP
  rw [← List.range'_append_1, List.filter_append, List.length_append]
theorem sum_up (p : Nat → Nat → Bool) (hp : ∀ i j, p i j = p j i) : ∀ n, ((List.range' 0 n).map fun i : Nat => numP (p i) (i + 1) (n - (i + 1))).sum = ((List.range' 0 n).map fun i : Nat => numP (p i) 0 i).sum := by
  intro n
  induction n with
  | zero => rfl
  | succ n ih =>
    rw [List.range'_1_concat, List.map_append, List.sum_append, List.map_append, List.sum_append, ← ih]
    simp only [Nat.zero_add, List.map_cons, List.map_nil, List.sum_cons, List.sum_nil, Nat.add_zero]
    have e0 : numP (p n) (n + 1) (n + 1 - (n + 1)) = 0 := by rw [Nat.sub_self]; rfl
    rw [e0, Nat.add_zero]
    have key : ∀ m, m ≤ n → ((List.range' 0 m).map fun i : Nat => numP (p i) (i + 1) (n + 1 - (i + 1))).sum = ((List.range' 0 m).map fun i : Nat => numP (p i) (i + 1) (n - (i + 1))).sum + numP (p n) 0 m := by
      intro m
      induction m with
      | zero => intro _; rfl
      | succ m ihm =>
        intro hm
        rw [List.range'_1_concat, List.map_append, List.sum_append, List.map_append, List.sum_append, ihm (by omega), numP_succ (p n) 0 m]
        simp only [Nat.zero_add, List.map_cons, List.map_nil, List.sum_cons, List.sum_nil, Nat.add_zero]
        have := numP_succ (p m) (m + 1) (n - (m + 1))
        rw [show n - (m + 1) + 1 = n + 1 - (m + 1) by omega, show m + 1 + (n - (m + 1)) = n by omega] at this
        rw [this, hp m n]
        omega
    exact key n (Nat.le_refl n)
theorem sum_add {f g h : Nat → Nat} : ∀ (xs : List Nat), (∀ i ∈ xs, f i + g i ≤ h i) → (xs.map f).sum + (xs.map g).sum ≤ (xs.map h).sum := by
  intro xs
  induction xs with
  | nil => intro _; simp
  | cons x xs ih =>
    intro hh
    have h1 := hh x (List.mem_cons_self ..)
    have h2 := ih fun i hi => hh i (List.mem_cons_of_mem _ hi)
    simp only [List.map_cons, List.sum_cons]
    omega
theorem steps_half {p : List Int → List Int → Bool} {xs : List (List Int)} {B : Nat} (hsym : ∀ a ∈ xs, ∀ b ∈ xs, p a b = p b a) (hB : ∀ i, i < xs.length → numP (fun j : Nat => p (rdL xs (i : Int)) (rdL xs (j : Int))) 0 xs.length ≤ B) : 2 * (stepsL p xs).length ≤ xs.length * B := by
  have hrd : ∀ j : Nat, j < xs.length → rdL xs (j : Int) ∈ xs := fun j hj => by rw [rdL_n hj]; exact List.getElem_mem hj
  have e : (stepsL p xs).length = ((List.range' 0 xs.length).map fun i : Nat => numP (fun j : Nat => p (rdL xs (i : Int)) (rdL xs (j : Int))) (i + 1) (xs.length - (i + 1))).sum := by
    unfold stepsL
    rw [List.length_flatMap]
    congr 1
    refine List.map_congr_left fun i _ => ?_
    unfold rowSteps numP
    rw [List.length_map]
  have hp' := sum_up (fun i j : Nat => p (rdL xs (i : Int)) (rdL xs (j : Int)) && decide (i < xs.length) && decide (j < xs.length)) (fun i j => by
    by_cases hi : i < xs.length <;> by_cases hj : j < xs.length
    · rw [hsym _ (hrd i hi) _ (hrd j hj)]; simp [hi, hj]
    · simp [hi, hj]
    · simp [hi, hj]
    · simp [hi, hj]) xs.length
  have c1 : ∀ i, i < xs.length → ∀ s d, s + d ≤ xs.length → numP (fun j : Nat => p (rdL xs (i : Int)) (rdL xs (j : Int)) && decide (i < xs.length) && decide (j < xs.length)) s d = numP (fun j : Nat => p (rdL xs (i : Int)) (rdL xs (j : Int))) s d := by
    intro i hi s d hd
    unfold numP
    congr 1
    refine List.filter_congr fun j hj => ?_
    have := List.mem_range'_1.1 hj
    simp [hi, show j < xs.length by omega]
  have m1 : ((List.range' 0 xs.length).map fun i : Nat => numP (fun j : Nat => p (rdL xs (i : Int)) (rdL xs (j : Int)) && decide (i < xs.length) && decide (j < xs.length)) (i + 1) (xs.length - (i + 1))) = (List.range' 0 xs.length).map fun i : Nat => numP (fun j : Nat => p (rdL xs (i : Int)) (rdL xs (j : Int))) (i + 1) (xs.length - (i + 1)) :=
    List.map_congr_left fun i hi => by have := List.mem_range'_1.1 hi; exact c1 i (by omega) _ _ (by omega)
  have m2 : ((List.range' 0 xs.length).map fun i : Nat => numP (fun j : Nat => p (rdL xs (i : Int)) (rdL xs (j : Int)) && decide (i < xs.length) && decide (j < xs.length)) 0 i) = (List.range' 0 xs.length).map fun i : Nat => numP (fun j : Nat => p (rdL xs (i : Int)) (rdL xs (j : Int))) 0 i :=
    List.map_congr_left fun i hi => by have := List.mem_range'_1.1 hi; exact c1 i (by omega) _ _ (by omega)
  rw [m1, m2] at hp'
  have h3 := sum_add (f := fun i : Nat => numP (fun j : Nat => p (rdL xs (i : Int)) (rdL xs (j : Int))) 0 i) (g := fun i : Nat => numP (fun j : Nat => p (rdL xs (i : Int)) (rdL xs (j : Int))) (i + 1) (xs.length - (i + 1))) (h := fun i : Nat => numP (fun j : Nat => p (rdL xs (i : Int)) (rdL xs (j : Int))) 0 xs.length) (List.range' 0 xs.length) fun i hi => by
    have hi := List.mem_range'_1.1 hi
    have h1 := numP_split (fun j : Nat => p (rdL xs (i : Int)) (rdL xs (j : Int))) (i + 1) 0 (xs.length - (i + 1))
    rw [show i + 1 + (xs.length - (i + 1)) = xs.length by omega, Nat.zero_add] at h1
    have h2 := numP_succ (fun j : Nat => p (rdL xs (i : Int)) (rdL xs (j : Int))) 0 i
    rw [h1, h2]
    omega
  have h4 := sum_le (f := fun i : Nat => numP (fun j : Nat => p (rdL xs (i : Int)) (rdL xs (j : Int))) 0 xs.length) (b := B) (xs := List.range' 0 xs.length) fun i hi => hB i (by have := List.mem_range'_1.1 hi; omega)
  rw [List.length_range'] at h4
  rw [e]
  omega
theorem numP_le {p : List Int → Bool} {xs L : List (List Int)} (hs : xs.Nodup) (h : ∀ b ∈ xs, p b = true → b ∈ L) : numP (fun j : Nat => p (rdL xs (j : Int))) 0 xs.length ≤ L.length := by
  have e : numP (fun j : Nat => p (rdL xs (j : Int))) 0 xs.length = (xs.filter p).length := by
    have go : ∀ (ys zs : List (List Int)), numP (fun j : Nat => p (rdL (zs ++ ys) (j : Int))) zs.length ys.length = (ys.filter p).length := by
      intro ys
      induction ys with
      | nil => intro zs; rfl
      | cons y ys ih =>
        intro zs
        have h1 := ih (zs ++ [y])
        rw [List.append_assoc, List.singleton_append, List.length_append, List.length_singleton] at h1
        have h2 := numP_split (fun j : Nat => p (rdL (zs ++ y :: ys) (j : Int))) 1 zs.length ys.length
        rw [List.length_cons, Nat.add_comm ys.length 1, h2, h1]
        have h3 : rdL (zs ++ y :: ys) (zs.length : Int) = y := by rw [rdL_n (by simp)]; simp
        have h4 : numP (fun j : Nat => p (rdL (zs ++ y :: ys) (j : Int))) zs.length 1 = if p y = true then 1 else 0 := by
          unfold numP
          rw [List.range'_one]
          by_cases hy : p y = true <;> simp [hy, h3]
        rw [h4, List.filter_cons]
        by_cases hy : p y = true
        · rw [if_pos hy, if_pos hy, List.length_cons]; omega
        · rw [if_neg hy, if_neg hy]; omega
    exact go xs []
  rw [e]
  exact nodup_leL (List.Pairwise.filter _ hs) fun x hx => h x (List.mem_filter.1 hx).1 (List.mem_filter.1 hx).2
theorem lexSorted_nodup {xs : List (List Int)} (h : lexSorted xs) : xs.Nodup := h.imp fun hab e => by rw [e, lexC_self] at hab; omega
theorem apartL_symm {a b : List Int} (h : a.length = b.length) : apartL a b = apartL b a := by
  unfold apartL
  rw [h]
  congr 1
  refine List.filter_congr fun i _ => ?_
  by_cases h : rdI a (i : Int) = rdI b (i : Int)
  · simp [h]
  · have h' : ¬ rdI b (i : Int) = rdI a (i : Int) := fun e => h e.symm
    simp [h, h']
def changesL (k : Nat) (a : List Int) : List (List Int) := (List.range a.length).flatMap fun v : Nat => ((List.range k).filter fun c : Nat => decide ((c : Int) ≠ rdI a (v : Int))).map fun c : Nat => a.set v (c : Int)
theorem changesL_len {k : Nat} {a : List Int} (ha : ∀ z ∈ a, 0 ≤ z ∧ z < (k : Int)) : (changesL k a).length ≤ a.length * (k - 1) := by
  unfold changesL
  rw [List.length_flatMap]
  have := sum_le (f := fun v : Nat => (((List.range k).filter fun c : Nat => decide ((c : Int) ≠ rdI a (v : Int))).map fun c : Nat => a.set v (c : Int)).length) (b := k - 1) (xs := List.range a.length) fun v hv => by
    have hv := List.mem_range.1 hv
    have hz := ha (rdI a (v : Int)) (by rw [rdI_n hv]; exact List.getElem_mem hv)
    obtain ⟨z, hz1⟩ : ∃ z : Nat, rdI a (v : Int) = z := ⟨(rdI a (v : Int)).toNat, by omega⟩
    rw [List.length_map]
    have e : ((List.range k).filter fun c : Nat => decide ((c : Int) ≠ rdI a (v : Int))) = (List.range k).erase z := by
      rw [List.nodup_range.erase_eq_filter]
      refine List.filter_congr fun c _ => ?_
      rw [hz1]
      by_cases h : c = z
      · simp [h]
      · simp [h, show (c : Int) ≠ z by omega]
    rw [e, List.length_erase_of_mem (List.mem_range.2 (by omega)), List.length_range]
    exact Nat.le_refl _
  rwa [List.length_range] at this
theorem isCh_mem {k : Nat} {a b : List Int} (hab : a.length = b.length) (hb : ∀ z ∈ b, 0 ≤ z ∧ z < (k : Int)) (h : isCh a b = true) : b ∈ changesL k a := by
  have h1 := of_decide_eq_true h
  obtain ⟨v, hv⟩ := List.length_eq_one_iff.1 h1
  have hm : ∀ i : Nat, i < a.length → (rdI a (i : Int) ≠ rdI b (i : Int) ↔ (i : Int) = v) := by
    intro i hi
    have : (i : Int) ∈ apartL a b ↔ (i : Int) = v := by rw [hv]; simp
    rw [← this]
    unfold apartL
    rw [List.mem_map]
    constructor
    · intro hne
      exact ⟨i, List.mem_filter.2 ⟨List.mem_range'_1.2 (by omega), decide_eq_true hne⟩, rfl⟩
    · rintro ⟨j, hj, hji⟩
      have : j = i := by omega
      subst this
      exact of_decide_eq_true (List.mem_filter.1 hj).2
  have hvin : v ∈ apartL a b := by rw [hv]; simp
  obtain ⟨i, hi, rfl⟩ := List.mem_map.1 hvin
  have hil := List.mem_range'_1.1 (List.mem_filter.1 hi).1
  have hia : i < a.length := by omega
  have hz := hb (rdI b (i : Int)) (by rw [rdI_n (by omega)]; exact List.getElem_mem _)
  unfold changesL
  refine List.mem_flatMap.2 ⟨i, List.mem_range.2 hia, List.mem_map.2 ⟨(rdI b (i : Int)).toNat, List.mem_filter.2 ⟨List.mem_range.2 (by omega), decide_eq_true ?_⟩, ?_⟩⟩
  · have := (hm i hia).2 rfl
    rw [show (((rdI b (i : Int)).toNat : Nat) : Int) = rdI b (i : Int) by omega]
    exact fun e => this e.symm
  · rw [show (((rdI b (i : Int)).toNat : Nat) : Int) = rdI b (i : Int) by omega]
    refine List.ext_getElem (by rw [List.length_set]; exact hab) fun j h1 h2 => ?_
    rw [List.length_set] at h1
    by_cases hji : j = i
    · subst hji
      rw [List.getElem_set_self, rdI_n h2]
    · rw [List.getElem_set_ne (fun e => hji e.symm)]
      have := (hm j h1)
      have h3 : rdI a (j : Int) = rdI b (j : Int) := by
        by_cases he : rdI a (j : Int) = rdI b (j : Int)
        · exact he
        · have := this.1 he; omega
      rw [rdI_n h1, rdI_n h2] at h3
      exact h3
theorem colSteps_le {g : Int × List (Int × Int)} {k : Int} (h : colCase g k) (hl : (allC g k).length ≤ 300) : (stepsL isCh (allC g k)).length ≤ 4800 := by
  obtain ⟨s1, s2⟩ := allC_sorted g k
  have hr := allC_rows (g := g) (k := k)
  have hg := h.1.1
  have hk := h.2
  have := steps_half (p := isCh) (xs := allC g k) (B := 32) (fun a ha b hb => by unfold isCh; rw [apartL_symm (by rw [hr a ha, hr b hb])]) fun i hi => by
    have hi' : rdL (allC g k) (i : Int) ∈ allC g k := by rw [rdL_n hi]; exact List.getElem_mem hi
    refine Nat.le_trans (numP_le (p := fun b => isCh (rdL (allC g k) (i : Int)) b) (lexSorted_nodup s1) fun b hb hc => isCh_mem (by rw [hr _ hi', hr b hb]) (s2 b hb) hc) ?_
    refine Nat.le_trans (changesL_len (s2 _ hi')) ?_
    rw [hr _ hi']
    exact Nat.le_trans (Nat.mul_le_mul (show g.1.toNat ≤ 8 by omega) (show k.toNat - 1 ≤ 4 by omega)) (by omega)
  omega
theorem l5Changed_ap {N : Nat} {a b : List Int} (ha : a.length ≤ 1048576) (hab : a.length ≤ b.length) (hN : 1048577 ≤ N) : spec_l5Changed N a b = some ((apartL a b, ()), ()) := by
  unfold spec_l5Changed
  refine (loop_iter (L := fun K n o => spec_l5Changed_l0 N (fun o => some ((o, ()), ())) K a b n o) (k := fun o => some ((o, ()), ())) (Inv := fun n o => o.length ≤ n) (step := fun n o => if rdI a (n : Int) ≠ rdI b (n : Int) then o ++ [(n : Int)] else o) (fun K n s hn _ => ?_) (fun K n s hn hs => ?_) (fun n s hn h => ?_) (s := []) (m := a.length) (K := N) (by omega) (Nat.zero_le _)).trans ?_
  · simp only [spec_l5Changed_l0, ilt_lenf hn, br_f]
  · simp only [spec_l5Changed_l0, ilt_len hn, br_t, inb_n hn, inb_n (show n < b.length by omega), chk_t]
    rw [wrap_succ (by omega), room_ok (by simp; omega), chk_t, tApp_d]
    by_cases h : rdI a (n : Int) = rdI b (n : Int)
    · rw [ine_f h, br_f, if_neg (not_not_intro h)]
    · rw [ine_t h, br_t, if_pos h]
  · by_cases hc : rdI a (n : Int) = rdI b (n : Int)
    · rw [if_neg (not_not_intro hc)]; omega
    · rw [if_pos hc]; simp; omega
  · rw [iter_app, List.nil_append]
    rfl
theorem l5Space_loop {N : Nat} {m : Int} {es : List (Int × Int)} {kempe : Bool} {xs : List (List Int)} {p : List Int → List Int → Bool} (hp : ∀ a ∈ xs, ∀ b ∈ xs, spec_l5Step N (m, es) kempe a b = some ((p a b, ()), ())) (hx : xs.length < 1024) (hN : 1048577 ≤ N) :
    spec_l5Space_l0 N (fun o o1 => some (((o, o1), true, ()), ())) N kempe 0 m es xs [] = some (((xs, stepsL p xs), true, ()), ()) := by
  have hrd : ∀ j : Nat, j < xs.length → rdL xs (j : Int) ∈ xs := fun j hj => by rw [rdL_n hj]; exact List.getElem_mem hj
  have inner : ∀ (d i j K : Nat) (o : List (Int × Int)) (k0 : Bool → Int → Int → List (Int × Int) → List (List Int) → List (Int × Int) → Option (((List (List Int) × List (Int × Int)) × Bool × Unit) × Unit)), i < xs.length → j + d = xs.length → d < K → o.length + d ≤ 1099511627776 →
      spec_l5Space_l0_0 N k0 K kempe (i : Int) (j : Int) m es xs o = k0 kempe (i : Int) m es xs (o ++ ((List.range' j d).filter fun j : Nat => p (rdL xs (i : Int)) (rdL xs (j : Int))).map fun j : Nat => ((i : Int), (j : Int))) := by
    intro d
    induction d with
    | zero =>
      intro i j K o k0 hi hj hK ho
      obtain ⟨k, rfl⟩ := succ_of hK
      simp only [spec_l5Space_l0_0, ilt_lenf (show ¬ j < xs.length by omega), br_f]
      simp
    | succ d ih =>
      intro i j K o k0 hi hj hK ho
      obtain ⟨k, rfl⟩ := succ_of hK
      have hj' : j < xs.length := by omega
      simp only [spec_l5Space_l0_0, ilt_len hj', br_t, inb_n hi, inb_n hj', chk_t]
      rw [hp _ (hrd i hi) _ (hrd j hj'), bind_some', room_ok (by simp; omega), chk_t, wrap_succ (by omega), tApp_d, List.range'_succ]
      simp only []
      cases hb : p (rdL xs (i : Int)) (rdL xs (j : Int)) with
      | true =>
        rw [br_t, ih i (j + 1) k _ k0 hi (by omega) (by omega) (by simp; omega), List.filter_cons_of_pos (by exact hb), List.append_assoc]
        rfl
      | false =>
        rw [br_f, ih i (j + 1) k _ k0 hi (by omega) (by omega) (by omega), List.filter_cons_of_neg (by rw [hb]; simp)]
  have go : ∀ (d i K : Nat) (o : List (Int × Int)), i + d = xs.length → d < K → o.length ≤ i * xs.length →
      spec_l5Space_l0 N (fun o o1 => some (((o, o1), true, ()), ())) K kempe (i : Int) m es xs o = some (((xs, o ++ (List.range' i d).flatMap (rowSteps p xs)), true, ()), ()) := by
    intro d
    induction d with
    | zero =>
      intro i K o hd hK ho
      obtain ⟨k, rfl⟩ := succ_of hK
      simp only [spec_l5Space_l0, ilt_lenf (show ¬ i < xs.length by omega), br_f]
      simp
    | succ d ih =>
      intro i K o hd hK ho
      obtain ⟨k, rfl⟩ := succ_of hK
      have hi : i < xs.length := by omega
      have hmul : i * xs.length ≤ 1024 * 1024 := Nat.mul_le_mul (by omega) (by omega)
      simp only [spec_l5Space_l0, ilt_len hi, br_t]
      rw [wrap_succ (by omega)]
      have h1 := inner (xs.length - (i + 1)) i (i + 1) N o (fun kempe2 i1 o4 o5 o6 o7 => spec_l5Space_l0 N (fun o o1 => some (((o, o1), true, ()), ())) k kempe2 (IntKind.i64.wrap (i1 + 1)) o4 o5 o6 o7) hi (by omega) (by omega) (by omega)
      rw [h1, wrap_succ (by omega)]
      have h2 := rowSteps_len p xs i
      have h3 := ih (i + 1) k (o ++ rowSteps p xs i) (by omega) (by omega) (by rw [List.length_append, Nat.add_mul, Nat.one_mul]; omega)
      rw [List.append_assoc] at h3
      rw [List.range'_succ, List.flatMap_cons]
      exact h3
  have := go xs.length 0 N [] (by omega) (by omega) (Nat.zero_le _)
  exact this
theorem orNone_eq {N : Nat} {x : List (List Int) × List (Int × Int)} (h1 : x.1.length ≤ 300) (h2 : x.2.length ≤ 6000) : impl_orNone N x = some ((x, true, ()), ()) := by
  unfold impl_orNone
  rw [tLen_n, tLen_n, ilt_f (by omega), br_f, ilt_f (by omega), br_f]
noncomputable def colSpV (g : Int × List (Int × Int)) (k : Int) : (List (List Int) × List (Int × Int)) × Bool := if colCase g k ∧ (allC g k).length ≤ 300 then ((allC g k, stepsL isCh (allC g k)), true) else (([], []), false)
def okSt (n : Nat) (st : List (Int × Int)) : Prop := (st.Pairwise fun a b => a.1 < b.1 ∨ (a.1 = b.1 ∧ a.2 < b.2)) ∧ ∀ e ∈ st, 0 ≤ e.1 ∧ e.1 < e.2 ∧ e.2 < (n : Int)
noncomputable def nbA (st : List (Int × Int)) (v : Int) : List Int := (st.filter fun e => decide (e.2 = v)).map Prod.fst
noncomputable def nbB (st : List (Int × Int)) (v : Int) : List Int := (st.filter fun e => decide (e.1 = v)).map Prod.snd
noncomputable def nbS (st : List (Int × Int)) (v : Int) : List Int := nbA st v ++ nbB st v
noncomputable def nbT (st : List (Int × Int)) (v : Int) : List Int := st.flatMap fun e => (if e.1 = v then [e.2] else []) ++ (if e.2 = v then [e.1] else [])
noncomputable def nbL (n : Nat) (st : List (Int × Int)) : List (List Int) := (List.range n).map fun i : Nat => nbS st (i : Int)
theorem okSt_cons {n : Nat} {e : Int × Int} {st : List (Int × Int)} (h : okSt n (e :: st)) : okSt n st := ⟨(List.pairwise_cons.1 h.1).2, fun e' he' => h.2 e' (List.mem_cons_of_mem _ he')⟩
theorem nbT_eq {n : Nat} : ∀ {st : List (Int × Int)} {v : Int}, okSt n st → nbT st v = nbS st v := by
  intro st v
  induction st with
  | nil => intro _; rfl
  | cons e st ih =>
    intro h
    have ih := ih (okSt_cons h)
    have h1 := h.2 e (List.mem_cons_self ..)
    have h2 := (List.pairwise_cons.1 h.1).1
    unfold nbT at ih ⊢
    rw [List.flatMap_cons, ih]
    unfold nbS nbA nbB
    by_cases he : e.1 = v
    · have hne : ¬ e.2 = v := by omega
      have hnil : (st.filter fun e => decide (e.2 = v)) = [] := List.filter_eq_nil_iff.2 fun b hb => by
        have hb1 := h2 b hb
        have hb2 := h.2 b (List.mem_cons_of_mem _ hb)
        simp only [decide_eq_true_eq]
        omega
      rw [if_pos he, if_neg hne, List.filter_cons_of_neg (by simp [hne]), List.filter_cons_of_pos (by simp [he]), hnil]
      rfl
    · by_cases he2 : e.2 = v
      · rw [if_neg he, if_pos he2, List.filter_cons_of_pos (by simp [he2]), List.filter_cons_of_neg (by simp [he])]
        rfl
      · rw [if_neg he, if_neg he2, List.filter_cons_of_neg (by simp [he2]), List.filter_cons_of_neg (by simp [he])]
        rfl
theorem nbS_strict {n : Nat} {st : List (Int × Int)} {v : Int} (h : okSt n st) : (nbS st v).Pairwise (· < ·) := by
  unfold nbS nbA nbB
  refine List.pairwise_append.2 ⟨?_, ?_, ?_⟩
  · refine List.pairwise_map.2 ((h.1.filter _).imp_of_mem fun {a b} ha hb hab => ?_)
    have e1 := of_decide_eq_true (List.mem_filter.1 ha).2
    have e2 := of_decide_eq_true (List.mem_filter.1 hb).2
    omega
  · refine List.pairwise_map.2 ((h.1.filter _).imp_of_mem fun {a b} ha hb hab => ?_)
    have e1 := of_decide_eq_true (List.mem_filter.1 ha).2
    have e2 := of_decide_eq_true (List.mem_filter.1 hb).2
    omega
  · intro a ha b hb
    obtain ⟨a', ha1, rfl⟩ := List.mem_map.1 ha
    obtain ⟨b', hb1, rfl⟩ := List.mem_map.1 hb
    have e1 := of_decide_eq_true (List.mem_filter.1 ha1).2
    have e2 := of_decide_eq_true (List.mem_filter.1 hb1).2
    have l1 := h.2 a' (List.mem_filter.1 ha1).1
    have l2 := h.2 b' (List.mem_filter.1 hb1).1
    omega
theorem nbS_in {n : Nat} {st : List (Int × Int)} {v : Int} (h : okSt n st) : ∀ z ∈ nbS st v, InN n z := by
  intro z hz
  unfold nbS nbA nbB at hz
  rcases List.mem_append.1 hz with hz | hz
  · obtain ⟨a, ha, rfl⟩ := List.mem_map.1 hz
    have := h.2 a (List.mem_filter.1 ha).1
    exact ⟨by omega, by omega⟩
  · obtain ⟨a, ha, rfl⟩ := List.mem_map.1 hz
    have := h.2 a (List.mem_filter.1 ha).1
    exact ⟨by omega, by omega⟩
theorem nbS_len {n : Nat} {st : List (Int × Int)} {v : Int} (h : okSt n st) : (nbS st v).length ≤ n :=
  inM_len ⟨strict_nodup (nbS_strict h), nbS_in h⟩
theorem nbL_rd {n : Nat} {st : List (Int × Int)} {v : Int} (hv : InN n v) : rdL (nbL n st) v = nbS st v := by
  obtain ⟨i, hi, rfl⟩ := nat_of hv
  rw [rdL_n (by simp [nbL]; exact hi)]
  simp [nbL]
theorem nbL_ok {n : Nat} {st : List (Int × Int)} (hn : n ≤ 1048576) (h : okSt n st) : okLists (nbL n st) n := by
  refine ⟨by simp [nbL], fun l hl => ?_⟩
  obtain ⟨i, _, rfl⟩ := List.mem_map.1 hl
  exact ⟨Nat.le_trans (nbS_len h) hn, nbS_in h⟩
theorem stepsL_ok {p : List Int → List Int → Bool} {xs : List (List Int)} : okSt xs.length (stepsL p xs) := by
  have hin : ∀ i, i < xs.length → ∀ e ∈ rowSteps p xs i, e.1 = (i : Int) ∧ e.1 < e.2 ∧ e.2 < (xs.length : Int) := by
    intro i hi e he
    unfold rowSteps at he
    obtain ⟨j, hj, rfl⟩ := List.mem_map.1 he
    have := List.mem_range'_1.1 (List.mem_filter.1 hj).1
    refine ⟨rfl, ?_, ?_⟩
    · show (i : Int) < (j : Int)
      omega
    · show (j : Int) < _
      omega
  constructor
  · unfold stepsL
    rw [List.pairwise_flatMap]
    refine ⟨fun i hi => ?_, ?_⟩
    · unfold rowSteps
      refine List.pairwise_map.2 (List.Pairwise.filter _ ?_)
      refine (List.pairwise_lt_range' (step := 1) (by omega)).imp fun {a b} hab => .inr ⟨rfl, ?_⟩
      show (a : Int) < (b : Int)
      omega
    · refine List.Pairwise.imp_of_mem ?_ (List.pairwise_lt_range' (step := 1) (by omega))
      intro a b ha hb hab x hx y hy
      have ha := List.mem_range'_1.1 ha
      have hb := List.mem_range'_1.1 hb
      have h1 := hin a (by omega) x hx
      have h2 := hin b (by omega) y hy
      omega
  · intro e he
    unfold stepsL at he
    obtain ⟨i, hi, he⟩ := List.mem_flatMap.1 he
    have hi := List.mem_range'_1.1 hi
    have := hin i (by omega) e he
    omega
theorem set_map {n v : Nat} {f g : Nat → List Int} {u : List Int} (h : g v = u) (ho : ∀ i, i < n → i ≠ v → g i = f i) : tSet ((List.range n).map f) (v : Int) u = (List.range n).map g := by
  rw [tSet_n]
  refine List.ext_getElem (by simp) fun i h1 h2 => ?_
  rw [List.length_set, List.length_map, List.length_range] at h1
  by_cases hi : i = v
  · subst hi
    rw [List.getElem_set_self]
    simp [h]
  · rw [List.getElem_set_ne (fun e => hi e.symm)]
    simp [ho i h1 hi]
theorem rdL_map {n : Nat} {f : Nat → List Int} {i : Nat} (hi : i < n) : rdL ((List.range n).map f) (i : Int) = f i := by
  rw [rdL_n (by simp; exact hi)]
  simp
theorem inb_map {n : Nat} {f : Nat → List Int} {i : Nat} (hi : i < n) : inb ((List.range n).map f) (i : Int) = true := inb_n (by simp; exact hi)
theorem rep_map (n : Nat) : List.replicate n ([] : List Int) = (List.range n).map fun _ => [] := by
  refine List.ext_getElem (by simp) fun i h1 h2 => ?_
  simp
theorem rdP_mid (p q : List (Int × Int)) (e : Int × Int) : rdP (p ++ e :: q) ((p.length : Nat) : Int) = e := by simp [rdP]
theorem nbA_snoc (p : List (Int × Int)) (e : Int × Int) (v : Int) : nbA (p ++ [e]) v = nbA p v ++ if e.2 = v then [e.1] else [] := by
  unfold nbA
  by_cases h : e.2 = v <;> simp [h]
theorem nbB_snoc (p : List (Int × Int)) (e : Int × Int) (v : Int) : nbB (p ++ [e]) v = nbB p v ++ if e.1 = v then [e.2] else [] := by
  unfold nbB
  by_cases h : e.1 = v <;> simp [h]
theorem nbT_snoc (p : List (Int × Int)) (e : Int × Int) (v : Int) : nbT (p ++ [e]) v = nbT p v ++ ((if e.1 = v then [e.2] else []) ++ (if e.2 = v then [e.1] else [])) := by
  unfold nbT
  rw [List.flatMap_append]
  simp
theorem nbA_len (p : List (Int × Int)) (v : Int) : (nbA p v).length ≤ p.length := by unfold nbA; rw [List.length_map]; exact List.length_filter_le ..
theorem nbB_len (p : List (Int × Int)) (v : Int) : (nbB p v).length ≤ p.length := by unfold nbB; rw [List.length_map]; exact List.length_filter_le ..
theorem nbT_len (p : List (Int × Int)) (v : Int) : (nbT p v).length ≤ 2 * p.length := by
  induction p with
  | nil => simp [nbT]
  | cons e p ih =>
    unfold nbT at ih ⊢
    rw [List.flatMap_cons, List.length_append, List.length_append, List.length_cons]
    have h1 : (if e.1 = v then [e.2] else []).length ≤ 1 := by by_cases h : e.1 = v <;> simp [h]
    have h2 : (if e.2 = v then [e.1] else []).length ≤ 1 := by by_cases h : e.2 = v <;> simp [h]
    omega
theorem l2Lists_eq {N : Nat} {xs : List (List Int)} {st : List (Int × Int)} (hx : xs.length ≤ 1048576) (hs : st.length ≤ 1048576) (h : okSt xs.length st) (hN : 1048577 ≤ N) : spec_l2Lists N (xs, st) = some ((nbL xs.length st, ()), ()) := by
  have hin : ∀ e ∈ st, ∃ a b : Nat, e = ((a : Int), (b : Int)) ∧ a < xs.length ∧ b < xs.length := fun e he => by
    have := h.2 e he
    exact ⟨e.1.toNat, e.2.toNat, Prod.ext (by simp only []; omega) (by simp only []; omega), by omega, by omega⟩
  have goA : ∀ (q p : List (Int × Int)) (K : Nat) (k0 : List (List Int) → List (Int × Int) → List (List Int) → Option ((List (List Int) × Unit) × Unit)), q.length < K → p ++ q = st →
      spec_l2Lists_l0 N k0 K (p.length : Int) xs st ((List.range xs.length).map fun i : Nat => nbA p (i : Int)) = k0 xs st ((List.range xs.length).map fun i : Nat => nbA st (i : Int)) := by
    intro q
    induction q with
    | nil =>
      intro p K k0 hK hp
      obtain ⟨k, rfl⟩ := succ_of hK
      rw [List.append_nil] at hp
      subst hp
      simp only [spec_l2Lists_l0, ilt_lenf (Nat.lt_irrefl _), br_f]
    | cons e q ih =>
      intro p K k0 hK hp
      obtain ⟨k, rfl⟩ := succ_of hK
      have hpl : p.length < st.length := by rw [← hp]; simp
      obtain ⟨a, b, rfl, ha, hb⟩ := hin e (by rw [← hp]; simp)
      have hr : rdP st (p.length : Int) = ((a : Int), (b : Int)) := by rw [← hp, rdP_mid]
      have hl := nbA_len p (b : Int)
      simp only [spec_l2Lists_l0, ilt_len hpl, br_t, inb_n hpl, chk_t, hr, inb_map hb, rdL_map hb]
      rw [room_ok (by simp; omega), chk_t, ieq_t rfl, chk_t, wrap_succ (by omega), tApp_d, set_map (g := fun i : Nat => nbA (p ++ [((a : Int), (b : Int))]) (i : Int)) (by rw [nbA_snoc]; simp) (fun i _ hi => by rw [nbA_snoc, if_neg (by simp only []; omega), List.append_nil])]
      have := ih (p ++ [((a : Int), (b : Int))]) k k0 (by simp at hK; omega) (by rw [List.append_assoc]; exact hp)
      rw [List.length_append, List.length_singleton] at this
      exact this
  have goB : ∀ (q p : List (Int × Int)) (K : Nat) (k0 : List (List Int) → Option ((List (List Int) × Unit) × Unit)), q.length < K → p ++ q = st →
      spec_l2Lists_l1 N k0 K (p.length : Int) xs st ((List.range xs.length).map fun i : Nat => nbA st (i : Int) ++ nbB p (i : Int)) = k0 ((List.range xs.length).map fun i : Nat => nbA st (i : Int) ++ nbB st (i : Int)) := by
    intro q
    induction q with
    | nil =>
      intro p K k0 hK hp
      obtain ⟨k, rfl⟩ := succ_of hK
      rw [List.append_nil] at hp
      subst hp
      simp only [spec_l2Lists_l1, ilt_lenf (Nat.lt_irrefl _), br_f]
    | cons e q ih =>
      intro p K k0 hK hp
      obtain ⟨k, rfl⟩ := succ_of hK
      have hpl : p.length < st.length := by rw [← hp]; simp
      obtain ⟨a, b, rfl, ha, hb⟩ := hin e (by rw [← hp]; simp)
      have hr : rdP st (p.length : Int) = ((a : Int), (b : Int)) := by rw [← hp, rdP_mid]
      have hl := nbB_len p (a : Int)
      have hl2 := nbA_len st (a : Int)
      simp only [spec_l2Lists_l1, ilt_len hpl, br_t, inb_n hpl, chk_t, hr, inb_map ha, rdL_map ha]
      rw [room_ok (by simp; omega), chk_t, ieq_t rfl, chk_t, wrap_succ (by omega), tApp_d, set_map (g := fun i : Nat => nbA st (i : Int) ++ nbB (p ++ [((a : Int), (b : Int))]) (i : Int)) (by rw [nbB_snoc]; simp) (fun i _ hi => by rw [nbB_snoc, if_neg (by simp only []; omega), List.append_nil])]
      have := ih (p ++ [((a : Int), (b : Int))]) k k0 (by simp at hK; omega) (by rw [List.append_assoc]; exact hp)
      rw [List.length_append, List.length_singleton] at this
      exact this
  unfold spec_l2Lists
  simp only []
  rw [tLen_n, ile_t (by omega), ile_t (Int.le_refl _), fits_ok (by omega)]
  simp only [Bool.and_self, chk_t]
  rw [tRep_n, rep_map]
  have g1 := goA st [] N (fun o o1 o2 => spec_l2Lists_l1 N (fun o3 => some ((o3, ()), ())) N 0 o o1 o2) (by omega) rfl
  have e1 : ((List.range xs.length).map fun i : Nat => nbA [] (i : Int)) = (List.range xs.length).map fun _ => [] := rfl
  rw [e1] at g1
  simp only [List.length_nil, Int.natCast_zero] at g1
  rw [g1]
  have g2 := goB st [] N (fun o3 => some ((o3, ()), ())) (by omega) rfl
  have e2 : ((List.range xs.length).map fun i : Nat => nbA st (i : Int) ++ nbB [] (i : Int)) = (List.range xs.length).map fun i : Nat => nbA st (i : Int) := List.map_congr_left fun i _ => by show nbA st (i : Int) ++ [] = _; rw [List.append_nil]
  rw [e2] at g2
  simp only [List.length_nil, Int.natCast_zero] at g2
  rw [g2]
  rfl
theorem sroads_eq {N : Nat} {xs : List (List Int)} {st : List (Int × Int)} (hx : xs.length < 1024) (hs : st.length ≤ 1048576) (h : okSt xs.length st) (hN : 1048577 ≤ N) : impl_Space_roads N (xs, st) = some ((nbL xs.length st, ()), ()) := by
  have hin : ∀ e ∈ st, ∃ a b : Nat, e = ((a : Int), (b : Int)) ∧ a < b ∧ b < xs.length := fun e he => by
    have := h.2 e he
    exact ⟨e.1.toNat, e.2.toNat, Prod.ext (by simp only []; omega) (by simp only []; omega), by omega, by omega⟩
  have goA : ∀ (q p : List (Int × Int)) (K : Nat) (k0 : List (List Int) → Option ((List (List Int) × Unit) × Unit)), q.length < K → p ++ q = st →
      impl_Space_roads_l0 N k0 K st (st.length : Int) (p.length : Int) ((List.range xs.length).map fun i : Nat => nbT p (i : Int)) = k0 ((List.range xs.length).map fun i : Nat => nbT st (i : Int)) := by
    intro q
    induction q with
    | nil =>
      intro p K k0 hK hp
      obtain ⟨k, rfl⟩ := succ_of hK
      rw [List.append_nil] at hp
      subst hp
      simp only [impl_Space_roads_l0, ilt_nf (Nat.lt_irrefl _), br_f]
    | cons e q ih =>
      intro p K k0 hK hp
      obtain ⟨k, rfl⟩ := succ_of hK
      have hpl : p.length < st.length := by rw [← hp]; simp
      obtain ⟨a, b, rfl, hab, hb⟩ := hin e (by rw [← hp]; simp)
      have hr : rdP st (p.length : Int) = ((a : Int), (b : Int)) := by rw [← hp, rdP_mid]
      have hl := nbT_len p (b : Int)
      have hl2 := nbT_len p (a : Int)
      have ha : a < xs.length := by omega
      have hs1 := set_map (n := xs.length) (v := a) (f := fun i : Nat => nbT p (i : Int)) (g := fun i : Nat => nbT p (i : Int) ++ if a = i then [(b : Int)] else []) (u := nbT p (a : Int) ++ [(b : Int)]) (by simp) (fun i _ hi => by rw [if_neg (fun e => hi e.symm), List.append_nil])
      have hs2 := set_map (n := xs.length) (v := b) (f := fun i : Nat => nbT p (i : Int) ++ if a = i then [(b : Int)] else []) (g := fun i : Nat => nbT (p ++ [((a : Int), (b : Int))]) (i : Int)) (u := nbT p (b : Int) ++ [(a : Int)]) (by rw [nbT_snoc, if_neg (show ¬ (a : Int) = (b : Int) by omega), if_pos rfl]; rfl) (fun i _ hi => by
        rw [nbT_snoc, if_neg (show ¬ (b : Int) = (i : Int) by omega)]
        by_cases hai : a = i
        · rw [if_pos (show (a : Int) = (i : Int) by omega), if_pos hai]; rfl
        · rw [if_neg (show ¬ (a : Int) = (i : Int) by omega), if_neg hai]; rfl)
      have hrb : rdL ((List.range xs.length).map fun i : Nat => nbT p (i : Int) ++ if a = i then [(b : Int)] else []) (b : Int) = nbT p (b : Int) := by
        rw [rdL_map hb, if_neg (show ¬ a = b by omega), List.append_nil]
      simp only [impl_Space_roads_l0, ilt_n hpl, br_t, inb_n hpl, chk_t, hr, inb_map ha, rdL_map ha]
      rw [room_ok (by simp; omega), chk_t, ieq_t rfl, chk_t, wrap_succ (by omega), tApp_d, hs1, inb_map hb, chk_t, hrb, room_ok (by simp; omega), chk_t, ieq_t rfl, chk_t, chk_t, tApp_d, hs2]
      have := ih (p ++ [((a : Int), (b : Int))]) k k0 (by simp at hK; omega) (by rw [List.append_assoc]; exact hp)
      rw [List.length_append, List.length_singleton] at this
      exact this
  have e0 : ((List.range xs.length).map fun i : Nat => nbT st (i : Int)) = nbL xs.length st := List.map_congr_left fun i _ => nbT_eq h
  have hlen : (nbL xs.length st).length = xs.length := by simp [nbL]
  have goB : ∀ (d n K : Nat), n + d = xs.length → d < K → impl_Space_roads_l1 N (fun o1 => some ((o1, ()), ())) K (xs.length : Int) n (nbL xs.length st) = some ((nbL xs.length st, ()), ()) := by
    intro d
    induction d with
    | zero =>
      intro n K hd hK
      obtain ⟨k, rfl⟩ := succ_of hK
      simp only [impl_Space_roads_l1, ilt_nf (show ¬ n < xs.length by omega), br_f]
    | succ d ih =>
      intro n K hd hK
      obtain ⟨k, rfl⟩ := succ_of hK
      have hn : n < xs.length := by omega
      have hs := nbS_strict (v := (n : Int)) h
      have hl := nbS_len (v := (n : Int)) h
      simp only [impl_Space_roads_l1, ilt_n hn, br_t, inb_n (show n < (nbL xs.length st).length by omega), chk_t]
      rw [nbL_rd (in_nat hn), Sort_asc (hs.imp fun hab => by omega) (by omega) hN, bind_some', wrap_succ (by omega), tSet_n]
      have : (nbL xs.length st).set n (nbS st (n : Int)) = nbL xs.length st := by
        refine List.ext_getElem (by simp) fun i h1 h2 => ?_
        by_cases hi : i = n
        · subst hi
          rw [List.getElem_set_self]
          simp [nbL]
        · rw [List.getElem_set_ne (fun e => hi e.symm)]
      simp only [this]
      exact ih (n + 1) k (by omega) (by omega)
  unfold impl_Space_roads
  simp only []
  rw [tLen_n, tLen_n, ile_t (by omega), ile_t (Int.le_refl _), fits_ok (by omega)]
  simp only [Bool.and_self, chk_t]
  rw [tRep_n, rep_map]
  have g1 := goA st [] N (fun o => impl_Space_roads_l1 N (fun o1 => some ((o1, ()), ())) N (tLen o) 0 o) (by omega) rfl
  have e1 : ((List.range xs.length).map fun i : Nat => nbT [] (i : Int)) = (List.range xs.length).map fun _ => [] := rfl
  rw [e1] at g1
  simp only [List.length_nil, Int.natCast_zero] at g1
  rw [g1, e0, tLen_n, hlen]
  exact goB xs.length 0 N (by omega) (by omega)
theorem l5Space_ch {N : Nat} {g : Int × List (Int × Int)} {k : Int} (hx : g.2.length ≤ 1048576) (hN : 1048577 ≤ N) : spec_l5Space N g k false = some (((colSpV g k).1, (colSpV g k).2, ()), ()) := by
  unfold spec_l5Space colSpV
  simp only [show ((g.1, g.2) : Int × List (Int × Int)) = g from rfl]
  rw [l5All_eq hx hN, bind_some']
  unfold colsR
  by_cases h : colCase g k ∧ (allC g k).length ≤ 300
  · rw [if_pos h, if_pos h]
    have hr := allC_rows (g := g) (k := k)
    have hg := h.1.1.1
    simp only [Bool.not_true, br_f]
    rw [l5Space_loop (p := isCh) (fun a ha b hb => ?_) (by omega) hN]
    have e1 := hr a ha
    have e2 := hr b hb
    unfold spec_l5Step
    rw [l5Changed_ap (by omega) (by omega) hN, bind_some']
    rw [Bool.not_false, br_t]
    congr 3
    unfold isCh
    by_cases h1 : (apartL a b).length = 1
    · rw [decide_eq_true h1]; exact ieq_t (by simp only [tLen_n]; omega)
    · rw [decide_eq_false h1]; exact ieq_f (by simp only [tLen_n]; omega)
  · rw [if_neg h, if_neg h]
    rfl
theorem impl_ColSp {N : Nat} {g : Int × List (Int × Int)} {k : Int} (hx : g.2.length ≤ 1048576) (hN : 1048577 ≤ N) : impl_ColourSpace N g k = some (((colSpV g k).1, (colSpV g k).2, ()), ()) := by
  unfold impl_ColourSpace colSpV
  simp only [show ((g.1, g.2) : Int × List (Int × Int)) = g from rfl]
  rw [colourings_eq hx hN, bind_some']
  unfold colsR
  by_cases h : colCase g k ∧ (allC g k).length ≤ 300
  · rw [if_pos h, if_pos h]
    obtain ⟨s1, s2⟩ := allC_sorted g k
    have hr := allC_rows (g := g) (k := k)
    have hg := h.1.1.1
    have hst := colSteps_le h.1 h.2
    have hr8 : ∀ x ∈ allC g k, x.length ≤ 8 := fun x hx => by have := hr x hx; omega
    simp only [Bool.not_true, br_f]
    rw [spaceOf_eq (p := isCh) s1 (fun x hx => by have := hr8 x hx; omega) (by omega) (fun a ha b hb => ?_) hN, bind_some']
    · simp only []
      rw [orNone_eq (by simp only []; omega) (by simp only []; omega), bind_some']
    · have e1 := hr a ha
      have e2 := hr b hb
      show (impl_isChange N a b).bind _ = _
      rw [isChange_eq (by omega) (by omega) hN]
      rfl
  · rw [if_neg h, if_neg h]
    rfl
theorem rdB_setN {o : List Bool} {i j : Nat} (hi : i < o.length) (v : Bool) : rdB (tSet o (i : Int) v) (j : Int) = if j = i then v else rdB o (j : Int) := by
  unfold rdB tSet
  simp only [Int.toNat_natCast, List.getD_eq_getElem?_getD, List.getElem?_set]
  by_cases h : i = j
  · subst h
    rw [if_pos rfl, if_pos hi, if_pos rfl]
    rfl
  · rw [if_neg h, if_neg (fun e => h e.symm)]
theorem Wk_in {L : List (List Int)} {m : Nat} {x y : Int} (hl : okLists L m) (hx : InN m x) (h : Wk L x y) : InN m y := by
  induction h with
  | base => exact hx
  | step _ hz ih => exact (okL_row hl ih).2 _ hz
theorem Wk_trans {L : List (List Int)} {x y z : Int} (h1 : Wk L x y) (h2 : Wk L y z) : Wk L x z := by
  induction h2 with
  | base => exact h1
  | step _ h ih => exact .step ih h
noncomputable def cntN (L : List (List Int)) (i : Nat) : Nat := ((List.range i).filter fun k => decide (∀ j : Nat, j < k → ¬ Wk L (j : Int) (k : Int))).length
theorem cntN_le (L : List (List Int)) (i : Nat) : cntN L i ≤ i := by
  unfold cntN
  refine Nat.le_trans (List.length_filter_le ..) ?_
  simp
theorem cntN_first {L : List (List Int)} {i : Nat} (h : ¬ ∃ j : Nat, j < i ∧ Wk L (j : Int) (i : Int)) : cntN L (i + 1) = cntN L i + 1 := by
  unfold cntN
  rw [List.range_succ, List.filter_append, List.length_append, List.filter_cons_of_pos (by simpa using fun j hj hw => h ⟨j, hj, hw⟩)]
  rfl
theorem cntN_seen {L : List (List Int)} {i : Nat} (h : ∃ j : Nat, j < i ∧ Wk L (j : Int) (i : Int)) : cntN L (i + 1) = cntN L i := by
  unfold cntN
  obtain ⟨j, h1, h2⟩ := h
  rw [List.range_succ, List.filter_append, List.length_append, List.filter_cons_of_neg (by simpa using ⟨j, h1, h2⟩)]
  rfl
theorem mark_loop {R : Type} {N m : Nat} {k0 : Int → List (List Int) → List (List Int) → List Bool → List Int → Option R} {i1 : Int} {o3 o4 : List (List Int)} {o7 : List Int} (ho7 : o7.length = m) (hm : m ≤ 1048575) :
    ∀ (d n K : Nat) (o5 : List Bool) (o6 : List Int), n + d = m → d < K → o5.length = m → o6.length ≤ n → ∃ o5' o6', spec_l2Parts_l0_0 N k0 K i1 (n : Int) o3 o4 o5 o6 o7 = k0 i1 o3 o4 o5' o6' ∧ o5'.length = m ∧ ∀ y : Nat, y < m → (rdB o5' (y : Int) = true ↔ rdB o5 (y : Int) = true ∨ (n ≤ y ∧ 0 ≤ rdI o7 (y : Int))) := by
  intro d
  induction d with
  | zero =>
    intro n K o5 o6 hd hK h5 h6
    obtain ⟨K, rfl⟩ := succ_of hK
    refine ⟨o5, o6, ?_, h5, fun y hy => ⟨.inl, ?_⟩⟩
    · simp only [spec_l2Parts_l0_0, ilt_lenf (show ¬ n < o7.length by omega), br_f]
    · rintro (h | ⟨h, _⟩)
      · exact h
      · omega
  | succ d ih =>
    intro n K o5 o6 hd hK h5 h6
    obtain ⟨K, rfl⟩ := succ_of hK
    have hn : n < o7.length := by omega
    simp only [spec_l2Parts_l0_0, ilt_len hn, br_t, inb_n hn, chk_t]
    by_cases h : 0 ≤ rdI o7 (n : Int)
    · rw [ile_t h, br_t, room_ok (by simp; omega), chk_t, inb_n (show n < o5.length by omega), chk_t, wrap_succ (by omega)]
      obtain ⟨a, b, h1, h2, h3⟩ := ih (n + 1) K (tSet o5 (n : Int) true) (tApp o6 [(n : Int)]) (by omega) (by omega) (by simp [tSet, h5]) (by rw [tApp_d]; simp; omega)
      refine ⟨a, b, h1, h2, fun y hy => ?_⟩
      rw [h3 y hy, rdB_setN (by omega)]
      by_cases e : y = n
      · subst e; simp [h]
      · rw [if_neg e]
        exact ⟨fun q => q.imp_right fun q => ⟨by omega, q.2⟩, fun q => q.imp_right fun q => ⟨by omega, q.2⟩⟩
    · rw [ile_f h, br_f, wrap_succ (by omega)]
      obtain ⟨a, b, h1, h2, h3⟩ := ih (n + 1) K o5 o6 (by omega) (by omega) h5 (by omega)
      refine ⟨a, b, h1, h2, fun y hy => ?_⟩
      rw [h3 y hy]
      by_cases e : y = n
      · subst e
        exact ⟨fun q => q.imp_right fun q => ⟨by omega, q.2⟩, fun q => q.imp_right fun q => absurd q.2 h⟩
      · exact ⟨fun q => q.imp_right fun q => ⟨by omega, q.2⟩, fun q => q.imp_right fun q => ⟨by omega, q.2⟩⟩
def seenP (L : List (List Int)) (i : Nat) (y : Int) : Prop := ∃ j : Nat, j < i ∧ Wk L (j : Int) y
theorem seen_old {L : List (List Int)} {i : Nat} {y : Int} (h : seenP L i (i : Int)) : seenP L (i + 1) y ↔ seenP L i y := by
  constructor
  · rintro ⟨j, h1, h2⟩
    by_cases e : j = i
    · subst e
      obtain ⟨k, h3, h4⟩ := h
      exact ⟨k, h3, Wk_trans h4 h2⟩
    · exact ⟨j, by omega, h2⟩
  · rintro ⟨j, h1, h2⟩
    exact ⟨j, by omega, h2⟩
theorem seen_new {L : List (List Int)} {i : Nat} {y : Int} : seenP L (i + 1) y ↔ seenP L i y ∨ Wk L (i : Int) y := by
  constructor
  · rintro ⟨j, h1, h2⟩
    by_cases e : j = i
    · subst e; exact .inr h2
    · exact .inl ⟨j, by omega, h2⟩
  · rintro (⟨j, h1, h2⟩ | h)
    · exact ⟨j, by omega, h2⟩
    · exact ⟨i, by omega, h⟩
theorem specParts {N m : Nat} {L : List (List Int)} (hl : okLists L m) (hm : m ≤ 1000) (hN : 1048577 ≤ N) :
    ∀ (d i K : Nat) (o : List (List Int)) (o2 : List Bool), i + d = m → d < K → o.length = cntN L i → o2.length = m → (∀ y : Nat, y < m → (rdB o2 (y : Int) = true ↔ seenP L i (y : Int))) → ∃ o' : List (List Int), spec_l2Parts_l0 N (fun o => some ((o, ()), ())) K (i : Int) o L o2 = some ((o', ()), ()) ∧ o'.length = cntN L m := by
  intro d
  induction d with
  | zero =>
    intro i K o o2 hd hK ho h2 hs
    obtain ⟨K, rfl⟩ := succ_of hK
    have e : i = m := by omega
    subst e
    refine ⟨o, ?_, ho⟩
    simp only [spec_l2Parts_l0, ilt_lenf (show ¬ i < L.length by have := hl.1; omega), br_f]
  | succ d ih =>
    intro i K o o2 hd hK ho h2 hs
    obtain ⟨K, rfl⟩ := succ_of hK
    have hi : i < m := by omega
    simp only [spec_l2Parts_l0, ilt_len (show i < L.length by have := hl.1; omega), br_t, inb_n (show i < o2.length by omega), chk_t]
    by_cases h : rdB o2 (i : Int) = true
    · rw [h, br_t, wrap_succ (by omega)]
      have hse := (hs i hi).1 h
      exact ih (i + 1) K o o2 (by omega) (by omega) (by rw [cntN_seen hse, ho]) h2 fun y hy => (hs y hy).trans (seen_old hse).symm
    · have hse : ¬ seenP L i (i : Int) := fun q => h ((hs i hi).2 q)
      rw [Bool.eq_false_iff.2 h, br_f]
      obtain ⟨F, f1, f2, f3⟩ := l2Spread_eq (N := N) hl.1 (by omega) hl.2 (in_nat hi) hN
      rw [f1, bind_some']
      simp only []
      obtain ⟨a, b, g1, g2, g3⟩ := mark_loop (N := N) (k0 := fun i1 o3 o4 o5 o6 => (chk (room o3 [o6]) (spec_l2Parts_l0 N (fun o => some ((o, ()), ())) K (IntKind.i64.wrap (i1 + 1)) (tApp o3 [o6]) o4 o5))) (i1 := (i : Int)) (o3 := o) (o4 := L) f2 (by omega) m 0 N o2 [] (by omega) (by omega) h2 (Nat.le_refl 0)
      simp only [Int.natCast_zero] at g1
      have hc := cntN_le L i
      rw [g1, room_ok (by simp; omega), chk_t, wrap_succ (by omega)]
      refine ih (i + 1) K _ a (by omega) (by omega) (by rw [tApp_d, List.length_append, List.length_singleton, cntN_first hse, ho]) g2 fun y hy => ?_
      rw [g3 y hy, hs y hy, seen_new, f3 _ (in_nat hy)]
      simp
end Go.Proofs.Ytgelipdkheahdaa
