/- Statements on data alone. -/
import Derived.Test.YtfilchmabmfmaaaGreatPvPure
import Derived.Test.YtfilchmabmfmaaaGreatParitiesGb
set_option linter.all false
set_option linter.all false
namespace Go.Proofs.YtfilchmabmfmaaaGreat
open Go Go.PV Classical
def lexSorted (xs : List (List Int)) : Prop := xs.Pairwise fun a b => lexC a b < 0
theorem lexSorted_filter {xs : List (List Int)} (p : List Int → Bool) (h : lexSorted xs) : lexSorted (xs.filter p) := List.Pairwise.filter _ h
theorem lexC_trans : ∀ {a b c : List Int}, lexC a b < 0 → lexC b c < 0 → lexC a c < 0 := by
  intro a
  induction a with
  | nil =>
    intro b c h1 h2
    cases b with
    | nil => simp [lexC] at h1
    | cons y b =>
      cases c with
      | nil => simp [lexC] at h2
      | cons z c => simp [lexC]
  | cons x a ih =>
    intro b c h1 h2
    cases b with
    | nil => simp [lexC] at h1
    | cons y b =>
      cases c with
      | nil => simp [lexC] at h2
      | cons z c =>
        simp only [lexC] at h1 h2 ⊢
        by_cases p1 : x < y
        · by_cases p2 : y < z
          · rw [if_pos (show x < z by omega)]; decide
          · rw [if_neg p2] at h2
            by_cases p3 : z < y
            · rw [if_pos p3] at h2; omega
            · rw [if_pos (show x < z by omega)]; decide
        · rw [if_neg p1] at h1
          by_cases p2 : y < x
          · rw [if_pos p2] at h1; omega
          · rw [if_neg p2] at h1
            have e : x = y := by omega
            subst e
            by_cases p3 : x < z
            · rw [if_pos p3]; decide
            · rw [if_neg p3] at h2 ⊢
              by_cases p4 : z < x
              · rw [if_pos p4] at h2; omega
              · rw [if_neg p4] at h2 ⊢
                exact ih h1 h2
theorem lexC_eq : ∀ {a b : List Int}, lexC a b = 0 → a = b := by
  intro a
  induction a with
  | nil => intro b h; cases b with
    | nil => rfl
    | cons y b => simp [lexC] at h
  | cons x a ih =>
    intro b h
    cases b with
    | nil => simp [lexC] at h
    | cons y b =>
      simp only [lexC] at h
      by_cases p1 : x < y
      · rw [if_pos p1] at h; omega
      · rw [if_neg p1] at h
        by_cases p2 : y < x
        · rw [if_pos p2] at h; omega
        · rw [if_neg p2] at h
          rw [ih h, show x = y by omega]
theorem lexC_flip {a b : List Int} (h1 : ¬ lexC a b < 0) (h2 : a ≠ b) : lexC b a < 0 := by
  have := lexC_anti a b
  have h3 : lexC a b ≠ 0 := fun e => h2 (lexC_eq e)
  omega
theorem lex_nodup {xs : List (List Int)} (h : lexSorted xs) : xs.Nodup := h.imp fun hab e => by rw [e, lexC_self] at hab; omega
theorem l2Before_eq {N : Nat} {a b : List Int} (ha : a.length ≤ 1048576) (hb : b.length ≤ 1048576) (hN : 1048577 ≤ N) : Zq75 N a b = some ((decide (lexC a b < 0), ()), ()) := by
  unfold Zq75
  have go : ∀ (d n K : Nat), n + d = a.length → d < K → n ≤ b.length → lexC a b = lexC (a.drop n) (b.drop n) → Zq75_l0 N (fun x => some ((x, ()), ())) (fun a1 b1 => some (((ilt (tLen a1) (tLen b1)), ()), ())) K a b (n : Int) = some ((decide (lexC a b < 0), ()), ()) := by
    intro d
    induction d with
    | zero =>
      intro n K hd hK hn h
      obtain ⟨k, rfl⟩ := succ_of hK
      simp only [Zq75_l0, ilt_lenf (show ¬ n < a.length by omega), br_f]
      congr 3
      rw [tLen_n, tLen_n, h, List.drop_of_length_le (show a.length ≤ n by omega)]
      by_cases hlt : a.length < b.length
      · rw [ilt_n hlt, drop_cons (show n < b.length by omega)]; rfl
      · rw [ilt_nf hlt, List.drop_of_length_le (show b.length ≤ n by omega)]; rfl
    | succ d ih =>
      intro n K hd hK hn h
      obtain ⟨k, rfl⟩ := succ_of hK
      have hna : n < a.length := by omega
      simp only [Zq75_l0, ilt_len hna, br_t]
      by_cases hnb : n < b.length
      · simp only [ilt_len hnb, br_t, inb_n hna, inb_n hnb, chk_t, rdI_n hna, rdI_n hnb]
        rw [drop_cons hna, drop_cons hnb] at h
        simp only [lexC] at h
        by_cases he : a[n] = b[n]
        · rw [ine_f he, br_f, wrap_succ (by omega)]
          refine ih (n + 1) k (by omega) (by omega) (by omega) ?_
          rw [h, if_neg (by omega), if_neg (by omega)]
        · rw [ine_t he, br_t]
          congr 3
          rw [h]
          by_cases hlt : a[n] < b[n]
          · rw [if_pos hlt, ilt_t hlt]; rfl
          · rw [if_neg hlt, if_pos (by omega), ilt_f hlt]; rfl
      · simp only [ilt_lenf hnb, br_f]
        congr 3
        rw [tLen_n, tLen_n, h, drop_cons hna, List.drop_of_length_le (show b.length ≤ n by omega), ilt_nf (by omega)]
        rfl
  exact go a.length 0 N (by omega) (by omega) (Nat.zero_le _) rfl
theorem SortFunc_rows {N : Nat} {xs ys : List (List Int)} (hx : xs.length ≤ 1048576) (hl : ∀ x ∈ xs, x.length ≤ 1048576) (hn : xs.Nodup) (hs : lexSorted ys) (hm : ∀ s, s ∈ ys ↔ s ∈ xs) (hN : 1048577 ≤ N) :
    Zq59 N xs () = some ((), (ys, ())) := by
  have hc : ∀ a ∈ xs, ∀ b ∈ xs, (Zq50 N a b).map (fun z => z.1.1) = some (lexC a b) := fun a ha b hb => by rw [Compare_lex (hl a ha) (hl b hb) hN]; rfl
  have hv : ∀ a ∈ xs, ∀ b ∈ xs, cmpV (fun a b => (Zq50 N a b).map fun z => z.1.1) a b = lexC a b := fun a ha b hb => by
    show ((Zq50 N a b).map fun z => z.1.1).getD 0 = _
    rw [hc a ha b hb]
    rfl
  unfold Zq59
  refine sortF_eq ⟨⟨by omega, fun a ha b hb => ⟨_, hc a ha b hb⟩, fun a ha => ?_, fun a ha b hb c hc' h1 h2 => ?_, fun a ha b hb c hc' h1 h2 => ?_, fun a ha b hb h1 h2 => ?_⟩, (List.perm_ext_iff_of_nodup (lex_nodup hs) hn).2 hm, ?_⟩
  · rw [hv a ha a ha, lexC_self]; decide
  · rw [hv a ha b hb] at h1
    rw [hv b hb c hc'] at h2
    rw [hv a ha c hc']
    exact lexC_trans h1 h2
  · rw [hv a ha b hb] at h1
    rw [hv b hb c hc'] at h2
    rw [hv a ha c hc']
    intro h3
    by_cases e : a = b
    · exact h2 (e ▸ h3)
    · exact h2 (lexC_trans (lexC_flip h1 e) h3)
  · rw [hv a ha b hb] at h1
    rw [hv b hb a ha] at h2
    have := lexC_anti a b
    exact lexC_eq (by omega)
  · refine hs.imp_of_mem fun {a b} ha hb hab => ?_
    rw [hv b ((hm b).1 hb) a ((hm a).1 ha)]
    have := lexC_anti a b
    omega
noncomputable def rowSteps (p : List Int → List Int → Bool) (xs : List (List Int)) (i : Nat) : List (Int × Int) := ((List.range' (i + 1) (xs.length - (i + 1))).filter fun j : Nat => p (rdL xs (i : Int)) (rdL xs (j : Int))).map fun j : Nat => ((i : Int), (j : Int))
noncomputable def stepsL (p : List Int → List Int → Bool) (xs : List (List Int)) : List (Int × Int) := (List.range' 0 xs.length).flatMap (rowSteps p xs)
theorem rowSteps_len (p : List Int → List Int → Bool) (xs : List (List Int)) (i : Nat) : (rowSteps p xs i).length ≤ xs.length := by
  unfold rowSteps
  rw [List.length_map]
  exact Nat.le_trans (List.length_filter_le ..) (by simp)
theorem stepsL_len (p : List Int → List Int → Bool) (xs : List (List Int)) : (stepsL p xs).length ≤ xs.length * xs.length := by
  unfold stepsL
  rw [List.length_flatMap]
  have := sum_le (f := fun i => (rowSteps p xs i).length) (b := xs.length) (xs := List.range' 0 xs.length) fun i _ => rowSteps_len p xs i
  simpa using this
noncomputable def apartL (a b : List Int) : List Int := ((List.range' 0 a.length).filter fun i : Nat => decide (rdI a (i : Int) ≠ rdI b (i : Int))).map fun i : Nat => (i : Int)
noncomputable def isCh (a b : List Int) : Bool := decide ((apartL a b).length = 1)
theorem places_ap {N : Nat} {a b : List Int} (ha : a.length ≤ 1048576) (hab : a.length ≤ b.length) (hN : 1048577 ≤ N) : Zq37 N a b = some ((apartL a b, ()), ()) := by
  unfold Zq37
  rw [tLen_n]
  refine (loop_iter (L := fun K n o => Zq37_l0 N (fun o => some ((o, ()), ())) K b a (a.length : Int) n o) (k := fun o => some ((o, ()), ())) (Inv := fun n o => o.length ≤ n) (step := fun n o => if rdI a (n : Int) ≠ rdI b (n : Int) then o ++ [(n : Int)] else o) (fun K n s hn _ => ?_) (fun K n s hn hs => ?_) (fun n s hn h => ?_) (s := []) (m := a.length) (K := N) (by omega) (Nat.zero_le _)).trans ?_
  · simp only [Zq37_l0, ilt_nf hn, br_f]
  · simp only [Zq37_l0, ilt_n hn, br_t, inb_n hn, inb_n (show n < b.length by omega), chk_t]
    rw [wrap_succ (by omega), room_ok (by simp; omega), chk_t, tApp_d]
    by_cases h : rdI a (n : Int) = rdI b (n : Int)
    · rw [ine_f h.symm, br_f, if_neg (not_not_intro h)]
    · rw [ine_t (fun e => h e.symm), br_t, if_pos h]
  · by_cases hc : rdI a (n : Int) = rdI b (n : Int)
    · rw [if_neg (not_not_intro hc)]; omega
    · rw [if_pos hc]; simp; omega
  · rw [iter_app, List.nil_append]
    rfl
theorem isChange_eq {N : Nat} {a b : List Int} (ha : a.length ≤ 1048576) (hab : a.length ≤ b.length) (hN : 1048577 ≤ N) : Zq31 N a b = some ((isCh a b, ()), ()) := by
  unfold Zq31 isCh
  rw [places_ap ha hab hN, bind_some', tLen_n]
  congr 3
  by_cases h : (apartL a b).length = 1
  · rw [ieq_t (show ((apartL a b).length : Int) = 1 by omega), decide_eq_true h]
  · rw [ieq_f (show ((apartL a b).length : Int) ≠ 1 by omega), decide_eq_false h]
theorem l6Apart_ap {N : Nat} {a b : List Int} (ha : a.length ≤ 1048576) (hab : a.length ≤ b.length) (hN : 1048577 ≤ N) : Zq86 N a b = some ((((apartL a b).length : Int), ()), ()) := by
  unfold Zq86 apartL
  have go : ∀ (d n K c : Nat), n + d = a.length → d < K → c ≤ n → Zq86_l0 N (fun count => some ((count, ()), ())) K a b (c : Int) (n : Int) = some ((((c + ((List.range' n d).filter fun i : Nat => decide (rdI a (i : Int) ≠ rdI b (i : Int))).length : Nat) : Int), ()), ()) := by
    intro d
    induction d with
    | zero =>
      intro n K c hd hK hc
      obtain ⟨k, rfl⟩ := succ_of hK
      simp only [Zq86_l0, ilt_lenf (show ¬ n < a.length by omega), br_f]
      simp
    | succ d ih =>
      intro n K c hd hK hc
      obtain ⟨k, rfl⟩ := succ_of hK
      have hn : n < a.length := by omega
      simp only [Zq86_l0, ilt_len hn, br_t, inb_n hn, inb_n (show n < b.length by omega), chk_t]
      rw [wrap_succ (show n < 4611686018427387904 by omega), wrap_succ (show c < 4611686018427387904 by omega), List.range'_succ]
      by_cases h : rdI a (n : Int) = rdI b (n : Int)
      · rw [ine_f h, br_f, ih (n + 1) k c (by omega) (by omega) (by omega), List.filter_cons_of_neg (by simp [h])]
      · rw [ine_t h, br_t, ih (n + 1) k (c + 1) (by omega) (by omega) (by omega), List.filter_cons_of_pos (by simp [h]), List.length_cons]
        congr 4
        omega
  have := go a.length 0 N 0 (by omega) (by omega) (Nat.zero_le _)
  rw [List.length_map]
  simp only [Nat.zero_add] at this
  exact this
theorem l6Space_eq {N m : Nat} {xs : List (List Int)} (hl : ∀ x ∈ xs, x.length = m) (hm : m ≤ 1048576) (hx : xs.length < 1024) (hN : 1048577 ≤ N) : Zq92 N xs = some (((xs, stepsL isCh xs), ()), ()) := by
  unfold Zq92
  have hrd : ∀ j : Nat, j < xs.length → (rdL xs (j : Int)).length = m := fun j hj => by rw [rdL_n hj]; exact hl _ (List.getElem_mem hj)
  have inner : ∀ (d i j K : Nat) (o : List (Int × Int)) (k0 : List (List Int) → Int → List (List Int) → List (Int × Int) → Option (((List (List Int) × List (Int × Int)) × Unit) × Unit)), i < xs.length → j + d = xs.length → d < K → o.length + d ≤ 1099511627776 →
      Zq92_l0_0 N k0 K xs (i : Int) (j : Int) xs o = k0 xs (i : Int) xs (o ++ ((List.range' j d).filter fun j : Nat => isCh (rdL xs (i : Int)) (rdL xs (j : Int))).map fun j : Nat => ((i : Int), (j : Int))) := by
    intro d
    induction d with
    | zero =>
      intro i j K o k0 hi hj hK ho
      obtain ⟨k, rfl⟩ := succ_of hK
      simp only [Zq92_l0_0, ilt_lenf (show ¬ j < xs.length by omega), br_f]
      simp
    | succ d ih =>
      intro i j K o k0 hi hj hK ho
      obtain ⟨k, rfl⟩ := succ_of hK
      have hj' : j < xs.length := by omega
      have e1 := hrd i hi
      have e2 := hrd j hj'
      simp only [Zq92_l0_0, ilt_len hj', br_t, inb_n hi, inb_n hj', chk_t]
      rw [l6Apart_ap (by omega) (by omega) hN, bind_some', room_ok (by simp; omega), chk_t, wrap_succ (by omega), tApp_d, List.range'_succ]
      simp only []
      by_cases h : (apartL (rdL xs (i : Int)) (rdL xs (j : Int))).length = 1
      · have hb : isCh (rdL xs (i : Int)) (rdL xs (j : Int)) = true := decide_eq_true h
        rw [ieq_t (by omega), br_t, ih i (j + 1) k _ k0 hi (by omega) (by omega) (by simp; omega), List.filter_cons_of_pos (by exact hb), List.append_assoc]
        rfl
      · have hb : isCh (rdL xs (i : Int)) (rdL xs (j : Int)) = false := decide_eq_false h
        rw [ieq_f (by omega), br_f, ih i (j + 1) k _ k0 hi (by omega) (by omega) (by omega), List.filter_cons_of_neg (by rw [hb]; simp)]
  have go : ∀ (d i K : Nat) (o : List (Int × Int)), i + d = xs.length → d < K → o.length ≤ i * xs.length →
      Zq92_l0 N (fun o o1 => some (((o, o1), ()), ())) K xs (i : Int) xs o = some (((xs, o ++ (List.range' i d).flatMap (rowSteps isCh xs)), ()), ()) := by
    intro d
    induction d with
    | zero =>
      intro i K o hd hK ho
      obtain ⟨k, rfl⟩ := succ_of hK
      simp only [Zq92_l0, ilt_lenf (show ¬ i < xs.length by omega), br_f]
      simp
    | succ d ih =>
      intro i K o hd hK ho
      obtain ⟨k, rfl⟩ := succ_of hK
      have hi : i < xs.length := by omega
      have hmul : i * xs.length ≤ 1024 * 1024 := Nat.mul_le_mul (by omega) (by omega)
      simp only [Zq92_l0, ilt_len hi, br_t]
      rw [wrap_succ (by omega)]
      have h1 := inner (xs.length - (i + 1)) i (i + 1) N o (fun states2 i1 o2 o3 => Zq92_l0 N (fun o o1 => some (((o, o1), ()), ())) k states2 (IntKind.i64.wrap (i1 + 1)) o2 o3) hi (by omega) (by omega) (by omega)
      rw [h1, wrap_succ (by omega)]
      have h2 := rowSteps_len isCh xs i
      have h3 := ih (i + 1) k (o ++ rowSteps isCh xs i) (by omega) (by omega) (by rw [List.length_append, Nat.add_mul, Nat.one_mul]; omega)
      rw [List.append_assoc] at h3
      rw [List.range'_succ, List.flatMap_cons]
      exact h3
  have := go xs.length 0 N [] (by omega) (by omega) (Nat.zero_le _)
  exact this
def okSp (x : List (List Int) × List (Int × Int)) : Prop := x.1.length ≤ 1048576 ∧ (∀ r ∈ x.1, r.length ≤ 1048576) ∧ x.2.length ≤ 1048576 ∧ x.1.length ≤ 1024
theorem spaceOf_g {N : Nat} {xs0 xs : List (List Int)} {is : List Int → List Int → Option Bool} {p : List Int → List Int → Bool} (hsort : Zq59 N xs0 () = some ((), (xs, ()))) (hs : lexSorted xs) (hx : xs.length < 1024) (hp : ∀ a ∈ xs, ∀ b ∈ xs, a ≠ b → is a b = some (p a b)) (hN : 1048577 ≤ N) :
    Zq38 N xs0 is = some (((xs, stepsL p xs), ()), ()) := by
  unfold Zq38
  rw [hsort, bind_some']
  simp only []
  rw [tLen_n]
  have hrd : ∀ j : Nat, j < xs.length → rdL xs (j : Int) ∈ xs := fun j hj => by rw [rdL_n hj]; exact List.getElem_mem hj
  have hne : ∀ i j : Nat, i < j → j < xs.length → rdL xs (i : Int) ≠ rdL xs (j : Int) := fun i j hij hj e => by
    have := List.pairwise_iff_getElem.1 hs i j (by omega) hj hij
    rw [rdL_n (show i < xs.length by omega), rdL_n hj] at e
    rw [e, lexC_self] at this
    omega
  have inner : ∀ (d i j K : Nat) (o : List (Int × Int)) (k0 : (List Int → List Int → Option Bool) → Int → Int → List (List Int) → List (Int × Int) → Option (((List (List Int) × List (Int × Int)) × Unit) × Unit)), i < xs.length → j + d = xs.length - (i + 1) → d < K → o.length + d ≤ 1099511627776 →
      Zq38_l0_0 N k0 K is (i : Int) (i : Int) (xs.length : Int) (i : Int) ((i + 1 : Nat) : Int) (xs.length : Int) ((xs.length - (i + 1) : Nat) : Int) (j : Int) xs o = k0 is (xs.length : Int) (i : Int) xs (o ++ ((List.range' (i + 1 + j) d).filter fun j : Nat => p (rdL xs (i : Int)) (rdL xs (j : Int))).map fun j : Nat => ((i : Int), (j : Int))) := by
    intro d
    induction d with
    | zero =>
      intro i j K o k0 hi hj hK ho
      obtain ⟨k, rfl⟩ := succ_of hK
      simp only [Zq38_l0_0, ilt_nf (show ¬ j < xs.length - (i + 1) by omega), br_f]
      simp
    | succ d ih =>
      intro i j K o k0 hi hj hK ho
      obtain ⟨k, rfl⟩ := succ_of hK
      have hj' : i + 1 + j < xs.length := by omega
      simp only [Zq38_l0_0, ilt_n (show j < xs.length - (i + 1) by omega), br_t]
      rw [ile_t (by omega), ilt_t (show (j : Int) < (xs.length : Int) - ((i + 1 : Nat) : Int) by omega)]
      simp only [Bool.and_self, chk_t]
      rw [show ((i + 1 : Nat) : Int) + (j : Int) = ((i + 1 + j : Nat) : Int) by omega, hp _ (hrd i hi) _ (hrd _ hj') (hne i _ (by omega) hj'), bind_some', wrap_succ (show i < 4611686018427387904 by omega), show ((i + 1 : Nat) : Int) + (j : Int) = ((i + 1 + j : Nat) : Int) by omega, wrap_ok (n := ((i + 1 + j : Nat) : Int)) (by omega) (by omega), room_ok (by simp; omega), chk_t, wrap_succ (by omega), tApp_d, List.range'_succ]
      cases hb : p (rdL xs (i : Int)) (rdL xs ((i + 1 + j : Nat) : Int)) with
      | true =>
        rw [br_t, ih i (j + 1) k _ k0 hi (by omega) (by omega) (by simp; omega), List.filter_cons_of_pos (by exact hb), List.append_assoc]
        rfl
      | false =>
        rw [br_f, ih i (j + 1) k _ k0 hi (by omega) (by omega) (by omega), List.filter_cons_of_neg (by rw [hb]; simp)]
        rfl
  have go : ∀ (d i K : Nat) (o : List (Int × Int)), i + d = xs.length → d < K → o.length ≤ i * xs.length →
      Zq38_l0 N (fun o o1 => some (((o, o1), ()), ())) K is (xs.length : Int) (i : Int) xs o = some (((xs, o ++ (List.range' i d).flatMap (rowSteps p xs)), ()), ()) := by
    intro d
    induction d with
    | zero =>
      intro i K o hd hK ho
      obtain ⟨k, rfl⟩ := succ_of hK
      simp only [Zq38_l0, ilt_nf (show ¬ i < xs.length by omega), br_f]
      simp
    | succ d ih =>
      intro i K o hd hK ho
      obtain ⟨k, rfl⟩ := succ_of hK
      have hi : i < xs.length := by omega
      have hmul : i * xs.length ≤ 1024 * 1024 := Nat.mul_le_mul (by omega) (by omega)
      simp only [Zq38_l0, ilt_n hi, br_t, inb_n hi, chk_t]
      rw [wrap_succ (by omega), tLen_n, ile_t (by omega), ile_t (by omega), ile_t (Int.le_refl _)]
      simp only [Bool.and_self, chk_t]
      rw [show (xs.length : Int) - ((i + 1 : Nat) : Int) = ((xs.length - (i + 1) : Nat) : Int) by omega]
      have h1 := inner (xs.length - (i + 1)) i 0 N o (fun isStep2 x2 x3 o2 o3 => Zq38_l0 N (fun o o1 => some (((o, o1), ()), ())) k isStep2 x2 (IntKind.i64.wrap (x3 + 1)) o2 o3) hi (by omega) (by omega) (by omega)
      simp only [Int.natCast_zero] at h1
      rw [h1, Nat.add_zero, wrap_succ (by omega)]
      have h2 := rowSteps_len p xs i
      have h3 := ih (i + 1) k (o ++ rowSteps p xs i) (by omega) (by omega) (by rw [List.length_append, Nat.add_mul, Nat.one_mul]; omega)
      rw [List.append_assoc] at h3
      rw [List.range'_succ, List.flatMap_cons]
      exact h3
  have := go xs.length 0 N [] (by omega) (by omega) (Nat.zero_le _)
  exact this
theorem spaceOf_ne {N : Nat} {xs : List (List Int)} {is : List Int → List Int → Option Bool} {p : List Int → List Int → Bool} (hs : lexSorted xs) (hl : ∀ x ∈ xs, x.length ≤ 1048576) (hx : xs.length < 1024) (hp : ∀ a ∈ xs, ∀ b ∈ xs, a ≠ b → is a b = some (p a b)) (hN : 1048577 ≤ N) :
    Zq38 N xs is = some (((xs, stepsL p xs), ()), ()) :=
  spaceOf_g (SortFunc_rows (by omega) hl (lex_nodup hs) hs (fun _ => Iff.rfl) hN) hs hx hp hN
theorem spaceOf_eq {N : Nat} {xs : List (List Int)} {is : List Int → List Int → Option Bool} {p : List Int → List Int → Bool} (hs : lexSorted xs) (hl : ∀ x ∈ xs, x.length ≤ 1048576) (hx : xs.length < 1024) (hp : ∀ a ∈ xs, ∀ b ∈ xs, is a b = some (p a b)) (hN : 1048577 ≤ N) :
    Zq38 N xs is = some (((xs, stepsL p xs), ()), ()) := spaceOf_ne hs hl hx (fun a ha b hb _ => hp a ha b hb) hN
def pairB : List (List Int) → Bool
  | [] => true
  | x :: xs => xs.all (fun y => decide (lexC x y < 0)) && pairB xs
theorem pairB_sorted : ∀ {xs : List (List Int)}, pairB xs = true → lexSorted xs := by
  intro xs
  induction xs with
  | nil => intro _; exact List.Pairwise.nil
  | cons x xs ih =>
    intro h
    unfold pairB at h
    rw [Bool.and_eq_true] at h
    exact List.pairwise_cons.2 ⟨fun y hy => of_decide_eq_true (List.all_eq_true.1 h.1 y hy), ih h.2⟩
theorem allBTab : ((List.range 7).all fun m => pairB (allB m)) = true := by kernel_rfl
theorem allB_sorted {m : Nat} (h : m ≤ 6) : lexSorted (allB m) := pairB_sorted (List.all_eq_true.1 allBTab m (List.mem_range.2 (by omega)))
noncomputable def solsL (f : Int × List (List Int)) : List (List Int) := (allB f.1.toNat).filter fun b => decide (solves b f.2)
theorem impl_sols_eq {N : Nat} {f : Int × List (List Int)} (hf : goodF f) (hl : f.2.length ≤ 1048576) (hc : ∀ c ∈ f.2, c.length ≤ 1048576) (hN : 1048577 ≤ N) : Zq4 N f = some ((solsL f, ()), ()) := by
  have h0 := hf.1
  obtain ⟨v, cs⟩ := f
  simp only at h0 hl hc
  obtain ⟨m, rfl⟩ : ∃ m : Nat, v = m := ⟨v.toNat, by omega⟩
  have h64 := pow_le64 (m := m) (by omega)
  unfold Zq4
  have := assignments_eq hN (m := m) (is := fun y0 => (Zq5 N ((m : Int), cs) y0).bind fun z => some z.1.1) (p := fun b => decide (solves b cs)) (by omega) fun b hb => by
    have hbr := allB_row hb
    show (Zq5 N ((m : Int), cs) b).bind _ = _
    rw [impl_solves_eq hl hc (by omega) (by rw [hbr]; exact goodF_lits hf) hN, bind_some']
  simp only []
  rw [this, bind_some']
  rfl
theorem sols_ok {m : Nat} (hm : m ≤ 6) (p : List Int → Bool) : lexSorted ((allB m).filter p) ∧ (∀ x ∈ (allB m).filter p, x.length = m) ∧ ((allB m).filter p).length ≤ 64 ∧ okSp ((allB m).filter p, stepsL isCh ((allB m).filter p)) := by
  have h1 := List.length_filter_le p (allB m)
  rw [allB_len] at h1
  have h64 := pow_le64 hm
  have h2 : ∀ x ∈ (allB m).filter p, x.length = m := fun x hx => allB_row (List.mem_filter.1 hx).1
  have h3 := stepsL_len isCh ((allB m).filter p)
  have h4 : ((allB m).filter p).length * ((allB m).filter p).length ≤ 64 * 64 := Nat.mul_le_mul (by omega) (by omega)
  exact ⟨lexSorted_filter p (allB_sorted hm), h2, by omega, by simp only []; omega, fun r hr => by have := h2 r hr; omega, by simp only []; omega, by simp only []; omega⟩
theorem space_both {N m : Nat} (hm : m ≤ 6) (p : List Int → Bool) (hN : 1048577 ≤ N) : Zq92 N ((allB m).filter p) = some ((((allB m).filter p, stepsL isCh ((allB m).filter p)), ()), ()) ∧
    Zq38 N ((allB m).filter p) (fun y0 y1 => (Zq31 N y0 y1).bind fun z => some z.1.1) = some ((((allB m).filter p, stepsL isCh ((allB m).filter p)), ()), ()) := by
  obtain ⟨h1, h2, h3, _⟩ := sols_ok hm p
  refine ⟨l6Space_eq h2 (by omega) (by omega) hN, spaceOf_eq (p := isCh) h1 (fun x hx => by have := h2 x hx; omega) (by omega) (fun a ha b hb => ?_) hN⟩
  have e1 := h2 a ha
  have e2 := h2 b hb
  rw [isChange_eq (by omega) (by omega) hN]
  rfl
noncomputable def parV (p : Int × (List (List Int) × List Int)) : (List (List Int) × List (Int × Int)) × Bool := if goodP p then (((allB p.1.toNat).filter (evenB p), stepsL isCh ((allB p.1.toNat).filter (evenB p))), true) else (([], []), false)
theorem ParitySpace_both {N : Nat} (hNe : N = 1048577) {p : Int × (List (List Int) × List Int)} (hx : p.2.1.length ≤ 1048576) (hxs : ∀ x ∈ p.2.1, x.length ≤ 1048576) (hy : p.2.2.length ≤ 1048576) : okSp (parV p).1 ∧ Zq66 N p = some (((parV p).1, (parV p).2, ()), ()) ∧ Zq16 N p = some (((parV p).1, (parV p).2, ()), ()) := by
  have hN : 1048577 ≤ N := by omega
  unfold Zq66 Zq16 parV
  simp only [show ((p.1, (p.2.1, p.2.2)) : Int × (List (List Int) × List Int)) = p from rfl]
  rw [Zq91_eq hx hxs hy hN, Zq10_eq hx hxs hy hN, bind_some', bind_some']
  by_cases h : goodP p
  · have h0 := h.1
    rw [if_pos h, decide_eq_true h, Bool.not_true, br_f, br_f]
    obtain ⟨b1, b2⟩ := space_both (N := N) (m := p.1.toNat) (by omega) (evenB p) hN
    obtain ⟨_, _, _, s4⟩ := sols_ok (m := p.1.toNat) (by omega) (evenB p)
    refine ⟨s4, ?_, ?_⟩
    · rw [spec_even_eq hNe h hxs, bind_some']
      simp only []
      rw [b1]
      rfl
    · rw [impl_even_eq hN h hxs, bind_some']
      simp only []
      rw [b2]
      rfl
  · rw [if_neg h, decide_eq_false h, Bool.not_false, br_t, br_t]
    exact ⟨⟨Nat.zero_le _, by simp, Nat.zero_le _, Nat.zero_le _⟩, rfl, rfl⟩
theorem apart_nil {a b : List Int} (h : a.length = b.length) (hn : apartL a b = []) : a = b := by
  refine List.ext_getElem h fun i h1 h2 => ?_
  by_cases he : rdI a (i : Int) = rdI b (i : Int)
  · rwa [rdI_n h1, rdI_n h2] at he
  · have : (i : Int) ∈ apartL a b := by
      unfold apartL
      exact List.mem_map.2 ⟨i, List.mem_filter.2 ⟨List.mem_range'_1.2 (by omega), decide_eq_true he⟩, rfl⟩
    rw [hn] at this
    cases this
def okSt (n : Nat) (st : List (Int × Int)) : Prop := (st.Pairwise fun a b => a.1 < b.1 ∨ (a.1 = b.1 ∧ a.2 < b.2)) ∧ ∀ e ∈ st, 0 ≤ e.1 ∧ e.1 < e.2 ∧ e.2 < (n : Int)
noncomputable def nbA (st : List (Int × Int)) (v : Int) : List Int := (st.filter fun e => decide (e.2 = v)).map Prod.fst
noncomputable def nbB (st : List (Int × Int)) (v : Int) : List Int := (st.filter fun e => decide (e.1 = v)).map Prod.snd
noncomputable def nbS (st : List (Int × Int)) (v : Int) : List Int := nbA st v ++ nbB st v
noncomputable def nbT (st : List (Int × Int)) (v : Int) : List Int := st.flatMap fun e => (if e.1 = v then [e.2] else []) ++ (if e.2 = v then [e.1] else [])
noncomputable def nbL (n : Nat) (st : List (Int × Int)) : List (List Int) := (List.range n).map fun i : Nat => nbS st (i : Int)
theorem okSt_cons {n : Nat} {e : Int × Int} {st : List (Int × Int)} (h : okSt n (e :: st)) : okSt n st := ⟨(List.pairwise_cons.1 h.1).2, fun e' he' => h.2 e' (List.mem_cons_of_mem _ he')⟩
theorem nbT_eq {n : Nat} : ∀ {st : List (Int × Int)} {v : Int}, okSt n st → nbT st v = nbS st v := by
  intro st v
  induction st with
  | nil => intro _; rfl
  | cons e st ih =>
    intro h
    have ih := ih (okSt_cons h)
    have h1 := h.2 e (List.mem_cons_self ..)
    have h2 := (List.pairwise_cons.1 h.1).1
    unfold nbT at ih ⊢
    rw [List.flatMap_cons, ih]
    unfold nbS nbA nbB
    by_cases he : e.1 = v
    · have hne : ¬ e.2 = v := by omega
      have hnil : (st.filter fun e => decide (e.2 = v)) = [] := List.filter_eq_nil_iff.2 fun b hb => by
        have hb1 := h2 b hb
        have hb2 := h.2 b (List.mem_cons_of_mem _ hb)
        simp only [decide_eq_true_eq]
        omega
      rw [if_pos he, if_neg hne, List.filter_cons_of_neg (by simp [hne]), List.filter_cons_of_pos (by simp [he]), hnil]
      rfl
    · by_cases he2 : e.2 = v
      · rw [if_neg he, if_pos he2, List.filter_cons_of_pos (by simp [he2]), List.filter_cons_of_neg (by simp [he])]
        rfl
      · rw [if_neg he, if_neg he2, List.filter_cons_of_neg (by simp [he2]), List.filter_cons_of_neg (by simp [he])]
        rfl
theorem nbS_strict {n : Nat} {st : List (Int × Int)} {v : Int} (h : okSt n st) : (nbS st v).Pairwise (· < ·) := by
  unfold nbS nbA nbB
  refine List.pairwise_append.2 ⟨?_, ?_, ?_⟩
  · refine List.pairwise_map.2 ((h.1.filter _).imp_of_mem fun {a b} ha hb hab => ?_)
    have e1 := of_decide_eq_true (List.mem_filter.1 ha).2
    have e2 := of_decide_eq_true (List.mem_filter.1 hb).2
    omega
  · refine List.pairwise_map.2 ((h.1.filter _).imp_of_mem fun {a b} ha hb hab => ?_)
    have e1 := of_decide_eq_true (List.mem_filter.1 ha).2
    have e2 := of_decide_eq_true (List.mem_filter.1 hb).2
    omega
  · intro a ha b hb
    obtain ⟨a', ha1, rfl⟩ := List.mem_map.1 ha
    obtain ⟨b', hb1, rfl⟩ := List.mem_map.1 hb
    have e1 := of_decide_eq_true (List.mem_filter.1 ha1).2
    have e2 := of_decide_eq_true (List.mem_filter.1 hb1).2
    have l1 := h.2 a' (List.mem_filter.1 ha1).1
    have l2 := h.2 b' (List.mem_filter.1 hb1).1
    omega
theorem nbS_in {n : Nat} {st : List (Int × Int)} {v : Int} (h : okSt n st) : ∀ z ∈ nbS st v, InN n z := by
  intro z hz
  unfold nbS nbA nbB at hz
  rcases List.mem_append.1 hz with hz | hz
  · obtain ⟨a, ha, rfl⟩ := List.mem_map.1 hz
    have := h.2 a (List.mem_filter.1 ha).1
    exact ⟨by omega, by omega⟩
  · obtain ⟨a, ha, rfl⟩ := List.mem_map.1 hz
    have := h.2 a (List.mem_filter.1 ha).1
    exact ⟨by omega, by omega⟩
theorem nbS_len {n : Nat} {st : List (Int × Int)} {v : Int} (h : okSt n st) : (nbS st v).length ≤ n :=
  inM_len ⟨strict_nodup (nbS_strict h), nbS_in h⟩
theorem mem_nbS {n : Nat} {st : List (Int × Int)} {v w : Int} (h : okSt n st) : w ∈ nbS st v ↔ (w, v) ∈ st ∨ (v, w) ∈ st := by
  unfold nbS nbA nbB
  rw [List.mem_append, List.mem_map, List.mem_map]
  constructor
  · rintro (⟨a, ha, rfl⟩ | ⟨a, ha, rfl⟩)
    · have e1 := of_decide_eq_true (List.mem_filter.1 ha).2
      refine .inl ?_
      rw [← e1]
      exact (List.mem_filter.1 ha).1
    · have e1 := of_decide_eq_true (List.mem_filter.1 ha).2
      refine .inr ?_
      rw [← e1]
      exact (List.mem_filter.1 ha).1
  · rintro (ha | ha)
    · exact .inl ⟨_, List.mem_filter.2 ⟨ha, by simp⟩, rfl⟩
    · exact .inr ⟨_, List.mem_filter.2 ⟨ha, by simp⟩, rfl⟩
theorem nbL_rd {n : Nat} {st : List (Int × Int)} {v : Int} (hv : InN n v) : rdL (nbL n st) v = nbS st v := by
  obtain ⟨i, hi, rfl⟩ := nat_of hv
  rw [rdL_n (by simp [nbL]; exact hi)]
  simp [nbL]
theorem nbL_ok {n : Nat} {st : List (Int × Int)} (hn : n ≤ 1048576) (h : okSt n st) : okLists (nbL n st) n := by
  refine ⟨by simp [nbL], fun l hl => ?_⟩
  obtain ⟨i, _, rfl⟩ := List.mem_map.1 hl
  exact ⟨Nat.le_trans (nbS_len h) hn, nbS_in h⟩
theorem stepsL_ok {p : List Int → List Int → Bool} {xs : List (List Int)} : okSt xs.length (stepsL p xs) := by
  have hin : ∀ i, i < xs.length → ∀ e ∈ rowSteps p xs i, e.1 = (i : Int) ∧ e.1 < e.2 ∧ e.2 < (xs.length : Int) := by
    intro i hi e he
    unfold rowSteps at he
    obtain ⟨j, hj, rfl⟩ := List.mem_map.1 he
    have := List.mem_range'_1.1 (List.mem_filter.1 hj).1
    refine ⟨rfl, ?_, ?_⟩
    · show (i : Int) < (j : Int)
      omega
    · show (j : Int) < _
      omega
  constructor
  · unfold stepsL
    rw [List.pairwise_flatMap]
    refine ⟨fun i hi => ?_, ?_⟩
    · unfold rowSteps
      refine List.pairwise_map.2 (List.Pairwise.filter _ ?_)
      refine (List.pairwise_lt_range' (step := 1) (by omega)).imp fun {a b} hab => .inr ⟨rfl, ?_⟩
      show (a : Int) < (b : Int)
      omega
    · refine List.Pairwise.imp_of_mem ?_ (List.pairwise_lt_range' (step := 1) (by omega))
      intro a b ha hb hab x hx y hy
      have ha := List.mem_range'_1.1 ha
      have hb := List.mem_range'_1.1 hb
      have h1 := hin a (by omega) x hx
      have h2 := hin b (by omega) y hy
      omega
  · intro e he
    unfold stepsL at he
    obtain ⟨i, hi, he⟩ := List.mem_flatMap.1 he
    have hi := List.mem_range'_1.1 hi
    have := hin i (by omega) e he
    omega
theorem set_map {n v : Nat} {f g : Nat → List Int} {u : List Int} (h : g v = u) (ho : ∀ i, i < n → i ≠ v → g i = f i) : tSet ((List.range n).map f) (v : Int) u = (List.range n).map g := by
  rw [tSet_n]
  refine List.ext_getElem (by simp) fun i h1 h2 => ?_
  rw [List.length_set, List.length_map, List.length_range] at h1
  by_cases hi : i = v
  · subst hi
    rw [List.getElem_set_self]
    simp [h]
  · rw [List.getElem_set_ne (fun e => hi e.symm)]
    simp [ho i h1 hi]
theorem rdL_map {n : Nat} {f : Nat → List Int} {i : Nat} (hi : i < n) : rdL ((List.range n).map f) (i : Int) = f i := by
  rw [rdL_n (by simp; exact hi)]
  simp
theorem inb_map {n : Nat} {f : Nat → List Int} {i : Nat} (hi : i < n) : inb ((List.range n).map f) (i : Int) = true := inb_n (by simp; exact hi)
theorem rep_map (n : Nat) : List.replicate n ([] : List Int) = (List.range n).map fun _ => [] := by
  refine List.ext_getElem (by simp) fun i h1 h2 => ?_
  simp
theorem rdP_mid (p q : List (Int × Int)) (e : Int × Int) : rdP (p ++ e :: q) ((p.length : Nat) : Int) = e := by simp [rdP]
theorem nbA_snoc (p : List (Int × Int)) (e : Int × Int) (v : Int) : nbA (p ++ [e]) v = nbA p v ++ if e.2 = v then [e.1] else [] := by
  unfold nbA
  by_cases h : e.2 = v <;> simp [h]
theorem nbB_snoc (p : List (Int × Int)) (e : Int × Int) (v : Int) : nbB (p ++ [e]) v = nbB p v ++ if e.1 = v then [e.2] else [] := by
  unfold nbB
  by_cases h : e.1 = v <;> simp [h]
theorem nbT_snoc (p : List (Int × Int)) (e : Int × Int) (v : Int) : nbT (p ++ [e]) v = nbT p v ++ ((if e.1 = v then [e.2] else []) ++ (if e.2 = v then [e.1] else [])) := by
  unfold nbT
  rw [List.flatMap_append]
  simp
theorem nbA_len (p : List (Int × Int)) (v : Int) : (nbA p v).length ≤ p.length := by unfold nbA; rw [List.length_map]; exact List.length_filter_le ..
theorem nbB_len (p : List (Int × Int)) (v : Int) : (nbB p v).length ≤ p.length := by unfold nbB; rw [List.length_map]; exact List.length_filter_le ..
theorem nbT_len (p : List (Int × Int)) (v : Int) : (nbT p v).length ≤ 2 * p.length := by
  induction p with
  | nil => simp [nbT]
  | cons e p ih =>
    unfold nbT at ih ⊢
    rw [List.flatMap_cons, List.length_append, List.length_append, List.length_cons]
    have h1 : (if e.1 = v then [e.2] else []).length ≤ 1 := by by_cases h : e.1 = v <;> simp [h]
    have h2 : (if e.2 = v then [e.1] else []).length ≤ 1 := by by_cases h : e.2 = v <;> simp [h]
    omega
theorem l2Lists_eq {N : Nat} {xs : List (List Int)} {st : List (Int × Int)} (hx : xs.length ≤ 1048576) (hs : st.length ≤ 1048576) (h : okSt xs.length st) (hN : 1048577 ≤ N) : Zq79 N (xs, st) = some ((nbL xs.length st, ()), ()) := by
  have hin : ∀ e ∈ st, ∃ a b : Nat, e = ((a : Int), (b : Int)) ∧ a < xs.length ∧ b < xs.length := fun e he => by
    have := h.2 e he
    exact ⟨e.1.toNat, e.2.toNat, Prod.ext (by simp only []; omega) (by simp only []; omega), by omega, by omega⟩
  have goA : ∀ (q p : List (Int × Int)) (K : Nat) (k0 : List (List Int) → List (Int × Int) → List (List Int) → Option ((List (List Int) × Unit) × Unit)), q.length < K → p ++ q = st →
      Zq79_l0 N k0 K (p.length : Int) xs st ((List.range xs.length).map fun i : Nat => nbA p (i : Int)) = k0 xs st ((List.range xs.length).map fun i : Nat => nbA st (i : Int)) := by
    intro q
    induction q with
    | nil =>
      intro p K k0 hK hp
      obtain ⟨k, rfl⟩ := succ_of hK
      rw [List.append_nil] at hp
      subst hp
      simp only [Zq79_l0, ilt_lenf (Nat.lt_irrefl _), br_f]
    | cons e q ih =>
      intro p K k0 hK hp
      obtain ⟨k, rfl⟩ := succ_of hK
      have hpl : p.length < st.length := by rw [← hp]; simp
      obtain ⟨a, b, rfl, ha, hb⟩ := hin e (by rw [← hp]; simp)
      have hr : rdP st (p.length : Int) = ((a : Int), (b : Int)) := by rw [← hp, rdP_mid]
      have hl := nbA_len p (b : Int)
      simp only [Zq79_l0, ilt_len hpl, br_t, inb_n hpl, chk_t, hr, inb_map hb, rdL_map hb]
      rw [room_ok (by simp; omega), chk_t, ieq_t rfl, chk_t, wrap_succ (by omega), tApp_d, set_map (g := fun i : Nat => nbA (p ++ [((a : Int), (b : Int))]) (i : Int)) (by rw [nbA_snoc]; simp) (fun i _ hi => by rw [nbA_snoc, if_neg (by simp only []; omega), List.append_nil])]
      have := ih (p ++ [((a : Int), (b : Int))]) k k0 (by simp at hK; omega) (by rw [List.append_assoc]; exact hp)
      rw [List.length_append, List.length_singleton] at this
      exact this
  have goB : ∀ (q p : List (Int × Int)) (K : Nat) (k0 : List (List Int) → Option ((List (List Int) × Unit) × Unit)), q.length < K → p ++ q = st →
      Zq79_l1 N k0 K (p.length : Int) xs st ((List.range xs.length).map fun i : Nat => nbA st (i : Int) ++ nbB p (i : Int)) = k0 ((List.range xs.length).map fun i : Nat => nbA st (i : Int) ++ nbB st (i : Int)) := by
    intro q
    induction q with
    | nil =>
      intro p K k0 hK hp
      obtain ⟨k, rfl⟩ := succ_of hK
      rw [List.append_nil] at hp
      subst hp
      simp only [Zq79_l1, ilt_lenf (Nat.lt_irrefl _), br_f]
    | cons e q ih =>
      intro p K k0 hK hp
      obtain ⟨k, rfl⟩ := succ_of hK
      have hpl : p.length < st.length := by rw [← hp]; simp
      obtain ⟨a, b, rfl, ha, hb⟩ := hin e (by rw [← hp]; simp)
      have hr : rdP st (p.length : Int) = ((a : Int), (b : Int)) := by rw [← hp, rdP_mid]
      have hl := nbB_len p (a : Int)
      have hl2 := nbA_len st (a : Int)
      simp only [Zq79_l1, ilt_len hpl, br_t, inb_n hpl, chk_t, hr, inb_map ha, rdL_map ha]
      rw [room_ok (by simp; omega), chk_t, ieq_t rfl, chk_t, wrap_succ (by omega), tApp_d, set_map (g := fun i : Nat => nbA st (i : Int) ++ nbB (p ++ [((a : Int), (b : Int))]) (i : Int)) (by rw [nbB_snoc]; simp) (fun i _ hi => by rw [nbB_snoc, if_neg (by simp only []; omega), List.append_nil])]
      have := ih (p ++ [((a : Int), (b : Int))]) k k0 (by simp at hK; omega) (by rw [List.append_assoc]; exact hp)
      rw [List.length_append, List.length_singleton] at this
      exact this
  unfold Zq79
  simp only []
  rw [tLen_n, ile_t (by omega), ile_t (Int.le_refl _), fits_ok (by omega)]
  simp only [Bool.and_self, chk_t]
  rw [tRep_n, rep_map]
  have g1 := goA st [] N (fun o o1 o2 => Zq79_l1 N (fun o3 => some ((o3, ()), ())) N 0 o o1 o2) (by omega) rfl
  have e1 : ((List.range xs.length).map fun i : Nat => nbA [] (i : Int)) = (List.range xs.length).map fun _ => [] := rfl
  rw [e1] at g1
  simp only [List.length_nil, Int.natCast_zero] at g1
  rw [g1]
  have g2 := goB st [] N (fun o3 => some ((o3, ()), ())) (by omega) rfl
  have e2 : ((List.range xs.length).map fun i : Nat => nbA st (i : Int) ++ nbB [] (i : Int)) = (List.range xs.length).map fun i : Nat => nbA st (i : Int) := List.map_congr_left fun i _ => by show nbA st (i : Int) ++ [] = _; rw [List.append_nil]
  rw [e2] at g2
  simp only [List.length_nil, Int.natCast_zero] at g2
  rw [g2]
  rfl
theorem sroads_eq {N : Nat} {xs : List (List Int)} {st : List (Int × Int)} (hx : xs.length < 1024) (hs : st.length ≤ 1048576) (h : okSt xs.length st) (hN : 1048577 ≤ N) : Zq20 N (xs, st) = some ((nbL xs.length st, ()), ()) := by
  have hin : ∀ e ∈ st, ∃ a b : Nat, e = ((a : Int), (b : Int)) ∧ a < b ∧ b < xs.length := fun e he => by
    have := h.2 e he
    exact ⟨e.1.toNat, e.2.toNat, Prod.ext (by simp only []; omega) (by simp only []; omega), by omega, by omega⟩
  have goA : ∀ (q p : List (Int × Int)) (K : Nat) (k0 : List (List Int) → Option ((List (List Int) × Unit) × Unit)), q.length < K → p ++ q = st →
      Zq20_l0 N k0 K st (st.length : Int) (p.length : Int) ((List.range xs.length).map fun i : Nat => nbT p (i : Int)) = k0 ((List.range xs.length).map fun i : Nat => nbT st (i : Int)) := by
    intro q
    induction q with
    | nil =>
      intro p K k0 hK hp
      obtain ⟨k, rfl⟩ := succ_of hK
      rw [List.append_nil] at hp
      subst hp
      simp only [Zq20_l0, ilt_nf (Nat.lt_irrefl _), br_f]
    | cons e q ih =>
      intro p K k0 hK hp
      obtain ⟨k, rfl⟩ := succ_of hK
      have hpl : p.length < st.length := by rw [← hp]; simp
      obtain ⟨a, b, rfl, hab, hb⟩ := hin e (by rw [← hp]; simp)
      have hr : rdP st (p.length : Int) = ((a : Int), (b : Int)) := by rw [← hp, rdP_mid]
      have hl := nbT_len p (b : Int)
      have hl2 := nbT_len p (a : Int)
      have ha : a < xs.length := by omega
      have hs1 := set_map (n := xs.length) (v := a) (f := fun i : Nat => nbT p (i : Int)) (g := fun i : Nat => nbT p (i : Int) ++ if a = i then [(b : Int)] else []) (u := nbT p (a : Int) ++ [(b : Int)]) (by simp) (fun i _ hi => by rw [if_neg (fun e => hi e.symm), List.append_nil])
      have hs2 := set_map (n := xs.length) (v := b) (f := fun i : Nat => nbT p (i : Int) ++ if a = i then [(b : Int)] else []) (g := fun i : Nat => nbT (p ++ [((a : Int), (b : Int))]) (i : Int)) (u := nbT p (b : Int) ++ [(a : Int)]) (by rw [nbT_snoc, if_neg (show ¬ (a : Int) = (b : Int) by omega), if_pos rfl]; rfl) (fun i _ hi => by
        rw [nbT_snoc, if_neg (show ¬ (b : Int) = (i : Int) by omega)]
        by_cases hai : a = i
        · rw [if_pos (show (a : Int) = (i : Int) by omega), if_pos hai]; rfl
        · rw [if_neg (show ¬ (a : Int) = (i : Int) by omega), if_neg hai]; rfl)
      have hrb : rdL ((List.range xs.length).map fun i : Nat => nbT p (i : Int) ++ if a = i then [(b : Int)] else []) (b : Int) = nbT p (b : Int) := by
        rw [rdL_map hb, if_neg (show ¬ a = b by omega), List.append_nil]
      simp only [Zq20_l0, ilt_n hpl, br_t, inb_n hpl, chk_t, hr, inb_map ha, rdL_map ha]
      rw [room_ok (by simp; omega), chk_t, ieq_t rfl, chk_t, wrap_succ (by omega), tApp_d, hs1, inb_map hb, chk_t, hrb, room_ok (by simp; omega), chk_t, ieq_t rfl, chk_t, chk_t, tApp_d, hs2]
      have := ih (p ++ [((a : Int), (b : Int))]) k k0 (by simp at hK; omega) (by rw [List.append_assoc]; exact hp)
      rw [List.length_append, List.length_singleton] at this
      exact this
  have e0 : ((List.range xs.length).map fun i : Nat => nbT st (i : Int)) = nbL xs.length st := List.map_congr_left fun i _ => nbT_eq h
  have hlen : (nbL xs.length st).length = xs.length := by simp [nbL]
  have goB : ∀ (d n K : Nat), n + d = xs.length → d < K → Zq20_l1 N (fun o1 => some ((o1, ()), ())) K (xs.length : Int) n (nbL xs.length st) = some ((nbL xs.length st, ()), ()) := by
    intro d
    induction d with
    | zero =>
      intro n K hd hK
      obtain ⟨k, rfl⟩ := succ_of hK
      simp only [Zq20_l1, ilt_nf (show ¬ n < xs.length by omega), br_f]
    | succ d ih =>
      intro n K hd hK
      obtain ⟨k, rfl⟩ := succ_of hK
      have hn : n < xs.length := by omega
      have hs := nbS_strict (v := (n : Int)) h
      have hl := nbS_len (v := (n : Int)) h
      simp only [Zq20_l1, ilt_n hn, br_t, inb_n (show n < (nbL xs.length st).length by omega), chk_t]
      rw [nbL_rd (in_nat hn), Sort_asc (hs.imp fun hab => by omega) (by omega) hN, bind_some', wrap_succ (by omega), tSet_n]
      have : (nbL xs.length st).set n (nbS st (n : Int)) = nbL xs.length st := by
        refine List.ext_getElem (by simp) fun i h1 h2 => ?_
        by_cases hi : i = n
        · subst hi
          rw [List.getElem_set_self]
          simp [nbL]
        · rw [List.getElem_set_ne (fun e => hi e.symm)]
      simp only [this]
      exact ih (n + 1) k (by omega) (by omega)
  unfold Zq20
  simp only []
  rw [tLen_n, tLen_n, ile_t (by omega), ile_t (Int.le_refl _), fits_ok (by omega)]
  simp only [Bool.and_self, chk_t]
  rw [tRep_n, rep_map]
  have g1 := goA st [] N (fun o => Zq20_l1 N (fun o1 => some ((o1, ()), ())) N (tLen o) 0 o) (by omega) rfl
  have e1 : ((List.range xs.length).map fun i : Nat => nbT [] (i : Int)) = (List.range xs.length).map fun _ => [] := rfl
  rw [e1] at g1
  simp only [List.length_nil, Int.natCast_zero] at g1
  rw [g1, e0, tLen_n, hlen]
  exact goB xs.length 0 N (by omega) (by omega)
theorem idx_lt {xs : List (List Int)} {a : List Int} (h : a ∈ xs) : xs.idxOf a < xs.length := List.idxOf_lt_length_iff.2 h
theorem idx_rd {xs : List (List Int)} {a : List Int} (h : a ∈ xs) : rdL xs ((xs.idxOf a : Nat) : Int) = a := by
  rw [rdL_n (idx_lt h)]
  exact List.getElem_idxOf (idx_lt h)
def bl : Nat → List (List Int)
  | 0 => [[]]
  | m + 1 => (bl m).map (fun b => 0 :: b) ++ (bl m).map (fun b => 1 :: b)
theorem mem_bl : ∀ {b : List Int}, (∀ x ∈ b, x = 0 ∨ x = 1) → b ∈ bl b.length := by
  intro b
  induction b with
  | nil => intro _; simp [bl]
  | cons x b ih =>
    intro h
    have h1 := ih fun y hy => h y (List.mem_cons_of_mem _ hy)
    rw [List.length_cons]
    unfold bl
    rcases h x (List.mem_cons_self ..) with rfl | rfl
    · exact List.mem_append_left _ (List.mem_map.2 ⟨b, h1, rfl⟩)
    · exact List.mem_append_right _ (List.mem_map.2 ⟨b, h1, rfl⟩)
theorem blTab : ((List.range 7).all fun m => (bl m).all fun b => (allB m).any fun c => c == b) = true := by kernel_rfl
theorem mem_allB {b : List Int} (hb : ∀ x ∈ b, x = 0 ∨ x = 1) (h6 : b.length ≤ 6) : b ∈ allB b.length := by
  have h1 := List.all_eq_true.1 (List.all_eq_true.1 blTab b.length (List.mem_range.2 (by omega))) b (mem_bl hb)
  obtain ⟨c, h2, h3⟩ := List.any_eq_true.1 h1
  have := eq_of_beq h3
  rwa [this] at h2
noncomputable def setOf (m a : Nat) : List Int := ((List.range' 0 m).filter fun i : Nat => a.testBit i).map fun i : Nat => (i : Int)
theorem setOf_len (m a : Nat) : (setOf m a).length ≤ m := by
  unfold setOf
  rw [List.length_map]
  exact Nat.le_trans (List.length_filter_le ..) (by simp)
theorem ibit8 {a c : Nat} (ha : a < 256) (hc : c < 8) : ieq (bitop .and .i64 (shrI .i64 (a : Int) (c : Int)) 1) 1 = a.testBit c := by
  have hk : ((List.range 256).all fun a => (List.range 8).all fun c => ieq (bitop .and .i64 (shrI .i64 (a : Int) (c : Int)) 1) 1 == a.testBit c) = true := by kernel_rfl
  exact eq_of_beq (List.all_eq_true.1 (List.all_eq_true.1 hk a (List.mem_range.2 ha)) c (List.mem_range.2 hc))
theorem l2Bits_set {N m a : Nat} (hm : m ≤ 8) (ha : a < 256) (hN : 1048577 ≤ N) : Zq76 N (m : Int) (a : Int) = some ((setOf m a, ()), ()) := by
  unfold Zq76
  refine (loop_iter (L := fun K n o => Zq76_l0 N (fun o => some ((o, ()), ())) K (m : Int) (a : Int) n o) (k := fun o => some ((o, ()), ())) (Inv := fun n o => o.length ≤ n) (step := fun n o => if a.testBit n = true then o ++ [(n : Int)] else o) (fun K n s hn _ => ?_) (fun K n s hn hs => ?_) (fun n s hn h => ?_) (s := []) (m := m) (K := N) (by omega) (Nat.zero_le _)).trans ?_
  · simp only [Zq76_l0, ilt_nf hn, br_f]
  · simp only [Zq76_l0, ilt_n hn, br_t]
    rw [ile_t (by omega), chk_t, ibit8 ha (by omega), wrap_succ (by omega), room_ok (by simp; omega), chk_t, br_ite]
    by_cases h : a.testBit n = true
    · rw [if_pos h, if_pos h]
      rfl
    · rw [if_neg h, if_neg h]
  · by_cases hc : a.testBit n = true
    · rw [if_pos hc]; simp; omega
    · rw [if_neg hc]; omega
  · rw [iter_app, List.nil_append]
    congr 3
    unfold setOf
    congr 1
    refine List.filter_congr fun v _ => ?_
    cases a.testBit v <;> rfl
theorem mem_stepsL {p : List Int → List Int → Bool} {xs : List (List Int)} {e : Int × Int} : e ∈ stepsL p xs ↔ ∃ i j : Nat, e = ((i : Int), (j : Int)) ∧ i < j ∧ j < xs.length ∧ p (rdL xs (i : Int)) (rdL xs (j : Int)) = true := by
  unfold stepsL rowSteps
  rw [List.mem_flatMap]
  constructor
  · rintro ⟨i, hi, he⟩
    obtain ⟨j, hj, rfl⟩ := List.mem_map.1 he
    obtain ⟨h1, h2⟩ := List.mem_filter.1 hj
    have := List.mem_range'_1.1 h1
    exact ⟨i, j, rfl, by omega, by omega, h2⟩
  · rintro ⟨i, j, rfl, h1, h2, h3⟩
    exact ⟨i, List.mem_range'_1.2 (by omega), List.mem_map.2 ⟨j, List.mem_filter.2 ⟨List.mem_range'_1.2 (by omega), h3⟩, rfl⟩⟩
theorem risingP {m : Nat} {s : List Int} (h : rising 0 ((m : Int) - 1) s) : s.Pairwise (· < ·) := rising_strict h
def CurOk (code : List Int) (k : Nat) (c : List Int × (Int × Int)) : Prop := c.1 = code ∧ 0 ≤ c.2.1 ∧ c.2.1 ≤ (k : Int)
def codeOk (code : List Int) : Prop := code.length ≤ 1048576 ∧ ∀ x ∈ code, 0 ≤ x ∧ x ≤ 255
theorem cur_mono {code : List Int} {k l : Nat} {c : List Int × (Int × Int)} (h : CurOk code k c) (hl : k ≤ l) : CurOk code l c := ⟨h.1, h.2.1, by have := h.2.2; omega⟩
theorem u8_and (x : Int) : 0 ≤ IntKind.i64.wrap (bitop .and .u64 x 255) ∧ IntKind.i64.wrap (bitop .and .u64 x 255) ≤ 255 := by
  have h : ∃ n : Nat, bitop .and .u64 x 255 = (n : Int) ∧ n ≤ 255 := by
    unfold bitop
    simp only []
    have e : (BitVec.ofInt IntKind.u64.bits x &&& BitVec.ofInt IntKind.u64.bits 255).toNat = (BitVec.ofInt IntKind.u64.bits x).toNat &&& 255 := by
      rw [BitVec.toNat_and]; rfl
    have hle : (BitVec.ofInt IntKind.u64.bits x).toNat &&& 255 ≤ 255 := Nat.and_le_right
    refine ⟨(BitVec.ofInt IntKind.u64.bits x).toNat &&& 255, ?_, hle⟩
    rw [e]
    unfold IntKind.wrap
    simp only [IntKind.signed, IntKind.bits]
    have : (((BitVec.ofInt 64 x).toNat &&& 255 : Nat) : Int) % 2 ^ 64 = (((BitVec.ofInt 64 x).toNat &&& 255 : Nat) : Int) := by
      refine Int.emod_eq_of_lt (by omega) ?_
      have : (BitVec.ofInt 64 x).toNat &&& 255 ≤ 255 := Nat.and_le_right
      omega
    simpa using this
  obtain ⟨n, h1, h2⟩ := h
  rw [h1, wrap_ok (by omega) (by omega)]
  omega
theorem next_ok {N : Nat} {code : List Int} {k : Nat} {c : List Int × (Int × Int)} (hco : codeOk code) (h : CurOk code k c) (hk : k ≤ 1000000000) : ∃ x c', Zq68 N c = some ((x, ()), (c', ())) ∧ CurOk code (k + 1) c' ∧ 0 ≤ x ∧ x ≤ 255 := by
  obtain ⟨cd, at', seed⟩ := c
  obtain ⟨h1, h2, h3⟩ := h
  simp only at h1 h2 h3
  subst h1
  have hw : IntKind.i64.wrap (at' + 1) = at' + 1 := wrap_ok (by omega) (by omega)
  unfold Zq68
  simp only [hw]
  by_cases hlt : at' < (cd.length : Int)
  · obtain ⟨n, rfl⟩ := Int.eq_ofNat_of_zero_le h2
    have hn : n < cd.length := by omega
    have hb := hco.2 _ (List.getElem_mem hn)
    have hrd : rd U8 cd (n : Int) = cd[n] := by
      unfold rd
      rw [Int.toNat_natCast, List.getD_eq_getElem?_getD, List.getElem?_eq_getElem hn]
      rfl
    rw [ilt_len hn, br_t, inb_n hn, chk_t, hrd]
    by_cases hle : (n : Int) + 1 ≤ (cd.length : Int)
    · rw [tLen_n, ile_t hle, br_t]
      refine ⟨_, _, rfl, ⟨rfl, by show (0 : Int) ≤ (n : Int) + 1; omega, by show (n : Int) + 1 ≤ ((k + 1 : Nat) : Int); omega⟩, ?_⟩
      rw [wrap_ok (by omega) (by omega)]
      exact hb
    · omega
  · rw [tLen_n, ilt_f hlt, br_f]
    by_cases hle : at' + 1 ≤ (cd.length : Int)
    · rw [ile_t hle, br_t]
      exact ⟨_, _, rfl, ⟨rfl, by show (0 : Int) ≤ at' + 1; omega, by show at' + 1 ≤ ((k + 1 : Nat) : Int); omega⟩, by omega, by omega⟩
    · rw [ile_f hle, br_f]
      exact ⟨_, _, rfl, ⟨rfl, by show (0 : Int) ≤ at' + 1; omega, by show at' + 1 ≤ ((k + 1 : Nat) : Int); omega⟩, u8_and _⟩
theorem tmod_in {x n : Int} (hx : 0 ≤ x) (hn : 1 ≤ n) : 0 ≤ x.tmod n ∧ x.tmod n < n ∧ x.tmod n ≤ x := by
  obtain ⟨a, rfl⟩ := Int.eq_ofNat_of_zero_le hx
  obtain ⟨b, rfl⟩ := Int.eq_ofNat_of_zero_le (show 0 ≤ n by omega)
  have e : ((a : Int)).tmod (b : Int) = ((a % b : Nat) : Int) := rfl
  rw [e]
  have := Nat.mod_lt a (show 0 < b by omega)
  have := Nat.mod_le a b
  omega
theorem pick_ok {N : Nat} {code : List Int} {k : Nat} {c : List Int × (Int × Int)} (hco : codeOk code) (h : CurOk code k c) (hk : k ≤ 1000000) (n : Int) : ∃ x c', Zq70 N c n = some ((x, ()), (c', ())) ∧ CurOk code (k + 2) c' ∧ 0 ≤ x ∧ x ≤ 65535 ∧ (1 ≤ n → x < n) := by
  unfold Zq70
  by_cases h1 : n ≤ 1
  · rw [ile_t h1, br_t]
    exact ⟨_, _, rfl, cur_mono h (by omega), by omega, by omega, fun h => by omega⟩
  · rw [ile_f h1, br_f]
    obtain ⟨x, c', e1, e2, e3, e4⟩ := next_ok (N := N) hco h (by omega)
    rw [e1, bind_some']
    simp only []
    by_cases h2 : 200 < n
    · rw [ilt_t h2, br_t]
      obtain ⟨y, c2, f1, f2, f3, f4⟩ := next_ok (N := N) hco e2 (by omega)
      rw [f1, bind_some', ine_t (show n ≠ 0 by omega), chk_t]
      simp only []
      rw [wrap_ok (n := x * 256) (by omega) (by omega), wrap_ok (by omega) (by omega)]
      have := tmod_in (x := x * 256 + y) (n := n) (by omega) (by omega)
      exact ⟨_, _, rfl, f2, by omega, by omega, fun _ => by omega⟩
    · rw [ilt_f h2, br_f, ine_t (show n ≠ 0 by omega), chk_t]
      have := tmod_in (x := x) (n := n) (by omega) (by omega)
      exact ⟨_, _, rfl, cur_mono e2 (by omega), by omega, by omega, fun _ => by omega⟩
theorem among_ok {N : Nat} {code : List Int} {k : Nat} {c : List Int × (Int × Int)} (hco : codeOk code) (h : CurOk code k c) (hk : k ≤ 1000000) {l : List Int} (hl : l ≠ []) : ∃ x c', Zq67 N c l = some ((x, ()), (c', ())) ∧ CurOk code (k + 2) c' ∧ x ∈ l := by
  unfold Zq67
  have hp : 0 < l.length := List.length_pos_iff.2 hl
  obtain ⟨x, c', e1, e2, e3, e4, e5⟩ := pick_ok (N := N) hco h hk (tLen l)
  rw [e1, bind_some']
  simp only []
  rw [tLen_n] at e5
  obtain ⟨n, rfl⟩ := Int.eq_ofNat_of_zero_le e3
  have hn : n < l.length := by have := e5 (by omega); omega
  rw [inb_n hn, chk_t, rdI_n hn]
  exact ⟨_, _, rfl, e2, List.getElem_mem hn⟩
theorem cur0 {code : List Int} : CurOk code 0 (code, (0, 0)) := ⟨rfl, Int.le_refl _, by simp⟩
theorem code_ok {x : List Int} (h : ∀ y ∈ x, (Lit.int .u8 y).wf = true) (hl : x.length ≤ 65536) : codeOk x := by
  refine ⟨by omega, fun y hy => ?_⟩
  have := h y hy
  simp [Lit.wf, IntKind.min, IntKind.max, IntKind.signed, IntKind.bits] at this
  omega
theorem wl_head {L : List (List Int)} {x y z : Int} {k : Nat} (h : y ∈ rdL L x) (hw : Wl L y k z) : Wl L x (k + 1) z := by
  induction hw with
  | base => exact .step .base h
  | step _ hz ih => exact .step ih hz
theorem apart_symm {a b : List Int} (h : a.length = b.length) : apartL a b = apartL b a := by
  unfold apartL
  rw [h]
  congr 1
  refine List.filter_congr fun i _ => decide_eq_decide.2 ⟨Ne.symm, Ne.symm⟩
theorem mem_apart {a b : List Int} {x : Int} : x ∈ apartL a b ↔ ∃ i : Nat, i < a.length ∧ rdI a (i : Int) ≠ rdI b (i : Int) ∧ x = (i : Int) := by
  unfold apartL
  rw [List.mem_map]
  constructor
  · rintro ⟨i, hi, rfl⟩
    obtain ⟨h1, h2⟩ := List.mem_filter.1 hi
    have := List.mem_range'_1.1 h1
    exact ⟨i, by omega, of_decide_eq_true h2, rfl⟩
  · rintro ⟨i, h1, h2, rfl⟩
    exact ⟨i, List.mem_filter.2 ⟨List.mem_range'_1.2 (by omega), decide_eq_true h2⟩, rfl⟩
theorem apart_nodup (a b : List Int) : (apartL a b).Nodup := by
  unfold apartL
  refine List.Pairwise.map (R := fun (i j : Nat) => i ≠ j) _ (fun i j h e => h (by omega)) ?_
  exact (List.nodup_range' (step := 1)).filter _
theorem apart_tri {a b c : List Int} (hab : a.length = b.length) (h : isCh b c = true) : (apartL a c).length ≤ (apartL a b).length + 1 := by
  obtain ⟨x, hx⟩ := List.length_eq_one_iff.1 (of_decide_eq_true h)
  have := nodup_le (apart_nodup a c) (b := apartL a b ++ [x]) fun z hz => by
    obtain ⟨i, h1, h2, rfl⟩ := mem_apart.1 hz
    by_cases q : rdI a (i : Int) = rdI b (i : Int)
    · have : (i : Int) ∈ apartL b c := mem_apart.2 ⟨i, by omega, by rw [← q]; exact h2, rfl⟩
      rw [hx] at this
      exact List.mem_append_right _ this
    · exact List.mem_append_left _ (mem_apart.2 ⟨i, h1, q, rfl⟩)
  simpa using this
theorem rd_ext {a b : List Int} (h : a.length = b.length) (he : ∀ i : Nat, i < a.length → rdI a (i : Int) = rdI b (i : Int)) : a = b := by
  refine List.ext_getElem h fun i h1 h2 => ?_
  have := he i h1
  rwa [rdI_n h1, rdI_n h2] at this
theorem turn_one {a b : List Int} {m : Nat} (ha : a.length = m) (hb : b.length = m) (h1 : ∀ x ∈ a, x = 0 ∨ x = 1) (h2 : ∀ x ∈ b, x = 0 ∨ x = 1) (h : isCh a b = true) : ∃ v : Nat, v < m ∧ apartL a b = [(v : Int)] ∧ tSet a (v : Int) (1 - rdI a (v : Int)) = b := by
  obtain ⟨x, hx⟩ := List.length_eq_one_iff.1 (of_decide_eq_true h)
  obtain ⟨v, hv, hne, rfl⟩ := mem_apart.1 (show x ∈ apartL a b by rw [hx]; exact List.mem_singleton.2 rfl)
  have hs : ∀ w : Int, (tSet a (v : Int) w).length = a.length := fun w => by simp [tSet]
  refine ⟨v, by omega, hx, rd_ext (by rw [hs]; omega) fun i hi => ?_⟩
  rw [hs] at hi
  rw [rdI_set (by omega) _ (i : Int) (by omega)]
  by_cases e : (i : Int) = (v : Int)
  · rw [if_pos e, e]
    have hi2 : v < b.length := by omega
    have q1 := h1 _ (List.getElem_mem hv)
    have q2 := h2 _ (List.getElem_mem hi2)
    rw [← rdI_n hv] at q1
    rw [← rdI_n hi2] at q2
    omega
  · rw [if_neg e]
    refine Classical.byContradiction fun q => ?_
    have : (i : Int) ∈ apartL a b := mem_apart.2 ⟨i, hi, q, rfl⟩
    rw [hx, List.mem_singleton] at this
    exact e this
theorem step_near {xs : List (List Int)} {p : List Int → List Int → Bool} {x y : List Int} (hp : ∀ x ∈ xs, ∀ y ∈ xs, p x y = true → p y x = true) (hx : x ∈ xs) (hy : y ∈ xs) (hne : x ≠ y) (h : p x y = true) : ((xs.idxOf y : Nat) : Int) ∈ rdL (nbL xs.length (stepsL p xs)) ((xs.idxOf x : Nat) : Int) := by
  have i1 := idx_lt hx
  have i2 := idx_lt hy
  have r1 := idx_rd hx
  have r2 := idx_rd hy
  rw [nbL_rd (in_nat i1), mem_nbS stepsL_ok]
  have hni : xs.idxOf x ≠ xs.idxOf y := fun e => hne (by rw [← r1, ← r2, e])
  by_cases hlt : xs.idxOf x < xs.idxOf y
  · exact .inr (mem_stepsL.2 ⟨_, _, rfl, hlt, i2, by rw [r1, r2]; exact h⟩)
  · exact .inl (mem_stepsL.2 ⟨_, _, rfl, by omega, i1, by rw [r1, r2]; exact hp x hx y hy h⟩)
theorem near_step {xs : List (List Int)} {p : List Int → List Int → Bool} {u v : Int} (hp : ∀ x ∈ xs, ∀ y ∈ xs, p x y = true → p y x = true) (hu : InN xs.length u) (hv : v ∈ rdL (nbL xs.length (stepsL p xs)) u) : rdL xs u ∈ xs ∧ rdL xs v ∈ xs ∧ p (rdL xs u) (rdL xs v) = true ∧ InN xs.length v := by
  have hok := stepsL_ok (p := p) (xs := xs)
  rw [nbL_rd hu] at hv
  have hvn := nbS_in hok v hv
  obtain ⟨i, hi, rfl⟩ := nat_of hu
  obtain ⟨j, hj, rfl⟩ := nat_of hvn
  have m1 : rdL xs (i : Int) ∈ xs := by rw [rdL_n hi]; exact List.getElem_mem hi
  have m2 : rdL xs (j : Int) ∈ xs := by rw [rdL_n hj]; exact List.getElem_mem hj
  refine ⟨m1, m2, ?_, hvn⟩
  rcases (mem_nbS hok).1 hv with h | h
  · obtain ⟨i', j', e, _, _, hq⟩ := mem_stepsL.1 h
    have q1 : (j : Int) = (i' : Int) := congrArg Prod.fst e
    have q2 : (i : Int) = (j' : Int) := congrArg Prod.snd e
    rw [← q1, ← q2] at hq
    exact hp _ m2 _ m1 hq
  · obtain ⟨i', j', e, _, _, hq⟩ := mem_stepsL.1 h
    have q1 : (i : Int) = (i' : Int) := congrArg Prod.fst e
    have q2 : (j : Int) = (j' : Int) := congrArg Prod.snd e
    rw [← q1, ← q2] at hq
    exact hq
theorem isCh_symm {a b : List Int} (h : a.length = b.length) (hc : isCh a b = true) : isCh b a = true := by
  unfold isCh at *
  rw [apart_symm h.symm]
  exact hc
theorem rInts_l0_eq {R : Type} (N : Nat) (k0 : Bool → Option R) (k1 : Unit → Option R) (a b : List Int) (hx : a.length ≤ 1099511627776) (hl : a.length = b.length) : ∀ (d n : Nat) (K : Nat), n + d = a.length → d < K →
    Zq44_l0 N k0 k1 K a b n = if a.drop n = b.drop n then k1 () else k0 false := by
  intro d
  induction d with
  | zero =>
    intro n K hd hK
    obtain ⟨k, rfl⟩ := succ_of hK
    have hn : ¬ n < a.length := by omega
    simp only [Zq44_l0, ilt_lenf hn, br_f]
    rw [if_pos]
    rw [List.drop_of_length_le (by omega), List.drop_of_length_le (by omega)]
  | succ d ih =>
    intro n K hd hK
    obtain ⟨k, rfl⟩ := succ_of hK
    have hn : n < a.length := by omega
    have hnb : n < b.length := by omega
    simp only [Zq44_l0, ilt_len hn, inb_n hn, inb_n hnb, br_t, chk_t]
    rw [wrap_succ (by omega), rdI_n hn, rdI_n hnb, ih (n + 1) k (by omega) (by omega), drop_cons hn, drop_cons hnb]
    by_cases he : a[n] = b[n]
    · rw [ine_f he, br_f, he]
      simp only [List.cons.injEq, true_and]
    · rw [ine_t he, br_t, if_neg]
      intro h
      injection h with h _
      exact he h
theorem rInts_eq {N : Nat} {a b : List Int} (hx : a.length ≤ 1099511627776) (hN : a.length < N) : Zq44 N a b = some ((decide (a = b), ()), ()) := by
  unfold Zq44
  simp only [tLen_n]
  by_cases hl : a.length = b.length
  · rw [ine_f (by omega), br_f]
    have := rInts_l0_eq N (fun x => some ((x, ()), ())) (fun _ => some ((true, ()), ())) a b hx hl a.length 0 N (by omega) (by omega)
    simp only [Int.natCast_zero, List.drop_zero] at this
    rw [this]
    by_cases h : a = b <;> simp [h]
  · rw [ine_t (by omega), br_t]
    have : a ≠ b := fun h => hl (by rw [h])
    simp [this]
theorem rTable_l0_eq {R : Type} (N : Nat) (k0 : Bool → Option R) (k1 : Unit → Option R) (a b : List (List Int)) (hx : a.length ≤ 1099511627776) (hxs : ∀ x ∈ a, x.length ≤ 1048576) (hN : 1048577 ≤ N) (hl : a.length = b.length) : ∀ (d n : Nat) (K : Nat), n + d = a.length → d < K →
    Zq47_l0 N k0 k1 K a b n = if a.drop n = b.drop n then k1 () else k0 false := by
  intro d
  induction d with
  | zero =>
    intro n K hd hK
    obtain ⟨k, rfl⟩ := succ_of hK
    have hn : ¬ n < a.length := by omega
    simp only [Zq47_l0, ilt_lenf hn, br_f]
    rw [if_pos]
    rw [List.drop_of_length_le (by omega), List.drop_of_length_le (by omega)]
  | succ d ih =>
    intro n K hd hK
    obtain ⟨k, rfl⟩ := succ_of hK
    have hn : n < a.length := by omega
    have hnb : n < b.length := by omega
    simp only [Zq47_l0, ilt_len hn, inb_n hn, inb_n hnb, br_t, chk_t]
    have ha := hxs _ (List.getElem_mem hn)
    rw [wrap_succ (by omega), rdL_n hn, rdL_n hnb, rInts_eq (by omega) (by omega), bind_some', ih (n + 1) k (by omega) (by omega), drop_cons hn, drop_cons hnb, br_ite]
    by_cases he : a[n] = b[n]
    · rw [he, if_neg (by simp)]
      simp only [List.cons.injEq, true_and]
    · rw [if_pos (by simp [he]), if_neg]
      intro h
      injection h with h _
      exact he h
theorem rTable_eq {N : Nat} {a b : List (List Int)} (hx : a.length ≤ 1048576) (hxs : ∀ x ∈ a, x.length ≤ 1048576) (hN : 1048577 ≤ N) : Zq47 N a b = some ((decide (a = b), ()), ()) := by
  unfold Zq47
  simp only [tLen_n]
  by_cases hl : a.length = b.length
  · rw [ine_f (by omega), br_f]
    have := rTable_l0_eq N (fun x => some ((x, ()), ())) (fun _ => some ((true, ()), ())) a b (by omega) hxs hN hl a.length 0 N (by omega) (by omega)
    simp only [Int.natCast_zero, List.drop_zero] at this
    rw [this]
    by_cases h : a = b <;> simp [h]
  · rw [ine_t (by omega), br_t]
    have : a ≠ b := fun h => hl (by rw [h])
    simp [this]
end Go.Proofs.YtfilchmabmfmaaaGreat
