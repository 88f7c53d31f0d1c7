/- Statements on data alone. -/
import Derived.Test.YtgelipdkheahdaaGreatPvPure
import Derived.Test.YtgelipdkheahdaaGreatExchangeWayGc
set_option linter.all false
set_option linter.all false
namespace Go.Proofs.YtgelipdkheahdaaGreat
open Go Go.PV Classical
theorem hasKind_cl {R : Type} {N m n : Nat} {es : List (Int × Int)} {s : List Int} {k0 : Bool → Option R} {k1 : Int → Int → Int → List (Int × Int) → List Int → Option R} (hed : ∀ e ∈ es, e.1 < e.2) (hx : es.length ≤ 1048576) (hs : s.length ≤ 1048576) (hn : n < s.length) (hN : 1048577 ≤ N) :
    impl_Graph_hasKind_l0_0 N k0 k1 N (rdI s (n : Int)) (tLen s) (n : Int) 0 (n : Int) ((n : Int) - 0) 0 (m : Int) es s = if (∀ j : Nat, j < n → nearG es (rdI s (n : Int)) (rdI s (j : Int))) then k1 (tLen s) (n : Int) (m : Int) es s else k0 false := by
  rw [show (n : Int) - 0 = (n : Int) by omega]
  have := loop_all_if (P := ∀ j : Nat, j < n → nearG es (rdI s (n : Int)) (rdI s (j : Int))) (m := n) (L := fun K j => impl_Graph_hasKind_l0_0 N k0 k1 K (rdI s (n : Int)) (tLen s) (n : Int) 0 (n : Int) (n : Int) (j : Int) (m : Int) es s) (fun j => nearG es (rdI s (n : Int)) (rdI s (j : Int))) Iff.rfl (kt := k1 (tLen s) (n : Int) (m : Int) es s) (kf := k0 false) (fun K j hj => ?_) (fun K j hj hp => ?_) (fun K j hj hp => ?_) (K := N) (by omega)
  · simpa using this
  · simp only [impl_Graph_hasKind_l0_0, ilt_nf hj, br_f]
  · simp only [impl_Graph_hasKind_l0_0, ilt_n hj, br_t]
    rw [ile_t (by omega), ilt_t (show (j : Int) < (n : Int) - 0 by omega)]
    simp only [Bool.and_self, chk_t, Int.zero_add]
    rw [Graph_has_eq (g := ((m : Int), es)) hed hx hN, bind_some', decide_eq_true hp, wrap_succ (by omega)]
    rfl
  · simp only [impl_Graph_hasKind_l0_0, ilt_n hj, br_t]
    rw [ile_t (by omega), ilt_t (show (j : Int) < (n : Int) - 0 by omega)]
    simp only [Bool.and_self, chk_t, Int.zero_add]
    rw [Graph_has_eq (g := ((m : Int), es)) hed hx hN, bind_some', decide_eq_false hp]
    rfl
theorem and_zero {a b : Nat} (ha : a < 256) (hb : b < 256) : ieq (bitop .and .u64 (a : Int) (b : Int)) 0 = decide (∀ i, ¬ (a.testBit i = true ∧ b.testBit i = true)) := by
  rw [andN (by omega) (by omega), ieq_d]
  refine decide_eq_decide.2 ⟨fun h i hi => ?_, fun h => ?_⟩
  · have h0 : a &&& b = 0 := by omega
    have := Nat.testBit_and a b i
    rw [h0, hi.1, hi.2] at this
    simp at this
  · have : a &&& b = 0 := Nat.eq_of_testBit_eq fun i => by
      rw [Nat.testBit_and, Nat.zero_testBit]
      cases h1 : a.testBit i <;> cases h2 : b.testBit i <;> simp
      exact h i ⟨h1, h2⟩
    omega
theorem hasKind_eq {N m a : Nat} {es : List (Int × Int)} {kind : Int} (hm : m ≤ 8) (ha : a < 2 ^ m) (hg : goodG ((m : Int), es)) (hx : es.length ≤ 1048576) (hN : 1048577 ≤ N) : impl_Graph_hasKind N ((m : Int), es) kind (a : Int) = some ((decide (hasK m es kind (setOf m a)), ()), ()) := by
  have ha8 := pow256 hm
  have hedge := goodG_edges hg
  have hed : ∀ e ∈ es, e.1 < e.2 := fun e he => (hedge e he).2.1
  have hsl : (setOf m a).length ≤ 1048576 := by have := setOf_len m a; omega
  unfold impl_Graph_hasKind
  simp only []
  have fin : ∀ {o : Option ((Bool × Unit) × Unit)}, o = (if hasK m es kind (setOf m a) then some ((true, ()), ()) else some ((false, ()), ())) → o = some ((decide (hasK m es kind (setOf m a)), ()), ()) := by
    intro o h
    rw [h]
    by_cases h : hasK m es kind (setOf m a)
    · rw [if_pos h, decide_eq_true h]
    · rw [if_neg h, decide_eq_false h]
  by_cases h1 : kind = 1
  · rw [ieq_t h1, br_t]
    unfold impl_Graph_all
    simp only []
    rw [ile_t (by omega), chk_t, all8 m hm, bind_some']
    obtain ⟨c, c1, c2, c3⟩ := lessN (a := 2 ^ m - 1) (b := a) (by omega) (by omega)
    simp only []
    rw [c1]
    unfold impl_Graph_isFree
    simp only []
    rw [ContainsFunc_LP_P2_eq (g := fun e => decide (e.1 ∉ setOf m a ∧ e.2 ∉ setOf m a)) (fun e he => ?_) (by omega) (by omega), bind_some', bind_some']
    · congr 3
      rw [not_any]
      refine decide_eq_decide.2 ?_
      unfold hasK
      rw [if_pos h1]
      refine ⟨fun h e he => ?_, fun h e he => ?_⟩
      · have := of_decide_eq_false (h e he)
        by_cases q : e.1 ∈ setOf m a
        · exact .inl q
        · by_cases q2 : e.2 ∈ setOf m a
          · exact .inr q2
          · exact absurd ⟨q, q2⟩ this
      · refine decide_eq_false fun q => ?_
        rcases h e he with h | h
        · exact q.1 h
        · exact q.2 h
    · obtain ⟨e1, e2, e3⟩ := hedge e he
      simp only [] at e3
      obtain ⟨p, hp⟩ : ∃ p : Nat, e.1 = (p : Int) := ⟨e.1.toNat, by omega⟩
      obtain ⟨q, hq⟩ : ∃ q : Nat, e.2 = (q : Int) := ⟨e.2.toNat, by omega⟩
      have hpm : p < m := by omega
      have hqm : q < m := by omega
      have hnot : ∀ i, i < m → (c.testBit i = true ↔ (i : Int) ∉ setOf m a) := fun i hi => by
        rw [c3 i, Nat.testBit_two_pow_sub_one, decide_eq_true hi, Bool.true_and, mem_setN]
        cases a.testBit i <;> simp [hi]
      unfold impl_Graph_isFree_c1
      rw [hp, hq, bag_has_eq c2 (by omega), bag_has_eq c2 (by omega), bind_some', bind_some']
      simp only []
      by_cases q1 : (p : Int) ∈ setOf m a
      · have : c.testBit p = false := Bool.eq_false_iff.2 fun h => (hnot p hpm).1 h q1
        rw [this, br_f, decide_eq_false (fun h => h.1 q1)]
        rfl
      · rw [(hnot p hpm).2 q1, br_t]
        by_cases q2 : (q : Int) ∈ setOf m a
        · have : c.testBit q = false := Bool.eq_false_iff.2 fun h => (hnot q hqm).1 h q2
          rw [this, decide_eq_false (fun h => h.2 q2)]
          rfl
        · rw [(hnot q hqm).2 q2, decide_eq_true ⟨q1, q2⟩]
          rfl
  · rw [ieq_f h1, br_f]
    by_cases h2 : kind = 2
    · rw [ieq_t h2, br_t, bag_list_eq hm ha hN, bind_some']
      refine fin ?_
      simp only []
      have := loop_all_if (P := hasK m es kind (setOf m a)) (m := (setOf m a).length) (L := fun K i => impl_Graph_hasKind_l0 N (fun x => some ((x, ()), ())) (fun (_ : Unit) => some ((true, ()), ())) K (tLen (setOf m a)) i (m : Int) es (setOf m a)) (fun i => ∀ j : Nat, j < i → nearG es (rdI (setOf m a) (i : Int)) (rdI (setOf m a) (j : Int))) (by unfold hasK; rw [if_neg h1, if_pos h2]; exact ⟨fun h i hi j hj => h i j hi hj, fun h i j hi hj => h i hi j hj⟩) (kt := some ((true, ()), ())) (kf := some ((false, ()), ())) (fun K n hn => ?_) (fun K n hn hp => ?_) (fun K n hn hp => ?_) (K := N) (by omega)
      · simpa using this
      · simp only [impl_Graph_hasKind_l0, ilt_lenf hn, br_f]
      all_goals
        simp only [impl_Graph_hasKind_l0, ilt_len hn, br_t, inb_n hn, chk_t]
        rw [ile_t (Int.le_refl _), ile_t (show (0 : Int) ≤ (n : Int) by omega), tLen_n, ile_t (show (n : Int) ≤ ((setOf m a).length : Int) by omega)]
        simp only [Bool.and_self, chk_t]
        have hcl := hasKind_cl (R := (Bool × Unit) × Unit) (N := N) (m := m) (n := n) (es := es) (s := setOf m a) (k0 := fun x2 => (fun x => some ((x, ()), ())) x2) (k1 := fun x3 x4 o3 o4 o5 => impl_Graph_hasKind_l0 N (fun x => some ((x, ()), ())) (fun (_ : Unit) => some ((true, ()), ())) K x3 (IntKind.i64.wrap (x4 + 1)) o3 o4 o5) hed hx hsl hn hN
        rw [tLen_n] at hcl
      · rw [hcl, if_pos hp, wrap_succ (by omega)]
      · rw [hcl, if_neg hp]
    · rw [ieq_f h2, br_f]
      refine fin ?_
      have := loop_all_if (P := hasK m es kind (setOf m a)) (m := m) (L := fun K i => impl_Graph_hasKind_l1 N (fun x => some ((x, ()), ())) (fun (_ : Unit) => some ((true, ()), ())) K (a : Int) (m : Int) i (m : Int) es) (fun x => (x : Int) ∈ setOf m a ∨ ∃ y ∈ setOf m a, nearG es y (x : Int)) (by unfold hasK; rw [if_neg h1, if_neg h2]) (kt := some ((true, ()), ())) (kf := some ((false, ()), ())) (fun K n hn => ?_) (fun K n hn hp => ?_) (fun K n hn hp => ?_) (K := N) (by omega)
      · simpa using this
      · simp only [impl_Graph_hasKind_l1, ilt_nf hn, br_f]
      all_goals
        have hnl := nbr_len m es (n : Int)
        obtain ⟨q, q1, q2, q3⟩ := bagOf_eq (N := N) (xs := nbr m es (n : Int)) (fun y hy => by obtain ⟨i, hi, _, rfl⟩ := mem_nbr.1 hy; omega) (by omega) hN
        have hz : (∀ i, ¬ (q.testBit i = true ∧ a.testBit i = true)) ↔ ¬ ∃ y ∈ setOf m a, nearG es y (n : Int) := by
          constructor
          · rintro h ⟨y, h3, h4⟩
            obtain ⟨i, hi, hb, rfl⟩ := mem_setOf.1 h3
            exact h i ⟨(q3 i).2 (mem_nbr.2 ⟨i, hi, nearG_symm.1 h4, rfl⟩), hb⟩
          · rintro h i ⟨h3, h4⟩
            obtain ⟨j, hj, hn', hij⟩ := mem_nbr.1 ((q3 i).1 h3)
            have : i = j := by omega
            subst this
            exact h ⟨(i : Int), mem_setN.2 ⟨hj, h4⟩, nearG_symm.1 hn'⟩
        simp only [impl_Graph_hasKind_l1, ilt_n hn, br_t]
        rw [bag_has_eq (by omega) (by omega), bind_some', neighbors_eq hg hx hN, bind_some']
        simp only []
        rw [q1, bind_some']
        simp only []
        rw [and_zero q2 (by omega)]
      · rw [wrap_succ (by omega)]
        cases hb : a.testBit n with
        | true => simp only [Bool.not_true, br_f]
        | false =>
          simp only [Bool.not_false, br_t]
          have h3 := hp.resolve_left (fun h => by have := (mem_setN.1 h).2; rw [hb] at this; cases this)
          rw [decide_eq_false (fun h => hz.1 h h3), br_f]
      · have h3 : a.testBit n = false := Bool.eq_false_iff.2 fun h => hp (.inl (mem_setN.2 ⟨hn, h⟩))
        rw [h3, decide_eq_true (hz.2 fun h => hp (.inr h))]
        rfl
theorem iter_map {α : Type} {f : Nat → α} {p : Nat → Bool} : ∀ (d n : Nat) (o : List α), iter (fun n (o : List α) => if p n = true then o ++ [f n] else o) d n o = o ++ ((List.range' n d).filter p).map f := by
  intro d
  induction d with
  | zero => intro n o; simp [iter]
  | succ d ih =>
    intro n o
    unfold iter
    rw [ih, List.range'_succ]
    by_cases h : p n = true
    · rw [if_pos h, List.filter_cons_of_pos h, List.append_assoc]
      rfl
    · rw [if_neg h, List.filter_cons_of_neg h]
theorem shl8i : ∀ n : Nat, n < 9 → shlI .i64 1 (n : Int) = ((2 ^ n : Nat) : Int)
  | 0, _ => by kernel_rfl
  | 1, _ => by kernel_rfl
  | 2, _ => by kernel_rfl
  | 3, _ => by kernel_rfl
  | 4, _ => by kernel_rfl
  | 5, _ => by kernel_rfl
  | 6, _ => by kernel_rfl
  | 7, _ => by kernel_rfl
  | 8, _ => by kernel_rfl
  | n + 9, h => by omega
noncomputable def masksL (m : Nat) (p : List Int → Bool) : List (List Int) := ((List.range' 0 (2 ^ m)).filter fun a => p (setOf m a)).map (setOf m)
theorem mem_masksL {m : Nat} {p : List Int → Bool} {s : List Int} : s ∈ masksL m p ↔ (∃ a : Nat, a < 2 ^ m ∧ s = setOf m a) ∧ p s = true := by
  unfold masksL
  rw [List.mem_map]
  constructor
  · rintro ⟨a, ha, rfl⟩
    obtain ⟨h1, h2⟩ := List.mem_filter.1 ha
    exact ⟨⟨a, by have := List.mem_range'_1.1 h1; omega, rfl⟩, h2⟩
  · rintro ⟨⟨a, h1, rfl⟩, h2⟩
    exact ⟨a, List.mem_filter.2 ⟨List.mem_range'_1.2 (by omega), h2⟩, rfl⟩
theorem masksL_len (m : Nat) (p : List Int → Bool) : (masksL m p).length ≤ 2 ^ m := by
  unfold masksL
  rw [List.length_map]
  exact Nat.le_trans (List.length_filter_le ..) (by simp)
theorem masksL_nodup (m : Nat) (p : List Int → Bool) : (masksL m p).Nodup := by
  unfold masksL
  refine List.pairwise_map.2 (List.Pairwise.imp_of_mem (R := fun a b => a ≠ b) ?_ (List.Pairwise.filter _ ((List.pairwise_lt_range' (step := 1) (by omega)).imp fun {a b} h => by omega)))
  intro a b ha hb hab e
  have h1 := List.mem_range'_1.1 (List.mem_filter.1 ha).1
  have h2 := List.mem_range'_1.1 (List.mem_filter.1 hb).1
  exact hab (setOf_inj (by omega) (by omega) e)
theorem sets_eq {N m : Nat} {es : List (Int × Int)} {is : Int → Option Bool} {p : List Int → Bool} {ys : List (List Int)} (hm : m ≤ 8) (hp : ∀ a : Nat, a < 2 ^ m → is (a : Int) = some (p (setOf m a))) (hs : lexSorted ys) (hy : ∀ s, s ∈ ys ↔ (∃ a : Nat, a < 2 ^ m ∧ s = setOf m a) ∧ p s = true) (hN : 1048577 ≤ N) :
    impl_Graph_sets N ((m : Int), es) is = some ((ys, ()), ()) := by
  have h256 := pow256 hm
  have hpos : 0 < 2 ^ m := Nat.pow_pos (by omega)
  have go := loop_iter (L := fun K n o => impl_Graph_sets_l0 N (fun o => ((slices_SortFunc_LLI_LI_kslices_Compare_LI_int N o ()).bind fun r => some ((r.2.1, ()), ()))) K is (n : Int) (m : Int) es o) (k := fun o => ((slices_SortFunc_LLI_LI_kslices_Compare_LI_int N o ()).bind fun r => some ((r.2.1, ()), ()))) (Inv := fun n o => o.length ≤ n) (step := fun n o => if p (setOf m n) = true then o ++ [setOf m n] else o) (m := 2 ^ m) (fun K n o hn ho => ?_) (fun K n o hn ho => ?_) (fun n o hn ho => ?_) (K := N) (s := []) (by omega) (Nat.zero_le _)
  · simp only [Int.natCast_zero] at go
    unfold impl_Graph_sets
    simp only []
    rw [go, iter_map (f := setOf m) (p := fun n => p (setOf m n)), List.nil_append]
    have := masksL_len m p
    have := SortFunc_rows (N := N) (xs := masksL m p) (ys := ys) (by omega) (fun x hx => by
      obtain ⟨⟨a, _, rfl⟩, _⟩ := mem_masksL.1 hx
      have := setOf_len m a
      omega) (masksL_nodup m p) hs (fun s => by rw [hy s, mem_masksL]) hN
    unfold masksL at this
    rw [this]
    rfl
  · simp only [impl_Graph_sets_l0, impl_Graph_all]
    have e : ile (n : Int) ((2 ^ m - 1 : Nat) : Int) = false := ile_f (by omega)
    rw [ile_t (by omega), chk_t, all8 m hm, bind_some']
    simp only [e, br_f]
  · simp only [impl_Graph_sets_l0, impl_Graph_all]
    have e : ile (n : Int) ((2 ^ m - 1 : Nat) : Int) = true := ile_t (by omega)
    have ew : IntKind.u64.wrap ((n : Int) + 1) = ((n + 1 : Nat) : Int) := by
      have := wrap64 (n := n + 1) (by omega)
      rwa [show ((n + 1 : Nat) : Int) = (n : Int) + 1 by omega] at this ⊢
    rw [ile_t (by omega), chk_t, all8 m hm, bind_some']
    simp only [e, br_t]
    rw [hp n hn, bind_some', bag_list_eq hm hn hN, bind_some', room_ok (by simp; omega), chk_t, ew, tApp_d]
    cases p (setOf m n) <;> rfl
  · by_cases h : p (setOf m n) = true
    · rw [if_pos h]; simp; omega
    · rw [if_neg h]; omega
def sizeLt (a b : List Int) : Prop := a.length < b.length ∨ (a.length = b.length ∧ lexC a b < 0)
theorem l4Sets_in {R : Type} {N m : Nat} {es : List (Int × Int)} {kind : Int} {size : Nat} {o12 : List (List Int)} {k0 : Int → Int → Int → List (Int × Int) → List (List Int) → List (List Int) → Option R} (hm : m ≤ 8) (hx : es.length ≤ 1048576) (hN : 1048577 ≤ N) :
    spec_l4Sets_l0_0 N k0 N kind (size : Int) 0 (m : Int) es o12 [] = k0 kind (size : Int) (m : Int) es o12 (masksL m fun s => decide (s.length = size ∧ hasK m es kind s)) := by
  have h256 := pow256 hm
  have hpos : 0 < 2 ^ m := Nat.pow_pos (by omega)
  have hsh := shl8i m (by omega)
  have go := loop_iter (L := fun K n o => spec_l4Sets_l0_0 N k0 K kind (size : Int) (n : Int) (m : Int) es o12 o) (k := fun o => k0 kind (size : Int) (m : Int) es o12 o) (Inv := fun n o => o.length ≤ n) (step := fun n o => if decide ((setOf m n).length = size ∧ hasK m es kind (setOf m n)) = true then o ++ [setOf m n] else o) (m := 2 ^ m) (fun K n o hn ho => ?_) (fun K n o hn ho => ?_) (fun n o hn ho => ?_) (K := N) (s := []) (by omega) (Nat.zero_le _)
  · simp only [Int.natCast_zero] at go
    rw [go, iter_map (f := setOf m) (p := fun n => decide ((setOf m n).length = size ∧ hasK m es kind (setOf m n))), List.nil_append]
    rfl
  · simp only [spec_l4Sets_l0_0]
    rw [ile_t (by omega), chk_t, hsh, ilt_nf hn, br_f]
  · have hsl := setOf_len m n
    simp only [spec_l4Sets_l0_0]
    rw [ile_t (by omega), chk_t, hsh, ilt_n hn, br_t, l2Bits_set hm (by omega) hN, bind_some']
    simp only [tLen_n]
    by_cases h1 : (setOf m n).length = size
    · rw [ieq_t (by omega), br_t, l4Has_eq hm hx (by omega) hN, bind_some', wrap_succ (by omega)]
      simp only []
      by_cases h2 : hasK m es kind (setOf m n)
      · rw [decide_eq_true h2, br_t, room_ok (by simp; omega), chk_t, if_pos (decide_eq_true ⟨h1, h2⟩), tApp_d]
      · rw [decide_eq_false h2, br_f, if_neg (by simp [h2])]
    · rw [ieq_f (by omega), br_f, wrap_succ (by omega), if_neg (by simp [h1])]
  · by_cases h : decide ((setOf m n).length = size ∧ hasK m es kind (setOf m n)) = true
    · rw [if_pos h]; simp; omega
    · rw [if_neg h]; omega
theorem l4Sets_eq {N m : Nat} {es : List (Int × Int)} {kind : Int} (hm : m ≤ 8) (hx : es.length ≤ 1048576) (hN : 1048577 ≤ N) :
    ∃ L, spec_l4Sets N ((m : Int), es) kind = some ((L, ()), ()) ∧ L.Pairwise sizeLt ∧ L.length ≤ 2304 ∧ ∀ s, s ∈ L ↔ (∃ a : Nat, a < 2 ^ m ∧ s = setOf m a) ∧ hasK m es kind s := by
  have h256 := pow256 hm
  have go : ∀ (d k K : Nat) (o : List (List Int)), k + d = m + 1 → d < K → o.length ≤ 256 * k → o.Pairwise sizeLt → (∀ s, s ∈ o ↔ ((∃ a : Nat, a < 2 ^ m ∧ s = setOf m a) ∧ hasK m es kind s) ∧ s.length < k) →
      ∃ L, spec_l4Sets_l0 N (fun o7 => some ((o7, ()), ())) K kind (k : Int) (m : Int) es o = some ((L, ()), ()) ∧ L.Pairwise sizeLt ∧ L.length ≤ 2304 ∧ ∀ s, s ∈ L ↔ (∃ a : Nat, a < 2 ^ m ∧ s = setOf m a) ∧ hasK m es kind s := by
    intro d
    induction d with
    | zero =>
      intro k K o hd hK hl hp hm'
      obtain ⟨K, rfl⟩ := succ_of hK
      simp only [spec_l4Sets_l0]
      rw [ile_f (by omega), br_f]
      refine ⟨o, rfl, hp, by omega, fun s => ?_⟩
      rw [hm' s]
      refine ⟨fun h => h.1, fun h => ⟨h, ?_⟩⟩
      obtain ⟨⟨a, _, rfl⟩, _⟩ := h
      have := setOf_len m a
      omega
    | succ d ih =>
      intro k K o hd hK hl hp hm'
      obtain ⟨K, rfl⟩ := succ_of hK
      simp only [spec_l4Sets_l0]
      rw [ile_t (by omega), br_t, l4Sets_in hm hx hN]
      have h1 := masksL_len m fun s => decide (s.length = k ∧ hasK m es kind s)
      obtain ⟨ys, y1, y2, y3⟩ := l2Sorted_eq (N := N) (xs := masksL m fun s => decide (s.length = k ∧ hasK m es kind s)) (by omega) (fun x hx => by
        obtain ⟨⟨a, _, rfl⟩, _⟩ := mem_masksL.1 hx
        have := setOf_len m a
        omega) hN
      have y4 : ∀ s, s ∈ ys ↔ ((∃ a : Nat, a < 2 ^ m ∧ s = setOf m a) ∧ hasK m es kind s) ∧ s.length = k := fun s => by
        rw [y3 s, mem_masksL, decide_eq_true_eq]
        exact ⟨fun ⟨h1, h2, h3⟩ => ⟨⟨h1, h3⟩, h2⟩, fun ⟨⟨h1, h2⟩, h3⟩ => ⟨h1, h3, h2⟩⟩
      have yl : ys.length ≤ 2 ^ m := Nat.le_trans (nodup_leL (lex_nodup y2) fun x hx => (y3 x).1 hx) h1
      rw [y1, bind_some']
      simp only []
      rw [room_ok (by omega), chk_t, wrap_succ (by omega), tApp_d]
      refine ih (k + 1) K (o ++ ys) (by omega) (by omega) (by simp; omega) (List.pairwise_append.2 ⟨hp, y2.imp_of_mem fun {a b} ha hb hab => .inr ⟨by rw [((y4 a).1 ha).2, ((y4 b).1 hb).2], hab⟩, fun a ha b hb => .inl ?_⟩) fun s => ?_
      · have q1 := ((hm' a).1 ha).2
        have q2 := ((y4 b).1 hb).2
        omega
      · rw [List.mem_append, hm' s, y4 s]
        constructor
        · rintro (⟨h1, h2⟩ | ⟨h1, h2⟩)
          · exact ⟨h1, by omega⟩
          · exact ⟨h1, by omega⟩
        · rintro ⟨h1, h2⟩
          by_cases h : s.length = k
          · exact .inr ⟨h1, h⟩
          · exact .inl ⟨h1, by omega⟩
  have := go (m + 1) 0 N [] (by omega) (by omega) (by simp) List.Pairwise.nil (by simp)
  exact this
/-! ### What differs -/
noncomputable def loneL (a b : List Int) : List Int := a.filter fun z => decide (z ∉ b)
theorem lone_len {a b : List Int} (ha : a.Nodup) (hb : b.Nodup) (h : a.length = b.length) : (loneL a b).length = (loneL b a).length := by
  have e1 : (a.filter fun z => decide (z ∈ b)).length = (b.filter fun z => decide (z ∈ a)).length := by
    have : (a.filter fun z => decide (z ∈ b)).Perm (b.filter fun z => decide (z ∈ a)) := by
      refine (List.perm_ext_iff_of_nodup (ha.filter _) (hb.filter _)).2 fun z => ?_
      rw [List.mem_filter, List.mem_filter, decide_eq_true_eq, decide_eq_true_eq]
      exact and_comm
    exact this.length_eq
  have key : ∀ (a b : List Int), (a.filter fun z => decide (z ∈ b)).length + (loneL a b).length = a.length := by
    intro a b
    unfold loneL
    induction a with
    | nil => rfl
    | cons x a ih =>
      by_cases hx : x ∈ b
      · rw [List.filter_cons_of_pos (by simp [hx]), List.filter_cons_of_neg (by simp [hx]), List.length_cons, List.length_cons]; omega
      · rw [List.filter_cons_of_neg (by simp [hx]), List.filter_cons_of_pos (by simp [hx]), List.length_cons, List.length_cons]; omega
  have k1 := key a b
  have k2 := key b a
  omega
theorem l4Lone_eq {N : Nat} {a b : List Int} (ha : a.length ≤ 1048576) (hb : b.length ≤ 1048576) (hN : 1048577 ≤ N) : spec_l4Lone N a b = some ((loneL a b, ()), ()) := by
  unfold spec_l4Lone
  have key := loop_list (xs := a) (L := fun K n o => spec_l4Lone_l0 N (fun o => some ((o, ()), ())) K a b (n : Int) o) (k := fun o => some ((o, ()), ())) (fun (o : List Int) z => if decide (z ∉ b) = true then o ++ [z] else o) (fun n o => o = (a.take n).filter fun z => decide (z ∉ b)) (fun K n o hn ho => ?_) (fun K n o hn ho => ?_) (fun n o hn ho => ?_) (s := []) (K := N) (by omega) (by simp)
  · obtain ⟨h1, h2⟩ := key
    simp only [Int.natCast_zero] at h1
    rw [h1, h2, List.take_length]
    rfl
  · simp only [spec_l4Lone_l0, ilt_lenf hn, br_f]
  · have hol : o.length ≤ n := by
      rw [ho]
      exact Nat.le_trans (List.length_filter_le ..) (by simp; omega)
    simp only [spec_l4Lone_l0, ilt_len hn, br_t, inb_n hn, chk_t, rdI_n hn, l1Has_eq hb hN, bind_some']
    rw [wrap_succ (by omega)]
    by_cases h : a[n] ∈ b
    · rw [decide_eq_true h]
      simp only [Bool.not_true, br_f]
      rw [if_neg (by simp [h])]
    · rw [decide_eq_false h]
      simp only [Bool.not_false, br_t]
      rw [room_ok (by simp; omega), chk_t, tApp_d, if_pos (by simp [h])]
  · rw [List.take_add_one, List.getElem?_eq_getElem hn, Option.toList_some, List.filter_append, ← ho]
    by_cases h : a[n] ∈ b
    · rw [if_neg (by simp [h]), List.filter_cons_of_neg (by simp [h])]; simp
    · rw [if_pos (by simp [h]), List.filter_cons_of_pos (by simp [h])]; rfl
theorem asc_ext {a b : List Int} (ha : a.Pairwise (· < ·)) (hb : b.Pairwise (· < ·)) (h : ∀ z, z ∈ a ↔ z ∈ b) : a = b := by
  have na : a.Nodup := ha.imp fun h e => by omega
  have nb : b.Nodup := hb.imp fun h e => by omega
  have hp := (List.perm_ext_iff_of_nodup na nb).2 h
  clear h na nb
  induction a generalizing b with
  | nil => exact (List.nil_perm.1 hp).symm
  | cons x a ih =>
    cases b with
    | nil => exact absurd (List.perm_nil.1 hp) (by simp)
    | cons y b =>
      obtain ⟨a1, a2⟩ := List.pairwise_cons.1 ha
      obtain ⟨b1, b2⟩ := List.pairwise_cons.1 hb
      have e : x = y := by
        have h1 : x ∈ y :: b := hp.mem_iff.1 (List.mem_cons_self ..)
        have h2 : y ∈ x :: a := hp.mem_iff.2 (List.mem_cons_self ..)
        rcases List.mem_cons.1 h1 with h1 | h1
        · exact h1
        · rcases List.mem_cons.1 h2 with h2 | h2
          · exact h2.symm
          · have := a1 y h2
            have := b1 x h1
            omega
      subst e
      rw [ih a2 b2 (List.Perm.cons_inv hp)]
theorem bagOf_set {N m A : Nat} (hm : m ≤ 8) (hA : A < 2 ^ m) (hN : 1048577 ≤ N) : impl_bagOf N (setOf m A) = some (((A : Int), ()), ()) := by
  have h256 := pow256 hm
  have hsl := setOf_len m A
  obtain ⟨q, q1, q2, q3⟩ := bagOf_eq (N := N) (xs := setOf m A) (fun y hy => by obtain ⟨i, hi, _, rfl⟩ := mem_setOf.1 hy; omega) (by omega) hN
  have : q = A := by
    refine Nat.eq_of_testBit_eq fun i => ?_
    have h1 := q3 i
    rw [mem_setN] at h1
    by_cases hi : i < m
    · cases h2 : q.testBit i <;> cases h3 : A.testBit i <;> simp_all
    · rw [bit_out hA (by omega)]
      cases h2 : q.testBit i with
      | false => rfl
      | true => have := (h1.1 h2).1; omega
  rw [q1, this]
theorem less_set {m A B : Nat} (hm : m ≤ 8) (hA : A < 2 ^ m) (hB : B < 2 ^ m) : ∃ c : Nat, bitop .andNot .u64 (A : Int) (B : Int) = (c : Int) ∧ c < 2 ^ m ∧ setOf m c = loneL (setOf m A) (setOf m B) := by
  have h256 := pow256 hm
  obtain ⟨c, c1, c2, c3⟩ := lessN (a := A) (b := B) (by omega) (by omega)
  have hc : c < 2 ^ m := Nat.lt_pow_two_of_testBit _ fun i hi => by rw [c3 i, bit_out hA hi]; rfl
  refine ⟨c, c1, hc, asc_ext (setOf_strict m c) ((setOf_strict m A).filter _) fun z => ?_⟩
  unfold loneL
  rw [List.mem_filter, decide_eq_true_eq]
  constructor
  · intro hz
    obtain ⟨i, h1, h2, rfl⟩ := mem_setOf.1 hz
    rw [c3 i, Bool.and_eq_true] at h2
    refine ⟨mem_setN.2 ⟨h1, h2.1⟩, fun h => ?_⟩
    have := (mem_setN.1 h).2
    rw [this] at h2
    exact absurd h2.2 (by simp)
  · rintro ⟨h1, h2⟩
    obtain ⟨i, h3, h4, rfl⟩ := mem_setOf.1 h1
    refine mem_setN.2 ⟨h3, ?_⟩
    rw [c3 i, h4]
    cases h5 : B.testBit i with
    | false => rfl
    | true => exact absurd (mem_setN.2 ⟨h3, h5⟩) h2
theorem moves_eq {N m A B : Nat} (hm : m ≤ 8) (hA : A < 2 ^ m) (hB : B < 2 ^ m) (hN : 1048577 ≤ N) : ∃ x y : Nat, impl_moves N (setOf m A) (setOf m B) = some (((x : Int), (y : Int), ()), ()) ∧ x < 2 ^ m ∧ y < 2 ^ m ∧ setOf m x = loneL (setOf m A) (setOf m B) ∧ setOf m y = loneL (setOf m B) (setOf m A) := by
  obtain ⟨x, x1, x2, x3⟩ := less_set hm hA hB
  obtain ⟨y, y1, y2, y3⟩ := less_set hm hB hA
  refine ⟨x, y, ?_, x2, y2, x3, y3⟩
  unfold impl_moves
  rw [bagOf_set hm hA hN, bagOf_set hm hB hN, bind_some', bind_some']
  simp only []
  rw [x1, y1]
noncomputable def exP (es : List (Int × Int)) (near : Bool) (a b : List Int) : Bool := decide ((loneL a b).length = 1) && (!near || decide (nearG es (rdI (loneL a b) 0) (rdI (loneL b a) 0)))
theorem setOf_nodup (m a : Nat) : (setOf m a).Nodup := (setOf_strict m a).imp fun h e => by omega
theorem isJump_eq {N m A B : Nat} {es : List (Int × Int)} (hm : m ≤ 8) (hA : A < 2 ^ m) (hB : B < 2 ^ m) (hl : (setOf m A).length = (setOf m B).length) (hN : 1048577 ≤ N) : impl_isJump N (setOf m A) (setOf m B) = some ((exP es false (setOf m A) (setOf m B), ()), ()) := by
  obtain ⟨x, y, h1, x1, y1, x2, y2⟩ := moves_eq hm hA hB hN
  have hll := lone_len (setOf_nodup m A) (setOf_nodup m B) hl
  unfold impl_isJump exP
  rw [h1, bind_some']
  simp only []
  rw [bag_size_eq hm x1, bag_size_eq hm y1, bind_some', bind_some', x2, y2]
  simp only [Bool.not_false, Bool.true_or, Bool.and_true]
  by_cases h : (loneL (setOf m A) (setOf m B)).length = 1
  · rw [ieq_t (by omega), br_t, ieq_t (by omega), decide_eq_true h]
  · rw [ieq_f (by omega), br_f, decide_eq_false h]
theorem filt_rows {R : Type} {N : Nat} {L : List (List Int)} {c2 : Nat} {c3 : Bool} {m : Int} {es : List (Int × Int)} {k0 : Bool → Int → List (Int × Int) → List (List Int) → Option R} (hL : L.length ≤ 1048576) (hN : 1048577 ≤ N) :
    spec_l4Exchange_l0 N k0 N (c2 : Int) c3 L 0 m es [] = k0 c3 m es (L.filter fun s => decide (s.length = c2)) := by
  have key := loop_list (xs := L) (L := fun K n o => spec_l4Exchange_l0 N k0 K (c2 : Int) c3 L (n : Int) m es o) (k := fun o => k0 c3 m es o) (fun (o : List (List Int)) z => if decide (z.length = c2) = true then o ++ [z] else o) (fun n o => o = (L.take n).filter fun s => decide (s.length = c2)) (fun K n o hn ho => ?_) (fun K n o hn ho => ?_) (fun n o hn ho => ?_) (s := []) (K := N) (by omega) (by simp)
  · obtain ⟨h1, h2⟩ := key
    simp only [Int.natCast_zero] at h1
    rw [h1, h2, List.take_length]
  · simp only [spec_l4Exchange_l0, ilt_lenf hn, br_f]
  · have hol : o.length ≤ n := by
      rw [ho]
      exact Nat.le_trans (List.length_filter_le ..) (by simp; omega)
    simp only [spec_l4Exchange_l0, ilt_len hn, br_t, inb_n hn, chk_t, rdL_n hn]
    rw [tLen_n]
    rw [wrap_succ (by omega)]
    by_cases h : L[n].length = c2
    · rw [ieq_t (by omega), br_t, room_ok (by simp; omega), chk_t, tApp_d, if_pos (decide_eq_true h)]
    · rw [ieq_f (by omega), br_f, if_neg (by simp [h])]
  · rw [List.take_add_one, List.getElem?_eq_getElem hn, Option.toList_some, List.filter_append, ← ho]
    by_cases h : L[n].length = c2
    · rw [if_pos (by simp [h]), List.filter_cons_of_pos (by simp [h])]; rfl
    · rw [if_neg (by simp [h]), List.filter_cons_of_neg (by simp [h])]; simp
theorem ex_loop {N : Nat} {m : Int} {es : List (Int × Int)} {near : Bool} {xs : List (List Int)} (hes : es.length ≤ 1048576) (hr : ∀ a ∈ xs, a.length ≤ 1048576) (hq : ∀ a ∈ xs, ∀ b ∈ xs, (loneL a b).length = (loneL b a).length) (hx : xs.length < 1024) (hN : 1048577 ≤ N) :
    spec_l4Exchange_l1 N (fun o6 o7 => some (((o6, o7), ()), ())) N near 0 m es xs [] = some (((xs, stepsL (exP es near) xs), ()), ()) := by
  have hrd : ∀ j : Nat, j < xs.length → rdL xs (j : Int) ∈ xs := fun j hj => by rw [rdL_n hj]; exact List.getElem_mem hj
  have inner : ∀ (d i j K : Nat) (o : List (Int × Int)) (k0 : Bool → Int → Int → List (Int × Int) → List (List Int) → List (Int × Int) → Option (((List (List Int) × List (Int × Int)) × Unit) × Unit)), i < xs.length → j + d = xs.length → d < K → o.length + d ≤ 1099511627776 →
      spec_l4Exchange_l1_0 N k0 K near (i : Int) (j : Int) m es xs o = k0 near (i : Int) m es xs (o ++ ((List.range' j d).filter fun j : Nat => exP es near (rdL xs (i : Int)) (rdL xs (j : Int))).map fun j : Nat => ((i : Int), (j : Int))) := by
    intro d
    induction d with
    | zero =>
      intro i j K o k0 hi hj hK ho
      obtain ⟨k, rfl⟩ := succ_of hK
      simp only [spec_l4Exchange_l1_0, ilt_lenf (show ¬ j < xs.length by omega), br_f]
      simp
    | succ d ih =>
      intro i j K o k0 hi hj hK ho
      obtain ⟨k, rfl⟩ := succ_of hK
      have hj' : j < xs.length := by omega
      have ra := hr _ (hrd i hi)
      have rb := hr _ (hrd j hj')
      have hqq := hq _ (hrd i hi) _ (hrd j hj')
      simp only [spec_l4Exchange_l1_0, ilt_len hj', br_t, inb_n hi, inb_n hj', chk_t]
      rw [l4Lone_eq ra rb hN, l4Lone_eq rb ra hN, bind_some', bind_some', room_ok (by simp; omega), chk_t, wrap_succ (by omega), tApp_d, List.range'_succ]
      simp only [tLen_n]
      have yes : exP es near (rdL xs (i : Int)) (rdL xs (j : Int)) = true → spec_l4Exchange_l1_0 N k0 k near (i : Int) ((j + 1 : Nat) : Int) m es xs (o ++ [((i : Int), (j : Int))]) = k0 near (i : Int) m es xs (o ++ ((j :: List.range' (j + 1) d).filter fun j : Nat => exP es near (rdL xs (i : Int)) (rdL xs (j : Int))).map fun j : Nat => ((i : Int), (j : Int))) := fun hb => by
        rw [ih i (j + 1) k _ k0 hi (by omega) (by omega) (by simp; omega), List.filter_cons_of_pos (by exact hb), List.append_assoc]
        rfl
      have nay : exP es near (rdL xs (i : Int)) (rdL xs (j : Int)) = false → spec_l4Exchange_l1_0 N k0 k near (i : Int) ((j + 1 : Nat) : Int) m es xs o = k0 near (i : Int) m es xs (o ++ ((j :: List.range' (j + 1) d).filter fun j : Nat => exP es near (rdL xs (i : Int)) (rdL xs (j : Int))).map fun j : Nat => ((i : Int), (j : Int))) := fun hb => by
        rw [ih i (j + 1) k _ k0 hi (by omega) (by omega) (by omega), List.filter_cons_of_neg (by rw [hb]; simp)]
      by_cases h1 : (loneL (rdL xs (i : Int)) (rdL xs (j : Int))).length = 1
      · rw [ieq_t (by omega), br_t]
        cases near with
        | false =>
          simp only [Bool.not_false, br_t]
          exact yes (by unfold exP; rw [decide_eq_true h1]; rfl)
        | true =>
          simp only [Bool.not_true, br_f]
          have i1 : inb (loneL (rdL xs (i : Int)) (rdL xs (j : Int))) 0 = true := inb_n (n := 0) (by omega)
          have i2 : inb (loneL (rdL xs (j : Int)) (rdL xs (i : Int))) 0 = true := inb_n (n := 0) (by omega)
          rw [i1, chk_t, i2, chk_t, l2Near_eq (g := (m, es)) hes hN, bind_some']
          simp only []
          by_cases h2 : nearG es (rdI (loneL (rdL xs (i : Int)) (rdL xs (j : Int))) 0) (rdI (loneL (rdL xs (j : Int)) (rdL xs (i : Int))) 0)
          · rw [decide_eq_true h2, br_t]
            exact yes (by unfold exP; rw [decide_eq_true h1, decide_eq_true h2]; rfl)
          · rw [decide_eq_false h2, br_f]
            exact nay (by unfold exP; rw [decide_eq_true h1, decide_eq_false h2]; rfl)
      · rw [ieq_f (by omega), br_f]
        exact nay (by unfold exP; rw [decide_eq_false h1]; rfl)
  have go : ∀ (d i K : Nat) (o : List (Int × Int)), i + d = xs.length → d < K → o.length ≤ i * xs.length →
      spec_l4Exchange_l1 N (fun o6 o7 => some (((o6, o7), ()), ())) K near (i : Int) m es xs o = some (((xs, o ++ (List.range' i d).flatMap (rowSteps (exP es near) xs)), ()), ()) := by
    intro d
    induction d with
    | zero =>
      intro i K o hd hK ho
      obtain ⟨k, rfl⟩ := succ_of hK
      simp only [spec_l4Exchange_l1, ilt_lenf (show ¬ i < xs.length by omega), br_f]
      simp
    | succ d ih =>
      intro i K o hd hK ho
      obtain ⟨k, rfl⟩ := succ_of hK
      have hi : i < xs.length := by omega
      have hmul : i * xs.length ≤ 1024 * 1024 := Nat.mul_le_mul (by omega) (by omega)
      simp only [spec_l4Exchange_l1, ilt_len hi, br_t]
      rw [wrap_succ (by omega)]
      have h1 := inner (xs.length - (i + 1)) i (i + 1) N o (fun x7 x8 o10 o11 o12 o13 => spec_l4Exchange_l1 N (fun o6 o7 => some (((o6, o7), ()), ())) k x7 (IntKind.i64.wrap (x8 + 1)) o10 o11 o12 o13) hi (by omega) (by omega) (by omega)
      rw [h1, wrap_succ (by omega)]
      have h2 := rowSteps_len (exP es near) xs i
      have h3 := ih (i + 1) k (o ++ rowSteps (exP es near) xs i) (by omega) (by omega) (by rw [List.length_append, Nat.add_mul, Nat.one_mul]; omega)
      rw [List.append_assoc] at h3
      rw [List.range'_succ, List.flatMap_cons]
      exact h3
  have := go xs.length 0 N [] (by omega) (by omega) (Nat.zero_le _)
  exact this
def ExSt (m : Nat) (es : List (Int × Int)) (kind : Int) (k : Nat) (ys : List (List Int)) : Prop := lexSorted ys ∧ ∀ s, s ∈ ys ↔ (∃ a : Nat, a < 2 ^ m ∧ s = setOf m a) ∧ hasK m es kind s ∧ s.length = k
theorem lex_small {m : Nat} {ys : List (List Int)} (hs : lexSorted ys) (h : ∀ s ∈ ys, ∃ a : Nat, a < 2 ^ m ∧ s = setOf m a) : ys.length ≤ 2 ^ m := by
  have := nodup_leL (lex_nodup hs) (b := masksL m fun _ => true) fun x hx => mem_masksL.2 ⟨h x hx, rfl⟩
  exact Nat.le_trans this (masksL_len ..)
theorem l4Ex_eq {N m : Nat} {es : List (Int × Int)} {kind : Int} {k : Nat} {near : Bool} (hm : m ≤ 8) (hx : es.length ≤ 1048576) (hN : 1048577 ≤ N) : ∃ ys, ExSt m es kind k ys ∧ spec_l4Exchange N ((m : Int), es) kind (k : Int) near = some (((ys, stepsL (exP es near) ys), ()), ()) := by
  have h256 := pow256 hm
  obtain ⟨L, l1, l2, l3, l4⟩ := l4Sets_eq (kind := kind) hm hx hN
  have hLr : ∀ x ∈ L.filter (fun s => decide (s.length = k)), x.length ≤ 1048576 := fun x hx => by
    obtain ⟨⟨a, _, rfl⟩, _⟩ := (l4 x).1 (List.mem_filter.1 hx).1
    have := setOf_len m a
    omega
  have hLl := List.length_filter_le (fun s : List Int => decide (s.length = k)) L
  obtain ⟨ys, y1, y2, y3⟩ := l2Sorted_eq (N := N) (xs := L.filter fun s => decide (s.length = k)) (by omega) hLr hN
  have hst : ExSt m es kind k ys := ⟨y2, fun s => by rw [y3 s, List.mem_filter, l4 s, decide_eq_true_eq, and_assoc]⟩
  have hsm := lex_small y2 fun s hs => ((hst.2 s).1 hs).1
  refine ⟨ys, hst, ?_⟩
  unfold spec_l4Exchange
  simp only []
  rw [l1, bind_some']
  simp only []
  rw [filt_rows (by omega) hN, y1, bind_some']
  simp only []
  refine ex_loop hx (fun a ha => hLr a ((y3 a).1 ha)) (fun a ha b hb => ?_) (by omega) hN
  obtain ⟨⟨A, _, rfl⟩, _, h1⟩ := (hst.2 a).1 ha
  obtain ⟨⟨B, _, rfl⟩, _, h2⟩ := (hst.2 b).1 hb
  exact lone_len (setOf_nodup m A) (setOf_nodup m B) (by omega)
theorem exactly_eq {N m : Nat} {es : List (Int × Int)} {kind : Int} {k : Nat} {ys : List (List Int)} (hm : m ≤ 8) (hg : goodG ((m : Int), es)) (hx : es.length ≤ 1048576) (hst : ExSt m es kind k ys) (hN : 1048577 ≤ N) : impl_Graph_exactly N ((m : Int), es) kind (k : Int) = some ((ys, ()), ()) := by
  unfold impl_Graph_exactly
  simp only []
  rw [sets_eq (p := fun s => decide (hasK m es kind s ∧ s.length = k)) hm (fun a ha => ?_) hst.1 (fun s => by rw [hst.2 s, decide_eq_true_eq]) hN, bind_some']
  unfold impl_Graph_exactly_c1
  rw [bag_size_eq hm ha, bind_some']
  simp only []
  by_cases h1 : (setOf m a).length = k
  · rw [ieq_t (by omega), br_t, hasKind_eq hm ha hg hx hN, bind_some', bind_some']
    congr 1
    exact decide_eq_decide.2 ⟨fun h => ⟨h, h1⟩, fun h => h.1⟩
  · rw [ieq_f (by omega), br_f, decide_eq_false (fun h => h1 h.2)]
    rfl
def thrCase (g : Int × List (Int × Int)) (kind k : Int) : Prop := goodG g ∧ (1 ≤ kind ∧ kind ≤ 3) ∧ 0 ≤ k ∧ k ≤ g.1
theorem isThr_eq {N : Nat} {g : Int × List (Int × Int)} {kind k : Int} (hx : g.2.length ≤ 1048576) (hN : 1048577 ≤ N) : impl_isThreshold N g kind k = some ((decide (thrCase g kind k), ()), ()) := by
  unfold impl_isThreshold impl_isKind thrCase
  simp only [show ((g.1, g.2) : Int × List (Int × Int)) = g from rfl, IsGraph_eq hx hN, between_eq, bind_some']
  by_cases h : goodG g
  · rw [decide_eq_true h, br_t]
    by_cases h2 : 1 ≤ kind ∧ kind ≤ 3
    · rw [decide_eq_true h2, br_t]; simp [h, h2]
    · rw [decide_eq_false h2, br_f]; simp [h2]
  · rw [decide_eq_false h, br_f]; simp [h]
theorem risingP {m : Nat} {s : List Int} (h : rising 0 ((m : Int) - 1) s) : s.Pairwise (· < ·) := rising_strict h
theorem risingN {m : Nat} {s : List Int} (h : rising 0 ((m : Int) - 1) s) : ∀ z ∈ s, InN m z := fun z hz => by
  have := rising_in h z hz
  exact ⟨this.1, by omega⟩
theorem rising_set {m : Nat} {s : List Int} (hm : m ≤ 8) (h : rising 0 ((m : Int) - 1) s) : ∃ A : Nat, A < 2 ^ m ∧ s = setOf m A := by
  have hin := risingN h
  have hnd : s.Nodup := (risingP h).imp fun h e => by omega
  have hl : s.length ≤ m := by
    have := nodup_le hnd (b := (List.range' 0 m).map fun i : Nat => (i : Int)) fun z hz => by
      obtain ⟨k, hk, rfl⟩ := nat_of (hin z hz)
      exact List.mem_map.2 ⟨k, List.mem_range'_1.2 (by omega), rfl⟩
    simpa using this
  obtain ⟨q, q1, q2, q3⟩ := bagOf_eq (N := 1048577) (xs := s) (fun y hy => by have := hin y hy; unfold InN at this; omega) (by omega) (Nat.le_refl _)
  have hq : ∀ i, m ≤ i → q.testBit i = false := fun i hi => by
    refine Bool.eq_false_iff.2 fun h => ?_
    have := hin _ ((q3 i).1 h)
    unfold InN at this
    omega
  have hq2 : q < 2 ^ m := Nat.lt_pow_two_of_testBit q hq
  refine ⟨q, hq2, asc_ext (risingP h) (setOf_strict m q) fun z => ?_⟩
  constructor
  · intro hz
    obtain ⟨k, hk, rfl⟩ := nat_of (hin z hz)
    exact mem_setN.2 ⟨hk, (q3 k).2 hz⟩
  · intro hz
    obtain ⟨k, hk, hb, rfl⟩ := mem_setOf.1 hz
    exact (q3 k).1 hb
def ofK (g : Int × List (Int × Int)) (kind : Int) (s : List Int) : Prop := (goodG g ∧ 1 ≤ kind ∧ kind ≤ 3) ∧ rising 0 (g.1 - 1) s ∧ hasK g.1.toNat g.2 kind s
theorem l4Good_eq {N : Nat} {g : Int × List (Int × Int)} {kind : Int} (hx : g.2.length ≤ 1048576) (hN : 1048577 ≤ N) : spec_l4Good N g kind = some ((decide (goodG g ∧ 1 ≤ kind ∧ kind ≤ 3), ()), ()) := by
  unfold spec_l4Good spec_l4Kind
  simp only [show ((g.1, g.2) : Int × List (Int × Int)) = g from rfl, l2Good_eq hx hN, l1In_eq, bind_some']
  by_cases h : goodG g
  · rw [decide_eq_true h, br_t]; simp [h]
  · rw [decide_eq_false h, br_f]; simp [h]
theorem l4One_eq {N : Nat} {g : Int × List (Int × Int)} {kind : Int} {s : List Int} (hx : g.2.length ≤ 1048576) (hs : s.length ≤ 1048576) (hN : 1048577 ≤ N) : spec_l4One N g kind s = some ((decide (ofK g kind s), ()), ()) := by
  unfold spec_l4One spec_HasKind spec_l2Set
  simp only [show ((g.1, g.2) : Int × List (Int × Int)) = g from rfl]
  rw [l4Good_eq hx hN, bind_some']
  by_cases h : goodG g ∧ 1 ≤ kind ∧ kind ≤ 3
  · have hg1 := h.1.1
    rw [decide_eq_true h]
    simp only [Bool.not_true, br_f]
    rw [wrap_ok (by omega) (by omega), l1Rising_eq hs hN, bind_some', bind_some']
    by_cases h2 : rising 0 (g.1 - 1) s
    · rw [decide_eq_true h2]
      simp only [Bool.not_true, br_f]
      obtain ⟨m, hm⟩ : ∃ m : Nat, g.1 = (m : Int) := ⟨g.1.toNat, by omega⟩
      obtain ⟨g1, es⟩ := g
      simp only [] at hm hx hg1 ⊢
      subst hm
      rw [l4Has_eq (by omega) hx hs hN, bind_some', bind_some']
      by_cases h3 : hasK m es kind s
      · rw [decide_eq_true h3, br_t, decide_eq_true (show ofK ((m : Int), es) kind s from ⟨h, h2, h3⟩)]
      · rw [decide_eq_false h3, br_f, decide_eq_false (fun q : ofK ((m : Int), es) kind s => h3 q.2.2)]
    · rw [decide_eq_false h2, decide_eq_false (fun q : ofK g kind s => h2 q.2.1)]
      rfl
  · rw [decide_eq_false h, decide_eq_false (fun q : ofK g kind s => h q.1)]
    rfl
theorem isOfKind_eq {N : Nat} {g : Int × List (Int × Int)} {kind : Int} {s : List Int} (hx : g.2.length ≤ 1048576) (hs : s.length ≤ 1048576) (hN : 1048577 ≤ N) : impl_isOfKind N g kind s = some ((decide (ofK g kind s), ()), ()) := by
  unfold impl_isOfKind impl_HasKind impl_isSetCase impl_isKind
  simp only [show ((g.1, g.2) : Int × List (Int × Int)) = g from rfl]
  rw [IsGraph_eq hx hN, bind_some']
  by_cases h : goodG g
  · have hg1 := h.1
    rw [decide_eq_true h, br_t]
    simp only [between_eq, bind_some']
    by_cases hk : 1 ≤ kind ∧ kind ≤ 3
    · rw [decide_eq_true hk, br_t, isRising_eq hs (by omega) hN, bind_some', bind_some']
      by_cases h2 : rising 0 (g.1 - 1) s
      · rw [decide_eq_true h2]
        simp only [Bool.not_true, br_f]
        obtain ⟨m, hm⟩ : ∃ m : Nat, g.1 = (m : Int) := ⟨g.1.toNat, by omega⟩
        obtain ⟨g1, es⟩ := g
        simp only [] at hm hx hg1 ⊢
        subst hm
        obtain ⟨A, hA, rfl⟩ := rising_set (by omega) h2
        rw [bagOf_set (by omega) hA hN, bind_some']
        simp only []
        rw [hasKind_eq (by omega) hA h hx hN, bind_some', bind_some']
        congr 3
        exact decide_eq_decide.2 ⟨fun q => ⟨⟨h, hk⟩, h2, q⟩, fun q => q.2.2⟩
      · rw [decide_eq_false h2, decide_eq_false (fun q : ofK g kind s => h2 q.2.1)]
        rfl
    · rw [decide_eq_false hk, decide_eq_false (fun q : ofK g kind s => hk q.1.2)]
      rfl
  · rw [decide_eq_false h, decide_eq_false (fun q : ofK g kind s => h q.1.1)]
    rfl
theorem ExWay_both {N : Nat} {g : Int × List (Int × Int)} {kind : Int} {a b : List Int} (hx : g.2.length ≤ 1048576) (ha : a.length ≤ 1048576) (hb : b.length ≤ 1048576) (hN : 1048577 ≤ N) :
    ∃ v : List (List Int) × Bool, (v.1.length ≤ 256 ∧ ∀ x ∈ v.1, x.length ≤ 8) ∧ spec_ExchangeWay N g kind a b = some ((v.1, v.2, ()), ()) ∧ impl_ExchangeWay N g kind a b = some ((v.1, v.2, ()), ()) := by
  unfold spec_ExchangeWay impl_ExchangeWay
  simp only [show ((g.1, g.2) : Int × List (Int × Int)) = g from rfl]
  rw [l4One_eq hx ha hN, isOfKind_eq hx ha hN, bind_some', bind_some']
  by_cases h1 : ofK g kind a
  · rw [decide_eq_true h1]
    simp only [Bool.not_true, br_f]
    rw [l4One_eq hx hb hN, isOfKind_eq hx hb hN, bind_some', bind_some']
    by_cases h2 : ofK g kind b
    · rw [decide_eq_true h2]
      simp only [Bool.not_true, br_f]
      rw [tLen_n, tLen_n]
      by_cases h3 : a.length = b.length
      · rw [ine_f (by omega), br_f, br_f]
        obtain ⟨⟨hg, hk⟩, ha2, ha3⟩ := h1
        obtain ⟨_, hb2, hb3⟩ := h2
        have hg1 := hg.1
        obtain ⟨m, hm⟩ : ∃ m : Nat, g.1 = (m : Int) := ⟨g.1.toNat, by omega⟩
        obtain ⟨g1, es⟩ := g
        simp only [] at hm hx hg1 ha2 ha3 hb2 hb3
        subst hm
        simp only [Int.toNat_natCast] at ha3 hb3
        have hed : ∀ e ∈ es, e.1 < e.2 := fun e he => (goodG_edges hg e he).2.1
        obtain ⟨ys, y1, y2⟩ := l4Ex_eq (near := false) (kind := kind) (k := a.length) (m := m) (by omega) hx hN
        have y3 := exactly_eq (by omega) hg hx y1 hN
        have hin : ∀ s ∈ ys, ∃ a : Nat, a < 2 ^ m ∧ s = setOf m a := fun s hs => ((y1.2 s).1 hs).1
        have hsm := lex_small y1.1 hin
        have h256 := pow256 (m := m) (by omega)
        have hay : a ∈ ys := (y1.2 a).2 ⟨rising_set (by omega) ha2, ha3, rfl⟩
        have hby : b ∈ ys := (y1.2 b).2 ⟨rising_set (by omega) hb2, hb3, h3.symm⟩
        have hal : a.length ≤ m := by obtain ⟨A, _, e⟩ := hin a hay; have := setOf_len m A; rw [← e] at this; exact this
        have hrow : ∀ x ∈ ys, x.length ≤ 1048576 := fun x hx => by obtain ⟨A, _, rfl⟩ := hin x hx; have := setOf_len m A; omega
        have hsl := stepsL_len (exP es false) ys
        have h65 : ys.length * ys.length ≤ 256 * 256 := Nat.mul_le_mul (by omega) (by omega)
        have hsk : (stepsL (exP es false) ys).length ≤ 1048576 := by omega
        have hw1 := wayI_len (xs := ys) (st := stepsL (exP es false) ys) (i := ys.idxOf a) (j := ys.idxOf b) (by omega) stepsL_ok (idx_lt hay) (idx_lt hby)
        have hE : impl_ExchangeSpace N ((m : Int), es) kind (a.length : Int) = some (((ys, stepsL (exP es false) ys), true, ()), ()) := by
          unfold impl_ExchangeSpace
          simp only []
          rw [isThr_eq hx hN, bind_some', decide_eq_true (show thrCase ((m : Int), es) kind (a.length : Int) from ⟨hg, hk, by omega, by simp only []; omega⟩)]
          simp only [Bool.not_true, br_f]
          rw [y3, bind_some']
          simp only []
          rw [spaceOf_g (xs := ys) (p := exP es false) (SortFunc_rows (by omega) hrow (lex_nodup y1.1) y1.1 (fun _ => Iff.rfl) hN) y1.1 (by omega) (fun a ha b hb _ => ?_) hN, bind_some']
          obtain ⟨⟨A, hA, rfl⟩, _, h1⟩ := (y1.2 a).1 ha
          obtain ⟨⟨B, hB, rfl⟩, _, h2⟩ := (y1.2 b).1 hb
          show (impl_isJump N _ _).bind _ = _
          rw [isJump_eq (es := es) (by omega) hA hB (by omega) hN]
          rfl
        refine ⟨(wayS ys (stepsL (exP es false) ys) a b, decide (wayS ys (stepsL (exP es false) ys) a b ≠ [])), ⟨Nat.le_trans (wayS_len (by omega) stepsL_ok hay hby) (by omega), fun x hx => ?_⟩, ?_, ?_⟩
        · obtain ⟨A, _, rfl⟩ := hin x (wayS_in (by omega) stepsL_ok hay hby x hx)
          have := setOf_len m A
          omega
        · simp only []
          rw [y2, bind_some']
          simp only []
          rw [index_in (by omega) hrow hay hN, index_in (by omega) hrow hby hN, bind_some', bind_some']
          simp only []
          rw [l2Walk_eq (by omega) hsk stepsL_ok (idx_lt hay) (idx_lt hby) hN, bind_some']
          simp only []
          rw [named_eq hrow (wayI_in (by omega) stepsL_ok (idx_lt hay) (idx_lt hby)) (by omega) hN, bind_some', tLen_n]
          congr 3
          unfold wayS
          cases wayI ys (stepsL (exP es false) ys) (ys.idxOf a) (ys.idxOf b) with
          | nil => rfl
          | cons z l => rw [ilt_t (by rw [List.length_cons]; omega)]; simp
        · simp only []
          rw [hE, bind_some']
          simp only []
          rw [walk_eq y1.1 hrow (by omega) hsk stepsL_ok hay hby hN, bind_some']
      · rw [ine_t (by omega), br_t, br_t]
        exact ⟨([], false), by simp, rfl, rfl⟩
    · rw [decide_eq_false h2]
      exact ⟨([], false), by simp, rfl, rfl⟩
  · rw [decide_eq_false h1]
    exact ⟨([], false), by simp, rfl, rfl⟩
theorem ExchangeWay_pure {g : Int × List (Int × Int)} {k : Int} {a b : List Int} (hx : g.2.length ≤ 9223372036854775807) : laws_FnExactExchangeWay 1048577 g k a b = some ((true, ()), ()) := by
  unfold laws_FnExactExchangeWay
  have hN : 1048577 ≤ 1048577 := Nat.le_refl _
  rw [tLen_n, tLen_n]
  by_cases ha : a.length ≤ 1048576
  · rw [ilt_f (by omega), br_f]
    by_cases hb : b.length ≤ 1048576
    · rw [ilt_f (by omega), br_f]
      obtain ⟨r, h1, h2⟩ := szGraph_eq (N := 1048577) hx
      simp only [h1, bind_some']
      by_cases h : 0 ≤ r
      · rw [ilt_f (by omega), br_f]
        have h3 := h2 h
        obtain ⟨v, ⟨c1, c2⟩, e1, e2⟩ := ExWay_both (N := 1048577) (kind := k) h3 ha hb hN
        have k0 : (0 : Int) ≤ 1 ∧ (1 : Int) ≤ 1152921504606846976 := by omega
        have c3 : ∀ x ∈ v.1, x.length ≤ 1048576 := fun x hx => by have := c2 x hx; omega
        have c4 := sumL_le c3
        obtain ⟨g', hmk⟩ := markGraph_eq (N := 1048577) k0 h3 hN
        have k1 : (0 : Int) ≤ 1 + 2 * (g.2.length : Int) ∧ 1 + 2 * (g.2.length : Int) ≤ 2305843009213693952 := by omega
        have k2 : (0 : Int) ≤ 1 + 2 * (g.2.length : Int) + (a.length : Int) ∧ 1 + 2 * (g.2.length : Int) + (a.length : Int) ≤ 2305843009213693952 := by omega
        simp only [toGraph_eq h3 hN, toIntS_eq ha hN, toIntS_eq hb hN, bind_some', e1, e2, eqGraph_eq h3 hN, eqIntS_eq (show a.length ≤ 1099511627776 by omega) (show a.length < 1048577 by omega), eqIntS_eq (show b.length ≤ 1099511627776 by omega) (show b.length < 1048577 by omega), eqIntSS_eq (show v.1.length ≤ 1048576 by omega) c3 hN, decide_true, Bool.not_true, br_f, hmk,
          markIntS_eq k1 ha hN, markIntS_eq k2 hb hN, ilt_f (show ¬ 1 + 2 * (g.2.length : Int) + (a.length : Int) + (b.length : Int) < 0 by omega),
          markIntSS_eq k0 (show v.1.length ≤ 1048576 by omega) c3 hN, heldIntSS_eq k0 (show v.1.length ≤ 1048576 by omega) c3 hN, ilt_f (show ¬ 1 + sumL v.1 < 0 by omega), ine_f (rfl : 1 + sumL v.1 = 1 + sumL v.1)]
        simp [br_ite]
      · rw [ilt_t (by omega), br_t]
    · rw [ilt_t (by omega), br_t]
  · rw [ilt_t (by omega), br_t]
theorem ExchangeWay_pureT : ∀ x : argsT (psOf [QILQII, I, LI, LI]), WfA [QILQII, I, LI, LI] x → ∃ k m, (laws_FnExactExchangeWay_S k).f x = some ((true, ()), m) :=
  fun x h => ⟨1048577, (), ExchangeWay_pure (len_ok h.1.2.1)⟩
end Go.Proofs.YtgelipdkheahdaaGreat
