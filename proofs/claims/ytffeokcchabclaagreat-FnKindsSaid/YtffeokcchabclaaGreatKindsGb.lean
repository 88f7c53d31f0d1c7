/- Statements on data alone. -/
import Derived.Test.YtffeokcchabclaaGreatPvPure
import Derived.Test.YtffeokcchabclaaGreatKindsGa
set_option linter.all false
set_option linter.all false
namespace Go.Proofs.YtffeokcchabclaaGreat
open Go Go.PV Classical
noncomputable def setOf (m a : Nat) : List Int := ((List.range' 0 m).filter fun i : Nat => a.testBit i).map fun i : Nat => (i : Int)
theorem mem_setOf {m a : Nat} {z : Int} : z ∈ setOf m a ↔ ∃ i : Nat, i < m ∧ a.testBit i = true ∧ z = (i : Int) := by
  unfold setOf
  rw [List.mem_map]
  constructor
  · rintro ⟨i, hi, rfl⟩
    obtain ⟨h1, h2⟩ := List.mem_filter.1 hi
    exact ⟨i, by have := List.mem_range'_1.1 h1; omega, h2, rfl⟩
  · rintro ⟨i, h1, h2, rfl⟩
    exact ⟨i, List.mem_filter.2 ⟨List.mem_range'_1.2 (by omega), h2⟩, rfl⟩
theorem mem_setN {m a i : Nat} : (i : Int) ∈ setOf m a ↔ i < m ∧ a.testBit i = true := by
  rw [mem_setOf]
  constructor
  · rintro ⟨j, h1, h2, h3⟩
    have : i = j := by omega
    subst this
    exact ⟨h1, h2⟩
  · rintro ⟨h1, h2⟩
    exact ⟨i, h1, h2, rfl⟩
theorem setOf_in {m a : Nat} : ∀ z ∈ setOf m a, InN m z := fun z hz => by
  obtain ⟨i, h1, _, rfl⟩ := mem_setOf.1 hz
  exact in_nat h1
theorem setOf_len (m a : Nat) : (setOf m a).length ≤ m := by
  unfold setOf
  rw [List.length_map]
  exact Nat.le_trans (List.length_filter_le ..) (by simp)
theorem setOf_strict (m a : Nat) : (setOf m a).Pairwise (· < ·) := by
  unfold setOf
  refine List.pairwise_map.2 (List.Pairwise.filter _ ?_)
  exact (List.pairwise_lt_range' (step := 1) (by omega)).imp fun {a b} h => by omega
theorem bit_out {m a i : Nat} (ha : a < 2 ^ m) (hi : m ≤ i) : a.testBit i = false := Nat.testBit_lt_two_pow (Nat.lt_of_lt_of_le ha (Nat.pow_le_pow_right (by omega) hi))
theorem setOf_inj {m a b : Nat} (ha : a < 2 ^ m) (hb : b < 2 ^ m) (h : setOf m a = setOf m b) : a = b := by
  refine Nat.eq_of_testBit_eq fun i => ?_
  by_cases hi : i < m
  · have : (i : Int) ∈ setOf m a ↔ (i : Int) ∈ setOf m b := by rw [h]
    rw [mem_setN, mem_setN] at this
    cases h1 : a.testBit i <;> cases h2 : b.testBit i <;> simp_all
  · rw [bit_out ha (by omega), bit_out hb (by omega)]
theorem pow256 {m : Nat} (hm : m ≤ 8) : 2 ^ m ≤ 256 := Nat.pow_le_pow_right (n := 2) (by omega) hm
theorem setOf_eight {m a : Nat} (hm : m ≤ 8) (ha : a < 2 ^ m) : ((List.range' 0 8).filter fun c => decide (a.testBit c = true)).map (fun c : Nat => (c : Int)) = setOf m a := by
  unfold setOf
  have e8 : List.range' 0 8 = List.range' 0 m ++ List.range' m (8 - m) := by
    have := List.range'_append_1 (s := 0) (m := m) (n := 8 - m)
    rw [show 0 + m = m by omega, show m + (8 - m) = 8 by omega] at this
    exact this.symm
  have e2 : (List.range' m (8 - m)).filter (fun c => decide (a.testBit c = true)) = [] := by
    refine List.filter_eq_nil_iff.2 fun v hv => ?_
    have := List.mem_range'_1.1 hv
    rw [bit_out ha (by omega)]
    simp
  rw [e8, List.filter_append, e2, List.append_nil]
  congr 1
  refine List.filter_congr fun v _ => ?_
  cases a.testBit v <;> rfl
theorem bag_list_eq {N m a : Nat} (hm : m ≤ 8) (ha : a < 2 ^ m) (hN : 1048577 ≤ N) : Zq27 N (a : Int) = some ((setOf m a, ()), ()) := by
  have := pow256 hm
  rw [bagList_eq (by omega) hN, setOf_eight hm ha]
theorem ibit8 {a c : Nat} (ha : a < 256) (hc : c < 8) : ieq (bitop .and .i64 (shrI .i64 (a : Int) (c : Int)) 1) 1 = a.testBit c := by
  have hk : ((List.range 256).all fun a => (List.range 8).all fun c => ieq (bitop .and .i64 (shrI .i64 (a : Int) (c : Int)) 1) 1 == a.testBit c) = true := by kernel_rfl
  exact eq_of_beq (List.all_eq_true.1 (List.all_eq_true.1 hk a (List.mem_range.2 ha)) c (List.mem_range.2 hc))
theorem l2Bits_set {N m a : Nat} (hm : m ≤ 8) (ha : a < 256) (hN : 1048577 ≤ N) : Zq84 N (m : Int) (a : Int) = some ((setOf m a, ()), ()) := by
  unfold Zq84
  refine (loop_iter (L := fun K n o => Zq84_l0 N (fun o => some ((o, ()), ())) K (m : Int) (a : Int) n o) (k := fun o => some ((o, ()), ())) (Inv := fun n o => o.length ≤ n) (step := fun n o => if a.testBit n = true then o ++ [(n : Int)] else o) (fun K n s hn _ => ?_) (fun K n s hn hs => ?_) (fun n s hn h => ?_) (s := []) (m := m) (K := N) (by omega) (Nat.zero_le _)).trans ?_
  · simp only [Zq84_l0, ilt_nf hn, br_f]
  · simp only [Zq84_l0, ilt_n hn, br_t]
    rw [ile_t (by omega), chk_t, ibit8 ha (by omega), wrap_succ (by omega), room_ok (by simp; omega), chk_t, br_ite]
    by_cases h : a.testBit n = true
    · rw [if_pos h, if_pos h]
      rfl
    · rw [if_neg h, if_neg h]
  · by_cases hc : a.testBit n = true
    · rw [if_pos hc]; simp; omega
    · rw [if_neg hc]; omega
  · rw [iter_app, List.nil_append]
    congr 3
    unfold setOf
    congr 1
    refine List.filter_congr fun v _ => ?_
    cases a.testBit v <;> rfl
theorem bag_has_eq {N a i : Nat} (ha : a < 256) (hi : i < 8) : Zq26 N (a : Int) (i : Int) = some ((a.testBit i, ()), ()) := by
  unfold Zq26
  rw [ile_t (by omega), chk_t, bit8 ha hi]
def hasK (m : Nat) (es : List (Int × Int)) (kind : Int) (s : List Int) : Prop :=
  if kind = 1 then ∀ e ∈ es, e.1 ∈ s ∨ e.2 ∈ s
  else if kind = 2 then ∀ i j : Nat, i < s.length → j < i → nearG es (rdI s (i : Int)) (rdI s (j : Int))
  else ∀ x : Nat, x < m → (x : Int) ∈ s ∨ ∃ y ∈ s, nearG es y (x : Int)
theorem iter_orB {p : Nat → Bool} : ∀ (d n : Nat) (f : Bool), iter (fun i (f : Bool) => f || p i) d n f = (f || decide (∃ i, n ≤ i ∧ i < n + d ∧ p i = true)) := by
  intro d
  induction d with
  | zero =>
    intro n f
    unfold iter
    rw [decide_eq_false (fun ⟨i, h1, h2, _⟩ => by omega), Bool.or_false]
  | succ d ih =>
    intro n f
    unfold iter
    rw [ih, Bool.or_assoc]
    congr 1
    cases h : p n with
    | true => rw [Bool.true_or, decide_eq_true ⟨n, Nat.le_refl _, by omega, h⟩]
    | false =>
      rw [Bool.false_or]
      refine decide_eq_decide.2 ⟨fun ⟨i, h1, h2, h3⟩ => ⟨i, by omega, by omega, h3⟩, fun ⟨i, h1, h2, h3⟩ => ⟨i, ?_, by omega, h3⟩⟩
      by_cases hi : i = n
      · subst hi; rw [h] at h3; cases h3
      · omega
theorem l4Has_cl {R : Type} {N m n : Nat} {es : List (Int × Int)} {s : List Int} {k0 : Bool → Option R} {k1 : List Int → Int → Int → List (Int × Int) → Option R} (hx : es.length ≤ 1048576) (hs : s.length ≤ 1048576) (hn : n < s.length) (hN : 1048577 ≤ N) :
    Zq94_l1_0 N k0 k1 N s (n : Int) 0 (m : Int) es = if (∀ j : Nat, j < n → nearG es (rdI s (n : Int)) (rdI s (j : Int))) then k1 s (n : Int) (m : Int) es else k0 false := by
  have := loop_all_if (P := ∀ j : Nat, j < n → nearG es (rdI s (n : Int)) (rdI s (j : Int))) (m := n) (L := fun K j => Zq94_l1_0 N k0 k1 K s (n : Int) (j : Int) (m : Int) es) (fun j => nearG es (rdI s (n : Int)) (rdI s (j : Int))) Iff.rfl (kt := k1 s (n : Int) (m : Int) es) (kf := k0 false) (fun K j hj => ?_) (fun K j hj hp => ?_) (fun K j hj hp => ?_) (K := N) (by omega)
  · simpa using this
  · simp only [Zq94_l1_0, ilt_nf hj, br_f]
  · simp only [Zq94_l1_0, ilt_n hj, br_t, inb_n hn, inb_n (show j < s.length by omega), chk_t]
    rw [l2Near_eq (g := ((m : Int), es)) hx hN, bind_some', decide_eq_true hp, wrap_succ (by omega)]
    rfl
  · simp only [Zq94_l1_0, ilt_n hj, br_t, inb_n hn, inb_n (show j < s.length by omega), chk_t]
    rw [l2Near_eq (g := ((m : Int), es)) hx hN, bind_some', decide_eq_false hp]
    rfl
theorem l4Has_dm {R : Type} {N m n : Nat} {es : List (Int × Int)} {s : List Int} {f : Bool} {k0 : List Int → Int → Bool → Int → List (Int × Int) → Option R} (hx : es.length ≤ 1048576) (hs : s.length ≤ 1048576) (hN : 1048577 ≤ N) :
    Zq94_l2_0 N k0 N s (n : Int) f 0 (m : Int) es = k0 s (n : Int) (f || decide (∃ y ∈ s, nearG es y (n : Int))) (m : Int) es := by
  have := loop_iter (L := fun K i f => Zq94_l2_0 N k0 K s (n : Int) f (i : Int) (m : Int) es) (k := fun f => k0 s (n : Int) f (m : Int) es) (Inv := fun _ _ => True) (step := fun i f => f || decide (nearG es (rdI s (i : Int)) (n : Int))) (m := s.length) (fun K i f hi _ => ?_) (fun K i f hi _ => ?_) (fun _ _ _ _ => trivial) (K := N) (s := f) (by omega) trivial
  · simp only [Int.natCast_zero] at this
    rw [this, iter_orB (p := fun i : Nat => decide (nearG es (rdI s (i : Int)) (n : Int)))]
    congr 2
    refine decide_eq_decide.2 ⟨fun ⟨i, _, h2, h3⟩ => ⟨rdI s (i : Int), ?_, of_decide_eq_true h3⟩, fun ⟨y, h1, h2⟩ => ?_⟩
    · rw [rdI_n (by omega)]; exact List.getElem_mem _
    · obtain ⟨i, hi, rfl⟩ := List.getElem_of_mem h1
      exact ⟨i, Nat.zero_le _, by omega, decide_eq_true (by rw [rdI_n hi]; exact h2)⟩
  · simp only [Zq94_l2_0, ilt_lenf hi, br_f]
  · simp only [Zq94_l2_0, ilt_len hi, br_t, inb_n hi, chk_t]
    rw [wrap_succ (by omega)]
    cases f with
    | true => rw [br_t, Bool.true_or]
    | false => rw [br_f, Bool.false_or, l2Near_eq (g := ((m : Int), es)) hx hN, bind_some']
theorem l4Has_eq {N m : Nat} {es : List (Int × Int)} {kind : Int} {s : List Int} (hm : m ≤ 8) (hx : es.length ≤ 1048576) (hs : s.length ≤ 1048576) (hN : 1048577 ≤ N) : Zq94 N ((m : Int), es) kind s = some ((decide (hasK m es kind s), ()), ()) := by
  unfold Zq94
  simp only []
  have fin : ∀ {o : Option ((Bool × Unit) × Unit)}, o = (if hasK m es kind s then some ((true, ()), ()) else some ((false, ()), ())) → o = some ((decide (hasK m es kind s), ()), ()) := by
    intro o h
    rw [h]
    by_cases h : hasK m es kind s
    · rw [if_pos h, decide_eq_true h]
    · rw [if_neg h, decide_eq_false h]
  by_cases h1 : kind = 1
  · rw [ieq_t h1, br_t]
    refine fin ?_
    have := loop_all_if (P := hasK m es kind s) (m := es.length) (L := fun K i => Zq94_l0 N (fun x => some ((x, ()), ())) (fun (_ : Unit) => some ((true, ()), ())) K s i (m : Int) es) (fun i => (rdP es i).1 ∈ s ∨ (rdP es i).2 ∈ s) (by unfold hasK; rw [if_pos h1]; exact all_rdP) (kt := some ((true, ()), ())) (kf := some ((false, ()), ())) (fun K n hn => ?_) (fun K n hn hp => ?_) (fun K n hn hp => ?_) (K := N) (by omega)
    · simpa using this
    · simp only [Zq94_l0, ilt_lenf hn, br_f]
    · simp only [Zq94_l0, ilt_len hn, br_t, inb_n hn, chk_t, l1Has_eq hs hN, bind_some', wrap_succ (show n < 4611686018427387904 by omega)]
      by_cases q : (rdP es (n : Int)).1 ∈ s
      · rw [decide_eq_true q]; simp only [Bool.not_true, br_f]
      · rw [decide_eq_false q]; simp only [Bool.not_false, br_t]
        rw [decide_eq_true (hp.resolve_left q)]; simp only [Bool.not_true, br_f]
    · simp only [Zq94_l0, ilt_len hn, br_t, inb_n hn, chk_t, l1Has_eq hs hN, bind_some']
      rw [decide_eq_false (fun h => hp (.inl h)), decide_eq_false (fun h => hp (.inr h))]
      rfl
  · rw [ieq_f h1, br_f]
    by_cases h2 : kind = 2
    · rw [ieq_t h2, br_t]
      refine fin ?_
      have := loop_all_if (P := hasK m es kind s) (m := s.length) (L := fun K i => Zq94_l1 N (fun x => some ((x, ()), ())) (fun (_ : Unit) => some ((true, ()), ())) K s i (m : Int) es) (fun i => ∀ j : Nat, j < i → nearG es (rdI s (i : Int)) (rdI s (j : Int))) (by unfold hasK; rw [if_neg h1, if_pos h2]; exact ⟨fun h i hi j hj => h i j hi hj, fun h i j hi hj => h i hi j hj⟩) (kt := some ((true, ()), ())) (kf := some ((false, ()), ())) (fun K n hn => ?_) (fun K n hn hp => ?_) (fun K n hn hp => ?_) (K := N) (by omega)
      · simpa using this
      · simp only [Zq94_l1, ilt_lenf hn, br_f]
      · simp only [Zq94_l1, ilt_len hn, br_t]
        rw [l4Has_cl hx hs hn hN, if_pos hp, wrap_succ (by omega)]
      · simp only [Zq94_l1, ilt_len hn, br_t]
        rw [l4Has_cl hx hs hn hN, if_neg hp]
    · rw [ieq_f h2, br_f]
      refine fin ?_
      have := loop_all_if (P := hasK m es kind s) (m := m) (L := fun K i => Zq94_l2 N (fun x => some ((x, ()), ())) (fun (_ : Unit) => some ((true, ()), ())) K s i (m : Int) es) (fun x => (x : Int) ∈ s ∨ ∃ y ∈ s, nearG es y (x : Int)) (by unfold hasK; rw [if_neg h1, if_neg h2]) (kt := some ((true, ()), ())) (kf := some ((false, ()), ())) (fun K n hn => ?_) (fun K n hn hp => ?_) (fun K n hn hp => ?_) (K := N) (by omega)
      · simpa using this
      · simp only [Zq94_l2, ilt_nf hn, br_f]
      · simp only [Zq94_l2, ilt_n hn, br_t, l1Has_eq hs hN, bind_some']
        rw [l4Has_dm hx hs hN, wrap_succ (by omega)]
        have : (decide ((n : Int) ∈ s) || decide (∃ y ∈ s, nearG es y (n : Int))) = true := by rw [Bool.or_eq_true, decide_eq_true_eq, decide_eq_true_eq]; exact hp
        rw [this]
        rfl
      · simp only [Zq94_l2, ilt_n hn, br_t, l1Has_eq hs hN, bind_some']
        rw [l4Has_dm hx hs hN]
        have : (decide ((n : Int) ∈ s) || decide (∃ y ∈ s, nearG es y (n : Int))) = false := by rw [Bool.or_eq_false_iff, decide_eq_false_iff_not, decide_eq_false_iff_not]; exact not_or.1 hp
        rw [this]
        rfl
theorem hasKind_cl {R : Type} {N m n : Nat} {es : List (Int × Int)} {s : List Int} {k0 : Bool → Option R} {k1 : Int → Int → Int → List (Int × Int) → List Int → Option R} (hed : ∀ e ∈ es, e.1 < e.2) (hx : es.length ≤ 1048576) (hs : s.length ≤ 1048576) (hn : n < s.length) (hN : 1048577 ≤ N) :
    Zq8_l0_0 N k0 k1 N (rdI s (n : Int)) (tLen s) (n : Int) 0 (n : Int) ((n : Int) - 0) 0 (m : Int) es s = if (∀ j : Nat, j < n → nearG es (rdI s (n : Int)) (rdI s (j : Int))) then k1 (tLen s) (n : Int) (m : Int) es s else k0 false := by
  rw [show (n : Int) - 0 = (n : Int) by omega]
  have := loop_all_if (P := ∀ j : Nat, j < n → nearG es (rdI s (n : Int)) (rdI s (j : Int))) (m := n) (L := fun K j => Zq8_l0_0 N k0 k1 K (rdI s (n : Int)) (tLen s) (n : Int) 0 (n : Int) (n : Int) (j : Int) (m : Int) es s) (fun j => nearG es (rdI s (n : Int)) (rdI s (j : Int))) Iff.rfl (kt := k1 (tLen s) (n : Int) (m : Int) es s) (kf := k0 false) (fun K j hj => ?_) (fun K j hj hp => ?_) (fun K j hj hp => ?_) (K := N) (by omega)
  · simpa using this
  · simp only [Zq8_l0_0, ilt_nf hj, br_f]
  · simp only [Zq8_l0_0, ilt_n hj, br_t]
    rw [ile_t (by omega), ilt_t (show (j : Int) < (n : Int) - 0 by omega)]
    simp only [Bool.and_self, chk_t, Int.zero_add]
    rw [Graph_has_eq (g := ((m : Int), es)) hed hx hN, bind_some', decide_eq_true hp, wrap_succ (by omega)]
    rfl
  · simp only [Zq8_l0_0, ilt_n hj, br_t]
    rw [ile_t (by omega), ilt_t (show (j : Int) < (n : Int) - 0 by omega)]
    simp only [Bool.and_self, chk_t, Int.zero_add]
    rw [Graph_has_eq (g := ((m : Int), es)) hed hx hN, bind_some', decide_eq_false hp]
    rfl
theorem and_zero {a b : Nat} (ha : a < 256) (hb : b < 256) : ieq (bitop .and .u64 (a : Int) (b : Int)) 0 = decide (∀ i, ¬ (a.testBit i = true ∧ b.testBit i = true)) := by
  rw [andN (by omega) (by omega), ieq_d]
  refine decide_eq_decide.2 ⟨fun h i hi => ?_, fun h => ?_⟩
  · have h0 : a &&& b = 0 := by omega
    have := Nat.testBit_and a b i
    rw [h0, hi.1, hi.2] at this
    simp at this
  · have : a &&& b = 0 := Nat.eq_of_testBit_eq fun i => by
      rw [Nat.testBit_and, Nat.zero_testBit]
      cases h1 : a.testBit i <;> cases h2 : b.testBit i <;> simp
      exact h i ⟨h1, h2⟩
    omega
theorem hasKind_eq {N m a : Nat} {es : List (Int × Int)} {kind : Int} (hm : m ≤ 8) (ha : a < 2 ^ m) (hg : goodG ((m : Int), es)) (hx : es.length ≤ 1048576) (hN : 1048577 ≤ N) : Zq8 N ((m : Int), es) kind (a : Int) = some ((decide (hasK m es kind (setOf m a)), ()), ()) := by
  have ha8 := pow256 hm
  have hedge := goodG_edges hg
  have hed : ∀ e ∈ es, e.1 < e.2 := fun e he => (hedge e he).2.1
  have hsl : (setOf m a).length ≤ 1048576 := by have := setOf_len m a; omega
  unfold Zq8
  simp only []
  have fin : ∀ {o : Option ((Bool × Unit) × Unit)}, o = (if hasK m es kind (setOf m a) then some ((true, ()), ()) else some ((false, ()), ())) → o = some ((decide (hasK m es kind (setOf m a)), ()), ()) := by
    intro o h
    rw [h]
    by_cases h : hasK m es kind (setOf m a)
    · rw [if_pos h, decide_eq_true h]
    · rw [if_neg h, decide_eq_false h]
  by_cases h1 : kind = 1
  · rw [ieq_t h1, br_t]
    unfold Zq5
    simp only []
    rw [ile_t (by omega), chk_t, all8 m hm, bind_some']
    obtain ⟨c, c1, c2, c3⟩ := lessN (a := 2 ^ m - 1) (b := a) (by omega) (by omega)
    simp only []
    rw [c1]
    unfold Zq9
    simp only []
    rw [ContainsFunc_LP_P2_eq (g := fun e => decide (e.1 ∉ setOf m a ∧ e.2 ∉ setOf m a)) (fun e he => ?_) (by omega) (by omega), bind_some', bind_some']
    · congr 3
      rw [not_any]
      refine decide_eq_decide.2 ?_
      unfold hasK
      rw [if_pos h1]
      refine ⟨fun h e he => ?_, fun h e he => ?_⟩
      · have := of_decide_eq_false (h e he)
        by_cases q : e.1 ∈ setOf m a
        · exact .inl q
        · by_cases q2 : e.2 ∈ setOf m a
          · exact .inr q2
          · exact absurd ⟨q, q2⟩ this
      · refine decide_eq_false fun q => ?_
        rcases h e he with h | h
        · exact q.1 h
        · exact q.2 h
    · obtain ⟨e1, e2, e3⟩ := hedge e he
      simp only [] at e3
      obtain ⟨p, hp⟩ : ∃ p : Nat, e.1 = (p : Int) := ⟨e.1.toNat, by omega⟩
      obtain ⟨q, hq⟩ : ∃ q : Nat, e.2 = (q : Int) := ⟨e.2.toNat, by omega⟩
      have hpm : p < m := by omega
      have hqm : q < m := by omega
      have hnot : ∀ i, i < m → (c.testBit i = true ↔ (i : Int) ∉ setOf m a) := fun i hi => by
        rw [c3 i, Nat.testBit_two_pow_sub_one, decide_eq_true hi, Bool.true_and, mem_setN]
        cases a.testBit i <;> simp [hi]
      unfold Zq10
      rw [hp, hq, bag_has_eq c2 (by omega), bag_has_eq c2 (by omega), bind_some', bind_some']
      simp only []
      by_cases q1 : (p : Int) ∈ setOf m a
      · have : c.testBit p = false := Bool.eq_false_iff.2 fun h => (hnot p hpm).1 h q1
        rw [this, br_f, decide_eq_false (fun h => h.1 q1)]
        rfl
      · rw [(hnot p hpm).2 q1, br_t]
        by_cases q2 : (q : Int) ∈ setOf m a
        · have : c.testBit q = false := Bool.eq_false_iff.2 fun h => (hnot q hqm).1 h q2
          rw [this, decide_eq_false (fun h => h.2 q2)]
          rfl
        · rw [(hnot q hqm).2 q2, decide_eq_true ⟨q1, q2⟩]
          rfl
  · rw [ieq_f h1, br_f]
    by_cases h2 : kind = 2
    · rw [ieq_t h2, br_t, bag_list_eq hm ha hN, bind_some']
      refine fin ?_
      simp only []
      have := loop_all_if (P := hasK m es kind (setOf m a)) (m := (setOf m a).length) (L := fun K i => Zq8_l0 N (fun x => some ((x, ()), ())) (fun (_ : Unit) => some ((true, ()), ())) K (tLen (setOf m a)) i (m : Int) es (setOf m a)) (fun i => ∀ j : Nat, j < i → nearG es (rdI (setOf m a) (i : Int)) (rdI (setOf m a) (j : Int))) (by unfold hasK; rw [if_neg h1, if_pos h2]; exact ⟨fun h i hi j hj => h i j hi hj, fun h i j hi hj => h i hi j hj⟩) (kt := some ((true, ()), ())) (kf := some ((false, ()), ())) (fun K n hn => ?_) (fun K n hn hp => ?_) (fun K n hn hp => ?_) (K := N) (by omega)
      · simpa using this
      · simp only [Zq8_l0, ilt_lenf hn, br_f]
      all_goals
        simp only [Zq8_l0, ilt_len hn, br_t, inb_n hn, chk_t]
        rw [ile_t (Int.le_refl _), ile_t (show (0 : Int) ≤ (n : Int) by omega), tLen_n, ile_t (show (n : Int) ≤ ((setOf m a).length : Int) by omega)]
        simp only [Bool.and_self, chk_t]
        have hcl := hasKind_cl (R := (Bool × Unit) × Unit) (N := N) (m := m) (n := n) (es := es) (s := setOf m a) (k0 := fun x2 => (fun x => some ((x, ()), ())) x2) (k1 := fun x3 x4 o3 o4 o5 => Zq8_l0 N (fun x => some ((x, ()), ())) (fun (_ : Unit) => some ((true, ()), ())) K x3 (IntKind.i64.wrap (x4 + 1)) o3 o4 o5) hed hx hsl hn hN
        rw [tLen_n] at hcl
      · rw [hcl, if_pos hp, wrap_succ (by omega)]
      · rw [hcl, if_neg hp]
    · rw [ieq_f h2, br_f]
      refine fin ?_
      have := loop_all_if (P := hasK m es kind (setOf m a)) (m := m) (L := fun K i => Zq8_l1 N (fun x => some ((x, ()), ())) (fun (_ : Unit) => some ((true, ()), ())) K (a : Int) (m : Int) i (m : Int) es) (fun x => (x : Int) ∈ setOf m a ∨ ∃ y ∈ setOf m a, nearG es y (x : Int)) (by unfold hasK; rw [if_neg h1, if_neg h2]) (kt := some ((true, ()), ())) (kf := some ((false, ()), ())) (fun K n hn => ?_) (fun K n hn hp => ?_) (fun K n hn hp => ?_) (K := N) (by omega)
      · simpa using this
      · simp only [Zq8_l1, ilt_nf hn, br_f]
      all_goals
        have hnl := nbr_len m es (n : Int)
        obtain ⟨q, q1, q2, q3⟩ := bagOf_eq (N := N) (xs := nbr m es (n : Int)) (fun y hy => by obtain ⟨i, hi, _, rfl⟩ := mem_nbr.1 hy; omega) (by omega) hN
        have hz : (∀ i, ¬ (q.testBit i = true ∧ a.testBit i = true)) ↔ ¬ ∃ y ∈ setOf m a, nearG es y (n : Int) := by
          constructor
          · rintro h ⟨y, h3, h4⟩
            obtain ⟨i, hi, hb, rfl⟩ := mem_setOf.1 h3
            exact h i ⟨(q3 i).2 (mem_nbr.2 ⟨i, hi, nearG_symm.1 h4, rfl⟩), hb⟩
          · rintro h i ⟨h3, h4⟩
            obtain ⟨j, hj, hn', hij⟩ := mem_nbr.1 ((q3 i).1 h3)
            have : i = j := by omega
            subst this
            exact h ⟨(i : Int), mem_setN.2 ⟨hj, h4⟩, nearG_symm.1 hn'⟩
        simp only [Zq8_l1, ilt_n hn, br_t]
        rw [bag_has_eq (by omega) (by omega), bind_some', neighbors_eq hg hx hN, bind_some']
        simp only []
        rw [q1, bind_some']
        simp only []
        rw [and_zero q2 (by omega)]
      · rw [wrap_succ (by omega)]
        cases hb : a.testBit n with
        | true => simp only [Bool.not_true, br_f]
        | false =>
          simp only [Bool.not_false, br_t]
          have h3 := hp.resolve_left (fun h => by have := (mem_setN.1 h).2; rw [hb] at this; cases this)
          rw [decide_eq_false (fun h => hz.1 h h3), br_f]
      · have h3 : a.testBit n = false := Bool.eq_false_iff.2 fun h => hp (.inl (mem_setN.2 ⟨hn, h⟩))
        rw [h3, decide_eq_true (hz.2 fun h => hp (.inr h))]
        rfl
theorem iter_map {α : Type} {f : Nat → α} {p : Nat → Bool} : ∀ (d n : Nat) (o : List α), iter (fun n (o : List α) => if p n = true then o ++ [f n] else o) d n o = o ++ ((List.range' n d).filter p).map f := by
  intro d
  induction d with
  | zero => intro n o; simp [iter]
  | succ d ih =>
    intro n o
    unfold iter
    rw [ih, List.range'_succ]
    by_cases h : p n = true
    · rw [if_pos h, List.filter_cons_of_pos h, List.append_assoc]
      rfl
    · rw [if_neg h, List.filter_cons_of_neg h]
theorem shl8i : ∀ n : Nat, n < 9 → shlI .i64 1 (n : Int) = ((2 ^ n : Nat) : Int)
  | 0, _ => by kernel_rfl
  | 1, _ => by kernel_rfl
  | 2, _ => by kernel_rfl
  | 3, _ => by kernel_rfl
  | 4, _ => by kernel_rfl
  | 5, _ => by kernel_rfl
  | 6, _ => by kernel_rfl
  | 7, _ => by kernel_rfl
  | 8, _ => by kernel_rfl
  | n + 9, h => by omega
noncomputable def masksL (m : Nat) (p : List Int → Bool) : List (List Int) := ((List.range' 0 (2 ^ m)).filter fun a => p (setOf m a)).map (setOf m)
theorem mem_masksL {m : Nat} {p : List Int → Bool} {s : List Int} : s ∈ masksL m p ↔ (∃ a : Nat, a < 2 ^ m ∧ s = setOf m a) ∧ p s = true := by
  unfold masksL
  rw [List.mem_map]
  constructor
  · rintro ⟨a, ha, rfl⟩
    obtain ⟨h1, h2⟩ := List.mem_filter.1 ha
    exact ⟨⟨a, by have := List.mem_range'_1.1 h1; omega, rfl⟩, h2⟩
  · rintro ⟨⟨a, h1, rfl⟩, h2⟩
    exact ⟨a, List.mem_filter.2 ⟨List.mem_range'_1.2 (by omega), h2⟩, rfl⟩
theorem masksL_len (m : Nat) (p : List Int → Bool) : (masksL m p).length ≤ 2 ^ m := by
  unfold masksL
  rw [List.length_map]
  exact Nat.le_trans (List.length_filter_le ..) (by simp)
theorem masksL_nodup (m : Nat) (p : List Int → Bool) : (masksL m p).Nodup := by
  unfold masksL
  refine List.pairwise_map.2 (List.Pairwise.imp_of_mem (R := fun a b => a ≠ b) ?_ (List.Pairwise.filter _ ((List.pairwise_lt_range' (step := 1) (by omega)).imp fun {a b} h => by omega)))
  intro a b ha hb hab e
  have h1 := List.mem_range'_1.1 (List.mem_filter.1 ha).1
  have h2 := List.mem_range'_1.1 (List.mem_filter.1 hb).1
  exact hab (setOf_inj (by omega) (by omega) e)
theorem sets_eq {N m : Nat} {es : List (Int × Int)} {is : Int → Option Bool} {p : List Int → Bool} {ys : List (List Int)} (hm : m ≤ 8) (hp : ∀ a : Nat, a < 2 ^ m → is (a : Int) = some (p (setOf m a))) (hs : lexSorted ys) (hy : ∀ s, s ∈ ys ↔ (∃ a : Nat, a < 2 ^ m ∧ s = setOf m a) ∧ p s = true) (hN : 1048577 ≤ N) :
    Zq15 N ((m : Int), es) is = some ((ys, ()), ()) := by
  have h256 := pow256 hm
  have hpos : 0 < 2 ^ m := Nat.pow_pos (by omega)
  have go := loop_iter (L := fun K n o => Zq15_l0 N (fun o => ((Zq53 N o ()).bind fun r => some ((r.2.1, ()), ()))) K is (n : Int) (m : Int) es o) (k := fun o => ((Zq53 N o ()).bind fun r => some ((r.2.1, ()), ()))) (Inv := fun n o => o.length ≤ n) (step := fun n o => if p (setOf m n) = true then o ++ [setOf m n] else o) (m := 2 ^ m) (fun K n o hn ho => ?_) (fun K n o hn ho => ?_) (fun n o hn ho => ?_) (K := N) (s := []) (by omega) (Nat.zero_le _)
  · simp only [Int.natCast_zero] at go
    unfold Zq15
    simp only []
    rw [go, iter_map (f := setOf m) (p := fun n => p (setOf m n)), List.nil_append]
    have := masksL_len m p
    have := SortFunc_rows (N := N) (xs := masksL m p) (ys := ys) (by omega) (fun x hx => by
      obtain ⟨⟨a, _, rfl⟩, _⟩ := mem_masksL.1 hx
      have := setOf_len m a
      omega) (masksL_nodup m p) hs (fun s => by rw [hy s, mem_masksL]) hN
    unfold masksL at this
    rw [this]
    rfl
  · simp only [Zq15_l0, Zq5]
    have e : ile (n : Int) ((2 ^ m - 1 : Nat) : Int) = false := ile_f (by omega)
    rw [ile_t (by omega), chk_t, all8 m hm, bind_some']
    simp only [e, br_f]
  · simp only [Zq15_l0, Zq5]
    have e : ile (n : Int) ((2 ^ m - 1 : Nat) : Int) = true := ile_t (by omega)
    have ew : IntKind.u64.wrap ((n : Int) + 1) = ((n + 1 : Nat) : Int) := by
      have := wrap64 (n := n + 1) (by omega)
      rwa [show ((n + 1 : Nat) : Int) = (n : Int) + 1 by omega] at this ⊢
    rw [ile_t (by omega), chk_t, all8 m hm, bind_some']
    simp only [e, br_t]
    rw [hp n hn, bind_some', bag_list_eq hm hn hN, bind_some', room_ok (by simp; omega), chk_t, ew, tApp_d]
    cases p (setOf m n) <;> rfl
  · by_cases h : p (setOf m n) = true
    · rw [if_pos h]; simp; omega
    · rw [if_neg h]; omega
def sizeLt (a b : List Int) : Prop := a.length < b.length ∨ (a.length = b.length ∧ lexC a b < 0)
theorem l4Sets_in {R : Type} {N m : Nat} {es : List (Int × Int)} {kind : Int} {size : Nat} {o12 : List (List Int)} {k0 : Int → Int → Int → List (Int × Int) → List (List Int) → List (List Int) → Option R} (hm : m ≤ 8) (hx : es.length ≤ 1048576) (hN : 1048577 ≤ N) :
    Zq98_l0_0 N k0 N kind (size : Int) 0 (m : Int) es o12 [] = k0 kind (size : Int) (m : Int) es o12 (masksL m fun s => decide (s.length = size ∧ hasK m es kind s)) := by
  have h256 := pow256 hm
  have hpos : 0 < 2 ^ m := Nat.pow_pos (by omega)
  have hsh := shl8i m (by omega)
  have go := loop_iter (L := fun K n o => Zq98_l0_0 N k0 K kind (size : Int) (n : Int) (m : Int) es o12 o) (k := fun o => k0 kind (size : Int) (m : Int) es o12 o) (Inv := fun n o => o.length ≤ n) (step := fun n o => if decide ((setOf m n).length = size ∧ hasK m es kind (setOf m n)) = true then o ++ [setOf m n] else o) (m := 2 ^ m) (fun K n o hn ho => ?_) (fun K n o hn ho => ?_) (fun n o hn ho => ?_) (K := N) (s := []) (by omega) (Nat.zero_le _)
  · simp only [Int.natCast_zero] at go
    rw [go, iter_map (f := setOf m) (p := fun n => decide ((setOf m n).length = size ∧ hasK m es kind (setOf m n))), List.nil_append]
    rfl
  · simp only [Zq98_l0_0]
    rw [ile_t (by omega), chk_t, hsh, ilt_nf hn, br_f]
  · have hsl := setOf_len m n
    simp only [Zq98_l0_0]
    rw [ile_t (by omega), chk_t, hsh, ilt_n hn, br_t, l2Bits_set hm (by omega) hN, bind_some']
    simp only [tLen_n]
    by_cases h1 : (setOf m n).length = size
    · rw [ieq_t (by omega), br_t, l4Has_eq hm hx (by omega) hN, bind_some', wrap_succ (by omega)]
      simp only []
      by_cases h2 : hasK m es kind (setOf m n)
      · rw [decide_eq_true h2, br_t, room_ok (by simp; omega), chk_t, if_pos (decide_eq_true ⟨h1, h2⟩), tApp_d]
      · rw [decide_eq_false h2, br_f, if_neg (by simp [h2])]
    · rw [ieq_f (by omega), br_f, wrap_succ (by omega), if_neg (by simp [h1])]
  · by_cases h : decide ((setOf m n).length = size ∧ hasK m es kind (setOf m n)) = true
    · rw [if_pos h]; simp; omega
    · rw [if_neg h]; omega
theorem l4Sets_eq {N m : Nat} {es : List (Int × Int)} {kind : Int} (hm : m ≤ 8) (hx : es.length ≤ 1048576) (hN : 1048577 ≤ N) :
    ∃ L, Zq98 N ((m : Int), es) kind = some ((L, ()), ()) ∧ L.Pairwise sizeLt ∧ L.length ≤ 2304 ∧ ∀ s, s ∈ L ↔ (∃ a : Nat, a < 2 ^ m ∧ s = setOf m a) ∧ hasK m es kind s := by
  have h256 := pow256 hm
  have go : ∀ (d k K : Nat) (o : List (List Int)), k + d = m + 1 → d < K → o.length ≤ 256 * k → o.Pairwise sizeLt → (∀ s, s ∈ o ↔ ((∃ a : Nat, a < 2 ^ m ∧ s = setOf m a) ∧ hasK m es kind s) ∧ s.length < k) →
      ∃ L, Zq98_l0 N (fun o7 => some ((o7, ()), ())) K kind (k : Int) (m : Int) es o = some ((L, ()), ()) ∧ L.Pairwise sizeLt ∧ L.length ≤ 2304 ∧ ∀ s, s ∈ L ↔ (∃ a : Nat, a < 2 ^ m ∧ s = setOf m a) ∧ hasK m es kind s := by
    intro d
    induction d with
    | zero =>
      intro k K o hd hK hl hp hm'
      obtain ⟨K, rfl⟩ := succ_of hK
      simp only [Zq98_l0]
      rw [ile_f (by omega), br_f]
      refine ⟨o, rfl, hp, by omega, fun s => ?_⟩
      rw [hm' s]
      refine ⟨fun h => h.1, fun h => ⟨h, ?_⟩⟩
      obtain ⟨⟨a, _, rfl⟩, _⟩ := h
      have := setOf_len m a
      omega
    | succ d ih =>
      intro k K o hd hK hl hp hm'
      obtain ⟨K, rfl⟩ := succ_of hK
      simp only [Zq98_l0]
      rw [ile_t (by omega), br_t, l4Sets_in hm hx hN]
      have h1 := masksL_len m fun s => decide (s.length = k ∧ hasK m es kind s)
      obtain ⟨ys, y1, y2, y3⟩ := l2Sorted_eq (N := N) (xs := masksL m fun s => decide (s.length = k ∧ hasK m es kind s)) (by omega) (fun x hx => by
        obtain ⟨⟨a, _, rfl⟩, _⟩ := mem_masksL.1 hx
        have := setOf_len m a
        omega) hN
      have y4 : ∀ s, s ∈ ys ↔ ((∃ a : Nat, a < 2 ^ m ∧ s = setOf m a) ∧ hasK m es kind s) ∧ s.length = k := fun s => by
        rw [y3 s, mem_masksL, decide_eq_true_eq]
        exact ⟨fun ⟨h1, h2, h3⟩ => ⟨⟨h1, h3⟩, h2⟩, fun ⟨⟨h1, h2⟩, h3⟩ => ⟨h1, h3, h2⟩⟩
      have yl : ys.length ≤ 2 ^ m := Nat.le_trans (nodup_leL (lex_nodup y2) fun x hx => (y3 x).1 hx) h1
      rw [y1, bind_some']
      simp only []
      rw [room_ok (by omega), chk_t, wrap_succ (by omega), tApp_d]
      refine ih (k + 1) K (o ++ ys) (by omega) (by omega) (by simp; omega) (List.pairwise_append.2 ⟨hp, y2.imp_of_mem fun {a b} ha hb hab => .inr ⟨by rw [((y4 a).1 ha).2, ((y4 b).1 hb).2], hab⟩, fun a ha b hb => .inl ?_⟩) fun s => ?_
      · have q1 := ((hm' a).1 ha).2
        have q2 := ((y4 b).1 hb).2
        omega
      · rw [List.mem_append, hm' s, y4 s]
        constructor
        · rintro (⟨h1, h2⟩ | ⟨h1, h2⟩)
          · exact ⟨h1, by omega⟩
          · exact ⟨h1, by omega⟩
        · rintro ⟨h1, h2⟩
          by_cases h : s.length = k
          · exact .inr ⟨h1, h⟩
          · exact .inl ⟨h1, by omega⟩
  have := go (m + 1) 0 N [] (by omega) (by omega) (by simp) List.Pairwise.nil (by simp)
  exact this
noncomputable def loneL (a b : List Int) : List Int := a.filter fun z => decide (z ∉ b)
theorem asc_ext {a b : List Int} (ha : a.Pairwise (· < ·)) (hb : b.Pairwise (· < ·)) (h : ∀ z, z ∈ a ↔ z ∈ b) : a = b := by
  have na : a.Nodup := ha.imp fun h e => by omega
  have nb : b.Nodup := hb.imp fun h e => by omega
  have hp := (List.perm_ext_iff_of_nodup na nb).2 h
  clear h na nb
  induction a generalizing b with
  | nil => exact (List.nil_perm.1 hp).symm
  | cons x a ih =>
    cases b with
    | nil => exact absurd (List.perm_nil.1 hp) (by simp)
    | cons y b =>
      obtain ⟨a1, a2⟩ := List.pairwise_cons.1 ha
      obtain ⟨b1, b2⟩ := List.pairwise_cons.1 hb
      have e : x = y := by
        have h1 : x ∈ y :: b := hp.mem_iff.1 (List.mem_cons_self ..)
        have h2 : y ∈ x :: a := hp.mem_iff.2 (List.mem_cons_self ..)
        rcases List.mem_cons.1 h1 with h1 | h1
        · exact h1
        · rcases List.mem_cons.1 h2 with h2 | h2
          · exact h2.symm
          · have := a1 y h2
            have := b1 x h1
            omega
      subst e
      rw [ih a2 b2 (List.Perm.cons_inv hp)]
theorem bagOf_set {N m A : Nat} (hm : m ≤ 8) (hA : A < 2 ^ m) (hN : 1048577 ≤ N) : Zq25 N (setOf m A) = some (((A : Int), ()), ()) := by
  have h256 := pow256 hm
  have hsl := setOf_len m A
  obtain ⟨q, q1, q2, q3⟩ := bagOf_eq (N := N) (xs := setOf m A) (fun y hy => by obtain ⟨i, hi, _, rfl⟩ := mem_setOf.1 hy; omega) (by omega) hN
  have : q = A := by
    refine Nat.eq_of_testBit_eq fun i => ?_
    have h1 := q3 i
    rw [mem_setN] at h1
    by_cases hi : i < m
    · cases h2 : q.testBit i <;> cases h3 : A.testBit i <;> simp_all
    · rw [bit_out hA (by omega)]
      cases h2 : q.testBit i with
      | false => rfl
      | true => have := (h1.1 h2).1; omega
  rw [q1, this]
theorem less_set {m A B : Nat} (hm : m ≤ 8) (hA : A < 2 ^ m) (hB : B < 2 ^ m) : ∃ c : Nat, bitop .andNot .u64 (A : Int) (B : Int) = (c : Int) ∧ c < 2 ^ m ∧ setOf m c = loneL (setOf m A) (setOf m B) := by
  have h256 := pow256 hm
  obtain ⟨c, c1, c2, c3⟩ := lessN (a := A) (b := B) (by omega) (by omega)
  have hc : c < 2 ^ m := Nat.lt_pow_two_of_testBit _ fun i hi => by rw [c3 i, bit_out hA hi]; rfl
  refine ⟨c, c1, hc, asc_ext (setOf_strict m c) ((setOf_strict m A).filter _) fun z => ?_⟩
  unfold loneL
  rw [List.mem_filter, decide_eq_true_eq]
  constructor
  · intro hz
    obtain ⟨i, h1, h2, rfl⟩ := mem_setOf.1 hz
    rw [c3 i, Bool.and_eq_true] at h2
    refine ⟨mem_setN.2 ⟨h1, h2.1⟩, fun h => ?_⟩
    have := (mem_setN.1 h).2
    rw [this] at h2
    exact absurd h2.2 (by simp)
  · rintro ⟨h1, h2⟩
    obtain ⟨i, h3, h4, rfl⟩ := mem_setOf.1 h1
    refine mem_setN.2 ⟨h3, ?_⟩
    rw [c3 i, h4]
    cases h5 : B.testBit i with
    | false => rfl
    | true => exact absurd (mem_setN.2 ⟨h3, h5⟩) h2
theorem setOf_nodup (m a : Nat) : (setOf m a).Nodup := (setOf_strict m a).imp fun h e => by omega
theorem lex_small {m : Nat} {ys : List (List Int)} (hs : lexSorted ys) (h : ∀ s ∈ ys, ∃ a : Nat, a < 2 ^ m ∧ s = setOf m a) : ys.length ≤ 2 ^ m := by
  have := nodup_leL (lex_nodup hs) (b := masksL m fun _ => true) fun x hx => mem_masksL.2 ⟨h x hx, rfl⟩
  exact Nat.le_trans this (masksL_len ..)
theorem l1Put_ro {N : Nat} {o : List Int} {n : Int} (ho : o.length ≤ 1048576) (hN : 1048577 ≤ N) : Zq80 N o n = some ((putI n o, ()), ()) := by
  have go : ∀ (q p : List Int) (K : Nat), q.length < K → (p ++ q).length ≤ 1048576 → Zq80_l0 N (fun o n1 kv => (br (ilt kv (tLen o))
    ((chk (inb o kv)
      (br (ieq (rdI o kv) n1)
      (some ((o, ()), ()))
      ((chk (ile 0 0 && ile 0 kv && ile kv (tLen o))
        (chk (room (α := Int) (β := Int) [] (tCut o 0 kv))
        (chk (room (tApp [] (tCut o 0 kv)) [n1])
        (chk (ile 0 kv && ile kv (tLen o) && ile (tLen o) (tLen o))
        (chk (room (tApp (tApp [] (tCut o 0 kv)) [n1]) (tCut o kv (tLen o)))
        (some (((tApp (tApp (tApp [] (tCut o 0 kv)) [n1]) (tCut o kv (tLen o))), ()), ())))))))))))
    ((chk (ile 0 0 && ile 0 kv && ile kv (tLen o))
      (chk (room (α := Int) (β := Int) [] (tCut o 0 kv))
      (chk (room (tApp [] (tCut o 0 kv)) [n1])
      (chk (ile 0 kv && ile kv (tLen o) && ile (tLen o) (tLen o))
      (chk (room (tApp (tApp [] (tCut o 0 kv)) [n1]) (tCut o kv (tLen o)))
      (some (((tApp (tApp (tApp [] (tCut o 0 kv)) [n1]) (tCut o kv (tLen o))), ()), ())))))))))) K (p ++ q) n ((p.length : Nat) : Int) = some ((p ++ putI n q, ()), ()) := by
    intro q
    have cuts : ∀ p q : List Int, tCut (p ++ q) 0 ((p.length : Nat) : Int) = p ∧ tCut (p ++ q) ((p.length : Nat) : Int) (tLen (p ++ q)) = q := fun p q => ⟨by simp [tCut], by rw [tLen_n, tCut_n, List.take_length, List.drop_left]⟩
    have c1 : ∀ p q : List Int, (ile 0 0 && ile 0 ((p.length : Nat) : Int) && ile ((p.length : Nat) : Int) (tLen (p ++ q))) = true := fun p q => by
      rw [ile_t (Int.le_refl 0), ile_t (by omega), ile_t (by simp [tLen]; omega)]; rfl
    have c2 : ∀ p q : List Int, (ile 0 ((p.length : Nat) : Int) && ile ((p.length : Nat) : Int) (tLen (p ++ q)) && ile (tLen (p ++ q)) (tLen (p ++ q))) = true := fun p q => by
      rw [ile_t (Int.le_refl (tLen _)), ile_t (by omega), ile_t (by simp [tLen]; omega)]; rfl
    induction q with
    | nil =>
      intro p K hK hl
      obtain ⟨k, rfl⟩ := succ_of hK
      have hlt : ¬ p.length < (p ++ ([] : List Int)).length := by simp
      simp only [Zq80_l0, ilt_lenf hlt, br_f, (cuts p []).1, (cuts p []).2, c1, c2, chk_t]
      rw [room_ok (by simp at hl ⊢; omega), room_ok (by simp [tApp] at hl ⊢; omega), room_ok (by simp [tApp] at hl ⊢; omega), chk_t, chk_t, chk_t]
      simp [tApp, putI]
    | cons y q ih =>
      intro p K hK hl
      obtain ⟨k, rfl⟩ := succ_of hK
      have hlt : p.length < (p ++ y :: q).length := by simp
      simp only [Zq80_l0, ilt_len hlt, br_t, inb_n hlt, chk_t, rdI_mid]
      by_cases hy : y < n
      · have := ih (p ++ [y]) k (by simp at hK; omega) (by simpa using hl)
        rw [ilt_t hy, br_t, wrap_succ (by simp at hl; omega)]
        simp only [List.append_assoc, List.singleton_append, List.length_append, List.length_singleton] at this
        rw [this]
        simp [putI, hy]
      · rw [ilt_f hy, br_f]
        by_cases hyn : y = n
        · rw [ieq_t hyn, br_t]
          simp [putI, hy, hyn]
        · rw [ieq_f hyn, br_f, c1, chk_t, c2, chk_t, (cuts p (y :: q)).1, (cuts p (y :: q)).2]
          rw [room_ok (by simp at hl ⊢; omega), room_ok (by simp [tApp] at hl ⊢; omega), room_ok (by simp [tApp] at hl ⊢; omega), chk_t, chk_t, chk_t]
          simp [tApp, putI, hy, hyn]
  unfold Zq80
  exact go o [] N (by omega) (by simpa using ho)
theorem l4Without_eq {N : Nat} {a : List Int} {x : Int} (ha : a.length ≤ 1048576) (hN : 1048577 ≤ N) : Zq101 N a x = some ((a.filter (fun z => decide (z ≠ x)), ()), ()) := by
  unfold Zq101
  have key := loop_list (xs := a) (L := fun K n o => Zq101_l0 N (fun o => some ((o, ()), ())) K a x (n : Int) o) (k := fun o => some ((o, ()), ())) (fun (o : List Int) z => if decide (z ≠ x) = true then o ++ [z] else o) (fun n o => o = (a.take n).filter fun z => decide (z ≠ x)) (fun K n o hn ho => ?_) (fun K n o hn ho => ?_) (fun n o hn ho => ?_) (s := []) (K := N) (by omega) (by simp)
  · obtain ⟨h1, h2⟩ := key
    simp only [Int.natCast_zero] at h1
    rw [h1, h2, List.take_length]
  · simp only [Zq101_l0, ilt_lenf hn, br_f]
  · have hol : o.length ≤ n := by
      rw [ho]
      exact Nat.le_trans (List.length_filter_le ..) (by simp; omega)
    simp only [Zq101_l0, ilt_len hn, br_t, inb_n hn, chk_t, rdI_n hn]
    rw [wrap_succ (by omega)]
    by_cases h : a[n] = x
    · rw [ine_f h, br_f, if_neg (by simp [h])]
    · rw [ine_t h, br_t, room_ok (by simp; omega), chk_t, tApp_d, if_pos (by simp [h])]
  · rw [List.take_add_one, List.getElem?_eq_getElem hn, Option.toList_some, List.filter_append, ← ho]
    by_cases h : a[n] = x
    · rw [if_neg (by simp [h]), List.filter_cons_of_neg (by simp [h])]; simp
    · rw [if_pos (by simp [h]), List.filter_cons_of_pos (by simp [h])]; rfl
theorem xor_bit {A x i : Nat} : (A ^^^ 2 ^ x).testBit i = (A.testBit i ^^ decide (x = i)) := by rw [Nat.testBit_xor, Nat.testBit_two_pow]
theorem xor_lt {m A x : Nat} (hA : A < 2 ^ m) (hx : x < m) : A ^^^ 2 ^ x < 2 ^ m := Nat.xor_lt_two_pow hA (Nat.pow_lt_pow_right (by omega) hx)
theorem l4Turned_eq {N m A x : Nat} (hm : m ≤ 8) (hA : A < 2 ^ m) (hx : x < m) (hN : 1048577 ≤ N) : Zq100 N (setOf m A) (x : Int) = some ((setOf m (A ^^^ 2 ^ x), ()), ()) := by
  have hsl := setOf_len m A
  have hl : (setOf m A).length ≤ 1048576 := by omega
  unfold Zq100
  rw [l1Has_eq hl hN, bind_some']
  simp only []
  by_cases h : (x : Int) ∈ setOf m A
  · rw [decide_eq_true h, br_t, l4Without_eq hl hN, bind_some']
    have hb := (mem_setN.1 h).2
    congr 3
    refine asc_ext ((setOf_strict m A).filter _) (setOf_strict m _) fun z => ?_
    rw [List.mem_filter, decide_eq_true_eq]
    constructor
    · rintro ⟨h1, h2⟩
      obtain ⟨i, h3, h4, rfl⟩ := mem_setOf.1 h1
      have : x ≠ i := fun e => h2 (by rw [e])
      exact mem_setN.2 ⟨h3, by rw [xor_bit, h4]; simp [this]⟩
    · intro h1
      obtain ⟨i, h3, h4, rfl⟩ := mem_setOf.1 h1
      rw [xor_bit] at h4
      by_cases e : x = i
      · subst e; rw [hb] at h4; simp at h4
      · simp [e] at h4
        exact ⟨mem_setN.2 ⟨h3, h4⟩, by omega⟩
  · rw [decide_eq_false h, br_f, l1Put_ro hl hN, bind_some']
    have hb : A.testBit x = false := Bool.eq_false_iff.2 fun h' => h (mem_setN.2 ⟨hx, h'⟩)
    congr 3
    refine asc_ext (putI_strict (setOf_strict m A)) (setOf_strict m _) fun z => ?_
    rw [putI_mem]
    constructor
    · rintro (rfl | h1)
      · exact mem_setN.2 ⟨hx, by rw [xor_bit, hb]; simp⟩
      · obtain ⟨i, h3, h4, rfl⟩ := mem_setOf.1 h1
        have : x ≠ i := fun e => by subst e; rw [hb] at h4; cases h4
        exact mem_setN.2 ⟨h3, by rw [xor_bit, h4]; simp [this]⟩
    · intro h1
      obtain ⟨i, h3, h4, rfl⟩ := mem_setOf.1 h1
      rw [xor_bit] at h4
      by_cases e : x = i
      · subst e; exact .inl rfl
      · simp [e] at h4
        exact .inr (mem_setN.2 ⟨h3, h4⟩)
def pairsUp (o : List (Int × Int)) : Prop := o.Pairwise edgeLt
theorem edgeLt_trans {a b c : Int × Int} (h1 : edgeLt a b) (h2 : edgeLt b c) : edgeLt a c := by unfold edgeLt at *; omega
theorem edgeLt_tot {a b : Int × Int} (h : ¬ edgeLt a b) (hne : a ≠ b) : edgeLt b a := by
  unfold edgeLt at *
  by_cases h1 : a.1 = b.1
  · by_cases h2 : a.2 = b.2
    · exact absurd (Prod.ext h1 h2) hne
    · omega
  · omega
theorem putPair_eq {N : Nat} {o : List (Int × Int)} {e : Int × Int} (ho : pairsUp o) (hl : o.length ≤ 1048576) (hN : 1048577 ≤ N) : ∃ o', Zq89 N o e = some ((o', ()), ()) ∧ pairsUp o' ∧ (∀ f, f ∈ o' ↔ f ∈ o ∨ f = e) ∧ o'.length ≤ o.length + 1 := by
  unfold pairsUp at ho
  have find : ∀ (k K : Nat) (k0 : Int → List (Int × Int) → Int → Int → Option ((List (Int × Int) × Unit) × Unit)), k < K → k ≤ o.length → (∀ j (h : j < o.length), k ≤ j → edgeLt e o[j]) →
      ∃ k2 : Nat, k2 ≤ o.length ∧ (∀ j (h : j < o.length), j < k2 → ¬ edgeLt e o[j]) ∧ (∀ j (h : j < o.length), k2 ≤ j → edgeLt e o[j]) ∧ Zq89_l0 N k0 K (k : Int) o e.1 e.2 = k0 (k2 : Int) o e.1 e.2 := by
    intro k
    induction k with
    | zero =>
      intro K k0 hK hk h
      obtain ⟨K, rfl⟩ := succ_of hK
      refine ⟨0, hk, fun j h1 h2 => absurd h2 (Nat.not_lt_zero j), h, ?_⟩
      simp only [Zq89_l0, Int.natCast_zero]
      rw [ilt_f (by decide), br_f]
    | succ k ih =>
      intro K k0 hK hk h
      obtain ⟨K, rfl⟩ := succ_of hK
      have hko : k < o.length := by omega
      simp only [Zq89_l0]
      rw [ilt_t (by omega), br_t, wrap_pred (by omega) (by omega), show k + 1 - 1 = k by omega, inb_n hko, chk_t, rdP_n hko, l2Edge_eq, bind_some']
      simp only [show ((e.1, e.2) : Int × Int) = e from rfl]
      by_cases hc : edgeLt e o[k]
      · rw [decide_eq_true hc, br_t]
        exact ih K k0 (by omega) (by omega) fun j hj hkj => by
          by_cases he : j = k
          · subst he; exact hc
          · exact h j hj (by omega)
      · rw [decide_eq_false hc, br_f]
        refine ⟨k + 1, hk, fun j hj hjk => ?_, h, rfl⟩
        by_cases he : j = k
        · subst he; exact hc
        · have := List.pairwise_iff_getElem.1 ho j k hj hko (by omega)
          exact fun h2 => hc (edgeLt_trans h2 this)
  unfold Zq89
  obtain ⟨k, k1, k2, k3, k4⟩ := find o.length N (fun kv o o1 o2 => (br (ilt 0 kv)
    ((chk (inb o (IntKind.i64.wrap (kv - 1)))
      (br (ieq ((rdP o (IntKind.i64.wrap (kv - 1))).1) o1 && ieq ((rdP o (IntKind.i64.wrap (kv - 1))).2) o2)
      (some ((o, ()), ()))
      ((chk (ile 0 0 && ile 0 kv && ile kv (tLen o))
        (chk (room (α := (Int × Int)) (β := (Int × Int)) [] (tCut o 0 kv))
        (chk (room (tApp [] (tCut o 0 kv)) [(o1, o2)])
        (chk (ile 0 kv && ile kv (tLen o) && ile (tLen o) (tLen o))
        (chk (room (tApp (tApp [] (tCut o 0 kv)) [(o1, o2)]) (tCut o kv (tLen o)))
        (some (((tApp (tApp (tApp [] (tCut o 0 kv)) [(o1, o2)]) (tCut o kv (tLen o))), ()), ())))))))))))
    ((chk (ile 0 0 && ile 0 kv && ile kv (tLen o))
      (chk (room (α := (Int × Int)) (β := (Int × Int)) [] (tCut o 0 kv))
      (chk (room (tApp [] (tCut o 0 kv)) [(o1, o2)])
      (chk (ile 0 kv && ile kv (tLen o) && ile (tLen o) (tLen o))
      (chk (room (tApp (tApp [] (tCut o 0 kv)) [(o1, o2)]) (tCut o kv (tLen o)))
      (some (((tApp (tApp (tApp [] (tCut o 0 kv)) [(o1, o2)]) (tCut o kv (tLen o))), ()), ())))))))))) (by omega) (Nat.le_refl _) (fun j hj h => by omega)
  rw [tLen_n, k4]
  have hcut0 : tCut o 0 (k : Int) = o.take k := by have := tCut_n o 0 k; simpa using this
  have hcutk : tCut o (k : Int) (tLen o) = o.drop k := by rw [tLen_n, tCut_n, List.take_of_length_le (Nat.le_refl _)]
  have h1 : (ile 0 0 && ile 0 (k : Int) && ile (k : Int) (tLen o)) = true := by rw [ile_t (Int.le_refl _), ile_t (by omega), tLen_n, ile_t (by omega)]; rfl
  have h2 : (ile 0 (k : Int) && ile (k : Int) (tLen o) && ile (tLen o) (tLen o)) = true := by rw [ile_t (by omega), tLen_n, ile_t (by omega), ile_t (Int.le_refl _)]; rfl
  have r1 : room (α := Int × Int) (β := Int × Int) [] (o.take k) = true := room_ok (by rw [List.length_take, List.length_nil]; omega)
  have r2 : room (tApp [] (o.take k)) [(e.1, e.2)] = true := room_ok (by simp only [tApp, List.nil_append, List.length_take, List.length_singleton]; omega)
  have r3 : room (tApp (tApp [] (o.take k)) [(e.1, e.2)]) (o.drop k) = true := room_ok (by simp only [tApp, List.nil_append, List.length_append, List.length_take, List.length_drop, List.length_singleton]; omega)
  have ee : tApp (tApp (tApp [] (o.take k)) [(e.1, e.2)]) (o.drop k) = o.take k ++ e :: o.drop k := by simp [tApp]
  have hput : (∀ j (h : j < o.length), j < k → o[j] ≠ e) → pairsUp (o.take k ++ e :: o.drop k) ∧ (∀ f, f ∈ o.take k ++ e :: o.drop k ↔ f ∈ o ∨ f = e) ∧ (o.take k ++ e :: o.drop k).length ≤ o.length + 1 := by
    intro hne
    refine ⟨List.pairwise_append.2 ⟨ho.sublist (List.take_sublist ..), List.pairwise_cons.2 ⟨fun y hy => ?_, ho.sublist (List.drop_sublist ..)⟩, fun a ha b hb => ?_⟩, fun s => ?_, by simp; omega⟩
    · obtain ⟨j, hj, rfl⟩ := List.getElem_of_mem hy
      rw [List.getElem_drop]
      exact k3 _ (by simp at hj; omega) (by omega)
    · obtain ⟨j, hj, rfl⟩ := List.getElem_of_mem ha
      have hj' : j < k ∧ j < o.length := by simp at hj; omega
      rw [List.getElem_take]
      have hax : edgeLt o[j] e := edgeLt_tot (k2 j hj'.2 hj'.1) (fun q => hne j hj'.2 hj'.1 q.symm)
      rcases List.mem_cons.1 hb with rfl | hb
      · exact hax
      · obtain ⟨l, hl', rfl⟩ := List.getElem_of_mem hb
        rw [List.getElem_drop]
        exact List.pairwise_iff_getElem.1 ho _ _ hj'.2 (by simp at hl'; omega) (by omega)
    · rw [List.mem_append, List.mem_cons]
      have := List.take_append_drop k o
      constructor
      · rintro (h | h | h)
        · exact .inl (List.mem_of_mem_take h)
        · exact .inr h
        · exact .inl (List.mem_of_mem_drop h)
      · rintro (h | h)
        · rw [← this, List.mem_append] at h
          rcases h with h | h
          · exact .inl h
          · exact .inr (.inr h)
        · exact .inr (.inl h)
  by_cases hk0 : k = 0
  · subst hk0
    have e0 : ilt 0 ((0 : Nat) : Int) = false := rfl
    rw [e0, br_f, h1, chk_t, hcut0, r1, chk_t, r2, chk_t, h2, chk_t, hcutk, r3, chk_t, ee]
    exact ⟨_, rfl, hput fun j h h0 => absurd h0 (Nat.not_lt_zero j)⟩
  · have hk' : k - 1 < o.length := by omega
    rw [ilt_t (by omega), br_t, wrap_pred (by omega) (by omega), inb_n hk', chk_t, rdP_n hk']
    by_cases he : o[k - 1] = e
    · rw [he, ieq_t rfl, ieq_t rfl]
      simp only [Bool.and_self, br_t]
      refine ⟨o, rfl, ho, fun f => ⟨.inl, ?_⟩, by omega⟩
      rintro (h | h)
      · exact h
      · rw [h, ← he]; exact List.getElem_mem hk'
    · have hb : (ieq o[k - 1].1 e.1 && ieq o[k - 1].2 e.2) = false := by
        by_cases q1 : o[k - 1].1 = e.1
        · by_cases q2 : o[k - 1].2 = e.2
          · exact absurd (Prod.ext q1 q2) he
          · rw [ieq_f q2, Bool.and_false]
        · rw [ieq_f q1]; rfl
      rw [hb, br_f, h1, chk_t, hcut0, r1, chk_t, r2, chk_t, h2, chk_t, hcutk, r3, chk_t, ee]
      refine ⟨_, rfl, hput fun j h hj q => ?_⟩
      by_cases hj1 : j = k - 1
      · subst hj1; exact he q
      · have := List.pairwise_iff_getElem.1 ho j (k - 1) h hk' (by omega)
        rw [q] at this
        exact k2 (k - 1) hk' (by omega) this
theorem mem_stepsL {p : List Int → List Int → Bool} {xs : List (List Int)} {e : Int × Int} : e ∈ stepsL p xs ↔ ∃ i j : Nat, e = ((i : Int), (j : Int)) ∧ i < j ∧ j < xs.length ∧ p (rdL xs (i : Int)) (rdL xs (j : Int)) = true := by
  unfold stepsL rowSteps
  rw [List.mem_flatMap]
  constructor
  · rintro ⟨i, hi, he⟩
    obtain ⟨j, hj, rfl⟩ := List.mem_map.1 he
    obtain ⟨h1, h2⟩ := List.mem_filter.1 hj
    have := List.mem_range'_1.1 h1
    exact ⟨i, j, rfl, by omega, by omega, h2⟩
  · rintro ⟨i, j, rfl, h1, h2, h3⟩
    exact ⟨i, List.mem_range'_1.2 (by omega), List.mem_map.2 ⟨j, List.mem_filter.2 ⟨List.mem_range'_1.2 (by omega), h3⟩, rfl⟩⟩
theorem mem_lone {a b : List Int} {z : Int} : z ∈ loneL a b ↔ z ∈ a ∧ z ∉ b := by
  unfold loneL
  rw [List.mem_filter, decide_eq_true_eq]
theorem risingP {m : Nat} {s : List Int} (h : rising 0 ((m : Int) - 1) s) : s.Pairwise (· < ·) := rising_strict h
theorem risingN {m : Nat} {s : List Int} (h : rising 0 ((m : Int) - 1) s) : ∀ z ∈ s, InN m z := fun z hz => by
  have := rising_in h z hz
  exact ⟨this.1, by omega⟩
theorem rising_set {m : Nat} {s : List Int} (hm : m ≤ 8) (h : rising 0 ((m : Int) - 1) s) : ∃ A : Nat, A < 2 ^ m ∧ s = setOf m A := by
  have hin := risingN h
  have hnd : s.Nodup := (risingP h).imp fun h e => by omega
  have hl : s.length ≤ m := by
    have := nodup_le hnd (b := (List.range' 0 m).map fun i : Nat => (i : Int)) fun z hz => by
      obtain ⟨k, hk, rfl⟩ := nat_of (hin z hz)
      exact List.mem_map.2 ⟨k, List.mem_range'_1.2 (by omega), rfl⟩
    simpa using this
  obtain ⟨q, q1, q2, q3⟩ := bagOf_eq (N := 1048577) (xs := s) (fun y hy => by have := hin y hy; unfold InN at this; omega) (by omega) (Nat.le_refl _)
  have hq : ∀ i, m ≤ i → q.testBit i = false := fun i hi => by
    refine Bool.eq_false_iff.2 fun h => ?_
    have := hin _ ((q3 i).1 h)
    unfold InN at this
    omega
  have hq2 : q < 2 ^ m := Nat.lt_pow_two_of_testBit q hq
  refine ⟨q, hq2, asc_ext (risingP h) (setOf_strict m q) fun z => ?_⟩
  constructor
  · intro hz
    obtain ⟨k, hk, rfl⟩ := nat_of (hin z hz)
    exact mem_setN.2 ⟨hk, (q3 k).2 hz⟩
  · intro hz
    obtain ⟨k, hk, hb, rfl⟩ := mem_setOf.1 hz
    exact (q3 k).1 hb
def ofK (g : Int × List (Int × Int)) (kind : Int) (s : List Int) : Prop := (goodG g ∧ 1 ≤ kind ∧ kind ≤ 3) ∧ rising 0 (g.1 - 1) s ∧ hasK g.1.toNat g.2 kind s
theorem l4Good_eq {N : Nat} {g : Int × List (Int × Int)} {kind : Int} (hx : g.2.length ≤ 1048576) (hN : 1048577 ≤ N) : Zq93 N g kind = some ((decide (goodG g ∧ 1 ≤ kind ∧ kind ≤ 3), ()), ()) := by
  unfold Zq93 Zq95
  simp only [show ((g.1, g.2) : Int × List (Int × Int)) = g from rfl, l2Good_eq hx hN, l1In_eq, bind_some']
  by_cases h : goodG g
  · rw [decide_eq_true h, br_t]; simp [h]
  · rw [decide_eq_false h, br_f]; simp [h]
theorem l4One_eq {N : Nat} {g : Int × List (Int × Int)} {kind : Int} {s : List Int} (hx : g.2.length ≤ 1048576) (hs : s.length ≤ 1048576) (hN : 1048577 ≤ N) : Zq96 N g kind s = some ((decide (ofK g kind s), ()), ()) := by
  unfold Zq96 Zq60 Zq90
  simp only [show ((g.1, g.2) : Int × List (Int × Int)) = g from rfl]
  rw [l4Good_eq hx hN, bind_some']
  by_cases h : goodG g ∧ 1 ≤ kind ∧ kind ≤ 3
  · have hg1 := h.1.1
    rw [decide_eq_true h]
    simp only [Bool.not_true, br_f]
    rw [wrap_ok (by omega) (by omega), l1Rising_eq hs hN, bind_some', bind_some']
    by_cases h2 : rising 0 (g.1 - 1) s
    · rw [decide_eq_true h2]
      simp only [Bool.not_true, br_f]
      obtain ⟨m, hm⟩ : ∃ m : Nat, g.1 = (m : Int) := ⟨g.1.toNat, by omega⟩
      obtain ⟨g1, es⟩ := g
      simp only [] at hm hx hg1 ⊢
      subst hm
      rw [l4Has_eq (by omega) hx hs hN, bind_some', bind_some']
      by_cases h3 : hasK m es kind s
      · rw [decide_eq_true h3, br_t, decide_eq_true (show ofK ((m : Int), es) kind s from ⟨h, h2, h3⟩)]
      · rw [decide_eq_false h3, br_f, decide_eq_false (fun q : ofK ((m : Int), es) kind s => h3 q.2.2)]
    · rw [decide_eq_false h2, decide_eq_false (fun q : ofK g kind s => h2 q.2.1)]
      rfl
  · rw [decide_eq_false h, decide_eq_false (fun q : ofK g kind s => h q.1)]
    rfl
theorem isOfKind_eq {N : Nat} {g : Int × List (Int × Int)} {kind : Int} {s : List Int} (hx : g.2.length ≤ 1048576) (hs : s.length ≤ 1048576) (hN : 1048577 ≤ N) : Zq32 N g kind s = some ((decide (ofK g kind s), ()), ()) := by
  unfold Zq32 Zq19 Zq35 Zq31
  simp only [show ((g.1, g.2) : Int × List (Int × Int)) = g from rfl]
  rw [IsGraph_eq hx hN, bind_some']
  by_cases h : goodG g
  · have hg1 := h.1
    rw [decide_eq_true h, br_t]
    simp only [between_eq, bind_some']
    by_cases hk : 1 ≤ kind ∧ kind ≤ 3
    · rw [decide_eq_true hk, br_t, isRising_eq hs (by omega) hN, bind_some', bind_some']
      by_cases h2 : rising 0 (g.1 - 1) s
      · rw [decide_eq_true h2]
        simp only [Bool.not_true, br_f]
        obtain ⟨m, hm⟩ : ∃ m : Nat, g.1 = (m : Int) := ⟨g.1.toNat, by omega⟩
        obtain ⟨g1, es⟩ := g
        simp only [] at hm hx hg1 ⊢
        subst hm
        obtain ⟨A, hA, rfl⟩ := rising_set (by omega) h2
        rw [bagOf_set (by omega) hA hN, bind_some']
        simp only []
        rw [hasKind_eq (by omega) hA h hx hN, bind_some', bind_some']
        congr 3
        exact decide_eq_decide.2 ⟨fun q => ⟨⟨h, hk⟩, h2, q⟩, fun q => q.2.2⟩
      · rw [decide_eq_false h2, decide_eq_false (fun q : ofK g kind s => h2 q.2.1)]
        rfl
    · rw [decide_eq_false hk, decide_eq_false (fun q : ofK g kind s => hk q.1.2)]
      rfl
  · rw [decide_eq_false h, decide_eq_false (fun q : ofK g kind s => h q.1.1)]
    rfl
theorem clique_mem {s : List Int} (hs : s.Pairwise (· < ·)) {p : Int → Int → Prop} : (∀ i j : Nat, i < s.length → j < i → p (rdI s (i : Int)) (rdI s (j : Int))) ↔ ∀ x ∈ s, ∀ y ∈ s, y < x → p x y := by
  constructor
  · intro h x hx y hy hxy
    obtain ⟨i, hi, rfl⟩ := List.getElem_of_mem hx
    obtain ⟨j, hj, rfl⟩ := List.getElem_of_mem hy
    have hji : j < i := by
      refine Nat.lt_of_not_le fun hle => ?_
      by_cases e : i = j
      · subst e; omega
      · have := List.pairwise_iff_getElem.1 hs i j hi hj (by omega)
        omega
    have := h i j hi hji
    rwa [rdI_n hi, rdI_n hj] at this
  · intro h i j hi hj
    rw [rdI_n hi, rdI_n (show j < s.length by omega)]
    exact h _ (List.getElem_mem hi) _ (List.getElem_mem _) (List.pairwise_iff_getElem.1 hs j i (by omega) hi hj)
theorem hasK_up {m : Nat} {es : List (Int × Int)} {kind : Int} {s t : List Int} (hk : kind ≠ 2) (hst : ∀ x ∈ s, x ∈ t) (h : hasK m es kind s) : hasK m es kind t := by
  unfold hasK at *
  by_cases h1 : kind = 1
  · rw [if_pos h1] at h ⊢
    exact fun e he => (h e he).imp (hst _) (hst _)
  · rw [if_neg h1, if_neg hk] at h ⊢
    exact fun x hx => (h x hx).imp (hst _) fun ⟨y, hy, hn⟩ => ⟨y, hst y hy, hn⟩
theorem hasK_down {m : Nat} {es : List (Int × Int)} {A B : Nat} (hst : ∀ x ∈ setOf m B, x ∈ setOf m A) (h : hasK m es 2 (setOf m A)) : hasK m es 2 (setOf m B) := by
  unfold hasK at *
  rw [if_neg (by decide), if_pos rfl] at h ⊢
  rw [clique_mem (p := fun x y => nearG es x y) (setOf_strict m _)] at h ⊢
  exact fun x hx y hy hxy => h x (hst x hx) y (hst y hy) hxy
theorem l1Least_eq {N : Nat} {x y : Int} : Zq76 N x y = some (((if x < y then x else y), ()), ()) := by
  unfold Zq76
  by_cases h : x < y
  · rw [ilt_t h, br_t, if_pos h]
  · rw [ilt_f h, br_f, if_neg h]
def CurOk (code : List Int) (k : Nat) (c : List Int × (Int × Int)) : Prop := c.1 = code ∧ 0 ≤ c.2.1 ∧ c.2.1 ≤ (k : Int)
def codeOk (code : List Int) : Prop := code.length ≤ 1048576 ∧ ∀ x ∈ code, 0 ≤ x ∧ x ≤ 255
theorem cur_mono {code : List Int} {k l : Nat} {c : List Int × (Int × Int)} (h : CurOk code k c) (hl : k ≤ l) : CurOk code l c := ⟨h.1, h.2.1, by have := h.2.2; omega⟩
theorem u8_and (x : Int) : 0 ≤ IntKind.i64.wrap (bitop .and .u64 x 255) ∧ IntKind.i64.wrap (bitop .and .u64 x 255) ≤ 255 := by
  have h : ∃ n : Nat, bitop .and .u64 x 255 = (n : Int) ∧ n ≤ 255 := by
    unfold bitop
    simp only []
    have e : (BitVec.ofInt IntKind.u64.bits x &&& BitVec.ofInt IntKind.u64.bits 255).toNat = (BitVec.ofInt IntKind.u64.bits x).toNat &&& 255 := by
      rw [BitVec.toNat_and]; rfl
    have hle : (BitVec.ofInt IntKind.u64.bits x).toNat &&& 255 ≤ 255 := Nat.and_le_right
    refine ⟨(BitVec.ofInt IntKind.u64.bits x).toNat &&& 255, ?_, hle⟩
    rw [e]
    unfold IntKind.wrap
    simp only [IntKind.signed, IntKind.bits]
    have : (((BitVec.ofInt 64 x).toNat &&& 255 : Nat) : Int) % 2 ^ 64 = (((BitVec.ofInt 64 x).toNat &&& 255 : Nat) : Int) := by
      refine Int.emod_eq_of_lt (by omega) ?_
      have : (BitVec.ofInt 64 x).toNat &&& 255 ≤ 255 := Nat.and_le_right
      omega
    simpa using this
  obtain ⟨n, h1, h2⟩ := h
  rw [h1, wrap_ok (by omega) (by omega)]
  omega
theorem next_ok {N : Nat} {code : List Int} {k : Nat} {c : List Int × (Int × Int)} (hco : codeOk code) (h : CurOk code k c) (hk : k ≤ 1000000000) : ∃ x c', Zq68 N c = some ((x, ()), (c', ())) ∧ CurOk code (k + 1) c' ∧ 0 ≤ x ∧ x ≤ 255 := by
  obtain ⟨cd, at', seed⟩ := c
  obtain ⟨h1, h2, h3⟩ := h
  simp only at h1 h2 h3
  subst h1
  have hw : IntKind.i64.wrap (at' + 1) = at' + 1 := wrap_ok (by omega) (by omega)
  unfold Zq68
  simp only [hw]
  by_cases hlt : at' < (cd.length : Int)
  · obtain ⟨n, rfl⟩ := Int.eq_ofNat_of_zero_le h2
    have hn : n < cd.length := by omega
    have hb := hco.2 _ (List.getElem_mem hn)
    have hrd : rd U8 cd (n : Int) = cd[n] := by
      unfold rd
      rw [Int.toNat_natCast, List.getD_eq_getElem?_getD, List.getElem?_eq_getElem hn]
      rfl
    rw [ilt_len hn, br_t, inb_n hn, chk_t, hrd]
    by_cases hle : (n : Int) + 1 ≤ (cd.length : Int)
    · rw [tLen_n, ile_t hle, br_t]
      refine ⟨_, _, rfl, ⟨rfl, by show (0 : Int) ≤ (n : Int) + 1; omega, by show (n : Int) + 1 ≤ ((k + 1 : Nat) : Int); omega⟩, ?_⟩
      rw [wrap_ok (by omega) (by omega)]
      exact hb
    · omega
  · rw [tLen_n, ilt_f hlt, br_f]
    by_cases hle : at' + 1 ≤ (cd.length : Int)
    · rw [ile_t hle, br_t]
      exact ⟨_, _, rfl, ⟨rfl, by show (0 : Int) ≤ at' + 1; omega, by show at' + 1 ≤ ((k + 1 : Nat) : Int); omega⟩, by omega, by omega⟩
    · rw [ile_f hle, br_f]
      exact ⟨_, _, rfl, ⟨rfl, by show (0 : Int) ≤ at' + 1; omega, by show at' + 1 ≤ ((k + 1 : Nat) : Int); omega⟩, u8_and _⟩
theorem tmod_in {x n : Int} (hx : 0 ≤ x) (hn : 1 ≤ n) : 0 ≤ x.tmod n ∧ x.tmod n < n ∧ x.tmod n ≤ x := by
  obtain ⟨a, rfl⟩ := Int.eq_ofNat_of_zero_le hx
  obtain ⟨b, rfl⟩ := Int.eq_ofNat_of_zero_le (show 0 ≤ n by omega)
  have e : ((a : Int)).tmod (b : Int) = ((a % b : Nat) : Int) := rfl
  rw [e]
  have := Nat.mod_lt a (show 0 < b by omega)
  have := Nat.mod_le a b
  omega
theorem pick_ok {N : Nat} {code : List Int} {k : Nat} {c : List Int × (Int × Int)} (hco : codeOk code) (h : CurOk code k c) (hk : k ≤ 1000000) (n : Int) : ∃ x c', Zq72 N c n = some ((x, ()), (c', ())) ∧ CurOk code (k + 2) c' ∧ 0 ≤ x ∧ x ≤ 65535 ∧ (1 ≤ n → x < n) := by
  unfold Zq72
  by_cases h1 : n ≤ 1
  · rw [ile_t h1, br_t]
    exact ⟨_, _, rfl, cur_mono h (by omega), by omega, by omega, fun h => by omega⟩
  · rw [ile_f h1, br_f]
    obtain ⟨x, c', e1, e2, e3, e4⟩ := next_ok (N := N) hco h (by omega)
    rw [e1, bind_some']
    simp only []
    by_cases h2 : 200 < n
    · rw [ilt_t h2, br_t]
      obtain ⟨y, c2, f1, f2, f3, f4⟩ := next_ok (N := N) hco e2 (by omega)
      rw [f1, bind_some', ine_t (show n ≠ 0 by omega), chk_t]
      simp only []
      rw [wrap_ok (n := x * 256) (by omega) (by omega), wrap_ok (by omega) (by omega)]
      have := tmod_in (x := x * 256 + y) (n := n) (by omega) (by omega)
      exact ⟨_, _, rfl, f2, by omega, by omega, fun _ => by omega⟩
    · rw [ilt_f h2, br_f, ine_t (show n ≠ 0 by omega), chk_t]
      have := tmod_in (x := x) (n := n) (by omega) (by omega)
      exact ⟨_, _, rfl, cur_mono e2 (by omega), by omega, by omega, fun _ => by omega⟩
end Go.Proofs.YtffeokcchabclaaGreat
