/- Statements on data alone. -/
import Derived.Test.YtkffaahlpdlkoaaGreatPvPure
import Derived.Test.YtkffaahlpdlkoaaGreatGreedyColoursLawGd
set_option linter.all false
set_option linter.all false
namespace Go.Proofs.YtkffaahlpdlkoaaGreat
open Go Go.PV Classical
theorem good_irr {g : Int × List (Int × Int)} (hg : goodG g) : ∀ y : Int, ¬ nearG g.2 y y := fun y h => by
  rcases h with h | h
  · have := goodG_edges hg _ h
    simp only at this
    omega
  · have := goodG_edges hg _ h
    simp only at this
    omega
theorem greedy_in {R : Type} {N m : Nat} {es : List (Int × Int)} {o : List Int} {x x4' x5 : Int} {x4 : List Int} {k0 : Int → List Int → Int → Int → Int → List (Int × Int) → Int → List Int → Option R} (hm : m ≤ 8) (hg : goodG ((m : Int), es)) (hes : es.length ≤ 1048576) (hl : o.length = m) (hN : 1048577 ≤ N) :
    ∀ (d c K : Nat), c + d = leastC m es o x → d < K → Zq11_l0_0 N k0 K x x4 x4' x5 (m : Int) es (c : Int) o = k0 x x4 x4' x5 (m : Int) es (leastC m es o x : Int) o := by
  obtain ⟨l1, l2⟩ := leastC_le hm es o x
  have l3 := (leastC_spec m es o x).2.1
  have hc1 : ∀ (c : Nat), Zq46 N (nbr m es x) (fun y0 => (Zq12 N y0 o (c : Int)).bind fun z => some z.1.1) = some (((nbr m es x).any fun y => decide (rdI o y = (c : Int)), ()), ()) := fun c =>
    ContainsFunc_LI_int_eq (fun y hy => by
      obtain ⟨j, hj, _, rfl⟩ := mem_nbr.1 hy
      unfold Zq12
      rw [inb_n (by omega), chk_t, bind_some', ieq_d]) (by have := nbr_len m es x; omega) (by have := nbr_len m es x; omega)
  intro d
  induction d with
  | zero =>
    intro c K hc hK
    obtain ⟨K, rfl⟩ := succ_of hK
    have ec : c = leastC m es o x := by omega
    simp only [Zq11_l0_0]
    rw [neighbors_eq hg hes hN, bind_some', hc1 c, bind_some']
    have : ((nbr m es x).any fun y => decide (rdI o y = (c : Int))) = false := by
      rw [List.any_eq_false]
      intro y hy
      rw [decide_eq_false (by rw [ec]; exact l2 y hy)]
      simp
    rw [this, br_f, ec]
  | succ d ih =>
    intro c K hc hK
    obtain ⟨K, rfl⟩ := succ_of hK
    simp only [Zq11_l0_0]
    rw [neighbors_eq hg hes hN, bind_some', hc1 c, bind_some']
    have : ((nbr m es x).any fun y => decide (rdI o y = (c : Int))) = true := by
      rw [List.any_eq_true]
      have := l3 c (by omega)
      unfold freeN at this
      refine Classical.byContradiction fun q => this fun y hy e => q ⟨y, hy, decide_eq_true e⟩
    rw [this, br_t, wrap_succ (by omega)]
    exact ih (c + 1) K (by omega) (by omega)
theorem greedy_out {N m : Nat} {es : List (Int × Int)} {order : List Int} (hm : m ≤ 8) (hg : goodG ((m : Int), es)) (hes : es.length ≤ 1048576) (ho : order.length ≤ 8) (hn : order.Nodup) (hin : ∀ x ∈ order, InN m x) (hN : 1048577 ≤ N) {R : Type} (k0 : List Int → Option R) :
    ∀ (d n K : Nat), n + d = order.length → d < K → Zq11_l0 N k0 K order (order.length : Int) (n : Int) (m : Int) es (grL m es (order.take n)) = k0 (grL m es order) := by
  intro d
  induction d with
  | zero =>
    intro n K hd hK
    obtain ⟨K, rfl⟩ := succ_of hK
    simp only [Zq11_l0, ilt_nf (show ¬ n < order.length by omega), br_f]
    rw [List.take_of_length_le (by omega)]
  | succ d ih =>
    intro n K hd hK
    obtain ⟨K, rfl⟩ := succ_of hK
    have hl : n < order.length := by omega
    have hir : ∀ y : Int, ¬ nearG es y y := good_irr hg
    have hi := ginv_of hm hir hn hin n (by omega)
    have hlc := leastC_le hm es (grL m es (order.take n)) (rdI order (n : Int))
    have hx := hin _ (List.getElem_mem hl)
    simp only [Zq11_l0, ilt_n hl, br_t, inb_n hl, chk_t]
    have h0 := greedy_in (N := N) (x := rdI order (n : Int)) (x4 := order) (x4' := (order.length : Int)) (x5 := (n : Int)) (k0 := fun x3 x4 x5 x6 o3 o4 o5 o6 => (chk (inb o6 x3) (Zq11_l0 N k0 K x4 x5 (IntKind.i64.wrap (x6 + 1)) o3 o4 (tSet o6 x3 o5)))) hm hg hes hi.len hN (leastC m es (grL m es (order.take n)) (rdI order (n : Int))) 0 N (by omega) (by omega)
    rw [show ((0 : Nat) : Int) = 0 from rfl] at h0
    rw [h0]
    try simp only []
    rw [inb_i (by rw [rdI_n hl]; exact hx.1) (by rw [rdI_n hl, hi.len]; exact hx.2), chk_t, wrap_succ (by omega)]
    have e : tSet (grL m es (order.take n)) (rdI order (n : Int)) (leastC m es (grL m es (order.take n)) (rdI order (n : Int)) : Int) = grL m es (order.take (n + 1)) := by
      rw [List.take_add_one, List.getElem?_eq_getElem hl, rdI_n hl]
      exact (grL_snoc m es (order.take n) order[n]).symm
    rw [e]
    exact ih (n + 1) K (by omega) (by omega)
noncomputable def greedyR (g : Int × List (Int × Int)) (order : List Int) : List Int × Bool := if goodG g ∧ isOrd order g.1 then (grL g.1.toNat g.2 order, true) else ([], false)
theorem ord_facts {m : Nat} {order : List Int} (h : isOrd order (m : Int)) : order.Nodup ∧ (∀ x ∈ order, InN m x) ∧ order.length = m ∧ ∀ x, InN m x → x ∈ order := by
  have hp := ord_perm h
  refine ⟨hp.nodup_iff.1 (upL_nodup m), fun x hx => mem_upL.1 (hp.mem_iff.2 hx), by have := h.1; omega, fun x hx => h.2 x hx.1 hx.2⟩
theorem impl_Greedy_eq {N : Nat} {g : Int × List (Int × Int)} {order : List Int} (hx : g.2.length ≤ 1048576) (ho : order.length ≤ 1048576) (hN : 1048577 ≤ N) : Zq11 N g order = some (((greedyR g order).1, (greedyR g order).2, ()), ()) := by
  unfold Zq11 greedyR
  simp only [show ((g.1, g.2) : Int × List (Int × Int)) = g from rfl]
  rw [IsGraph_eq hx hN, bind_some']
  by_cases hg : goodG g
  · rw [decide_eq_true hg]
    simp only [Bool.not_true, br_f]
    rw [isOrder_eq ho hN, bind_some']
    by_cases h : isOrd order g.1
    · rw [decide_eq_true h, if_pos ⟨hg, h⟩]
      simp only [Bool.not_true, br_f]
      obtain ⟨m0, es⟩ := g
      have hm := hg.1
      simp only at hx h hm ⊢
      obtain ⟨m, rfl⟩ : ∃ m : Nat, m0 = (m : Int) := ⟨m0.toNat, by omega⟩
      obtain ⟨o1, o2, o3, o4⟩ := ord_facts h
      rw [Repeat_eq (by omega) hN, bind_some', tLen_n]
      have := greedy_out (N := N) (by omega) hg hx (by omega) o1 o2 hN (fun o => some ((o, true, ()), ())) order.length 0 N (by omega) (by omega)
      rw [show ((0 : Nat) : Int) = 0 from rfl, List.take_zero] at this
      exact this
    · rw [decide_eq_false h, if_neg fun q => h q.2]
      simp only [Bool.not_false, br_t]
  · rw [decide_eq_false hg, if_neg fun q => hg q.1]
    simp only [Bool.not_false, br_t]
noncomputable def posL (o : List Int) : List Int := o.map fun z => if z < 0 then 0 else z
theorem posL_len (o : List Int) : (posL o).length = o.length := by simp [posL]
theorem posL_rd {o : List Int} {i : Nat} (h : i < o.length) : rdI (posL o) (i : Int) = if rdI o (i : Int) < 0 then 0 else rdI o (i : Int) := by
  rw [rdI_n (by rw [posL_len]; exact h), rdI_n h]
  simp [posL]
theorem posL_set {o : List Int} {x : Int} {c : Nat} : posL (tSet o x (c : Int)) = tSet (posL o) x (c : Int) := by
  unfold posL tSet
  rw [List.map_set, if_neg (by omega)]
noncomputable def usedL (m : Nat) (es : List (Int × Int)) (P o : List Int) (x : Int) : List Int := (P.filter fun y => decide (nearG es y x)).map (rdI (posL o))
theorem used_iff {m : Nat} {es : List (Int × Int)} {P o : List Int} {x : Int} {c : Nat} (h : GInv m es P o) (hP : ∀ y ∈ P, InN m y) : ((c : Int) ∈ usedL m es P o x) ↔ ¬ freeN m es o x c := by
  unfold usedL freeN
  rw [List.mem_map]
  constructor
  · rintro ⟨y, hy, e⟩ q
    rw [List.mem_filter, decide_eq_true_eq] at hy
    obtain ⟨j, hj, rfl⟩ := nat_of (hP y hy.1)
    have hp := h.pos _ (in_nat hj) hy.1
    rw [posL_rd (by rw [h.len]; exact hj), if_neg (by omega)] at e
    exact q _ (mem_nbr.2 ⟨j, hj, nearG_symm.1 hy.2, rfl⟩) e
  · intro q
    refine Classical.byContradiction fun q2 => q fun y hy e => ?_
    obtain ⟨j, hj, hn, rfl⟩ := mem_nbr.1 hy
    by_cases hp : ((j : Nat) : Int) ∈ P
    · refine q2 ⟨_, List.mem_filter.2 ⟨hp, decide_eq_true (nearG_symm.1 hn)⟩, ?_⟩
      rw [posL_rd (by rw [h.len]; exact hj), if_neg (by omega)]
      exact e
    · have := h.neg _ (in_nat hj) hp
      omega
theorem spec_used {R : Type} {N m : Nat} {es : List (Int × Int)} {order o : List Int} {i : Nat} {k0 : List Int → Int → Int → List (Int × Int) → List Int → List Int → Option R} (hes : es.length ≤ 1048576) (hl : o.length = m) (hin : ∀ x ∈ order, InN m x) (hi : i < order.length) (ho : order.length ≤ 8) (hN : 1048577 ≤ N) :
    ∀ (d n K : Nat) (u : List Int), n + d = i → d < K → u = usedL m es (order.take n) o (rdI order (i : Int)) → Zq57_l0_0 N k0 K order (i : Int) (n : Int) (m : Int) es (posL o) u = k0 order (i : Int) (m : Int) es (posL o) (usedL m es (order.take i) o (rdI order (i : Int))) := by
  intro d
  induction d with
  | zero =>
    intro n K u hd hK e
    obtain ⟨K, rfl⟩ := succ_of hK
    have : n = i := by omega
    subst this
    simp only [Zq57_l0_0, ilt_nf (Nat.lt_irrefl n), br_f]
    rw [e]
  | succ d ih =>
    intro n K u hd hK e
    obtain ⟨K, rfl⟩ := succ_of hK
    have hn : n < order.length := by omega
    have hx := hin _ (List.getElem_mem hn)
    have hul : u.length ≤ n := by
      rw [e]
      unfold usedL
      rw [List.length_map]
      exact Nat.le_trans (List.length_filter_le ..) (by rw [List.length_take]; omega)
    simp only [Zq57_l0_0, ilt_n (show n < i by omega), br_t, inb_n hn, inb_n hi, chk_t]
    rw [l2Near_eq (g := ((m : Int), es)) hes hN, bind_some']
    have tk : order.take (n + 1) = order.take n ++ [rdI order (n : Int)] := by rw [List.take_add_one, List.getElem?_eq_getElem hn, rdI_n hn]; rfl
    by_cases h : nearG es (rdI order (n : Int)) (rdI order (i : Int))
    · rw [decide_eq_true h, br_t, inb_i (by rw [rdI_n hn]; exact hx.1) (by rw [rdI_n hn, posL_len, hl]; exact hx.2), chk_t, room_ok (by simp; omega), chk_t, wrap_succ (by omega), tApp_d]
      refine ih (n + 1) K _ (by omega) (by omega) ?_
      rw [tk, e]
      unfold usedL
      rw [List.filter_append, List.map_append, List.filter_cons_of_pos (by exact decide_eq_true h)]
      rfl
    · rw [decide_eq_false h, br_f, wrap_succ (by omega)]
      refine ih (n + 1) K _ (by omega) (by omega) ?_
      rw [tk, e]
      unfold usedL
      rw [List.filter_append, List.map_append, List.filter_cons_of_neg (by rw [decide_eq_false h]; simp)]
      simp
theorem spec_up {R : Type} {N m : Nat} {es : List (Int × Int)} {order o : List Int} {i : Nat} {k0 : List Int → Int → Int → List (Int × Int) → List Int → Option R} (hm : m ≤ 8) (h : GInv m es (order.take i) o) (hin : ∀ x ∈ order, InN m x) (hi : i < order.length) (ho : order.length ≤ 8) (hN : 1048577 ≤ N) :
    ∀ (d c K : Nat), c + d = leastC m es o (rdI order (i : Int)) → d < K → Zq57_l0_1 N k0 K order (i : Int) (m : Int) es (tSet (posL o) (rdI order (i : Int)) (c : Int)) (usedL m es (order.take i) o (rdI order (i : Int))) = k0 order (i : Int) (m : Int) es (tSet (posL o) (rdI order (i : Int)) (leastC m es o (rdI order (i : Int)) : Int)) := by
  obtain ⟨l1, l2⟩ := leastC_le hm es o (rdI order (i : Int))
  have l3 := (leastC_spec m es o (rdI order (i : Int))).2.1
  have hx := hin _ (List.getElem_mem hi)
  rw [← rdI_n hi] at hx
  obtain ⟨j, hj, ej⟩ := nat_of hx
  have hP : ∀ y ∈ order.take i, InN m y := fun y hy => hin y (List.mem_of_mem_take hy)
  have hul : (usedL m es (order.take i) o (rdI order (i : Int))).length ≤ 1048576 := by
    unfold usedL
    rw [List.length_map]
    exact Nat.le_trans (List.length_filter_le ..) (by rw [List.length_take]; omega)
  have hlen : (posL o).length = m := by rw [posL_len, h.len]
  have hrd : ∀ c : Int, rdI (tSet (posL o) (rdI order (i : Int)) c) (rdI order (i : Int)) = c := fun c => by
    rw [ej, rdI_set (by omega) c _ (by omega), if_pos rfl]
  have hib : ∀ c : Int, inb (tSet (posL o) (rdI order (i : Int)) c) (rdI order (i : Int)) = true := fun c => by
    rw [ej]
    exact inb_n (by rw [tSet_n, List.length_set]; omega)
  intro d
  induction d with
  | zero =>
    intro c K hc hK
    obtain ⟨K, rfl⟩ := succ_of hK
    have ec : c = leastC m es o (rdI order (i : Int)) := by omega
    simp only [Zq57_l0_1, inb_n hi, chk_t]
    rw [hib, chk_t, hrd, l1Has_eq hul hN, bind_some', decide_eq_false (fun q => (used_iff h hP).1 q (ec ▸ l2)), br_f, ec]
  | succ d ih =>
    intro c K hc hK
    obtain ⟨K, rfl⟩ := succ_of hK
    simp only [Zq57_l0_1, inb_n hi, chk_t]
    rw [hib, chk_t, hrd, l1Has_eq hul hN, bind_some', decide_eq_true ((used_iff h hP).2 (l3 c (by omega))), br_t, chk_t, chk_t, wrap_succ (by omega)]
    have e : tSet (tSet (posL o) (rdI order (i : Int)) (c : Int)) (rdI order (i : Int)) ((c + 1 : Nat) : Int) = tSet (posL o) (rdI order (i : Int)) ((c + 1 : Nat) : Int) := by
      unfold tSet
      rw [List.set_set]
    rw [e]
    exact ih (c + 1) K (by omega) (by omega)
theorem spec_greedy_out {N m : Nat} {es : List (Int × Int)} {order : List Int} (hm : m ≤ 8) (hg : goodG ((m : Int), es)) (hes : es.length ≤ 1048576) (ho : order.length ≤ 8) (hn : order.Nodup) (hin : ∀ x ∈ order, InN m x) (hN : 1048577 ≤ N) {R : Type} (k0 : List Int → Option R) :
    ∀ (d n K : Nat), n + d = order.length → d < K → Zq57_l0 N k0 K order (n : Int) (m : Int) es (posL (grL m es (order.take n))) = k0 (posL (grL m es order)) := by
  intro d
  induction d with
  | zero =>
    intro n K hd hK
    obtain ⟨K, rfl⟩ := succ_of hK
    simp only [Zq57_l0, ilt_lenf (show ¬ n < order.length by omega), br_f]
    rw [List.take_of_length_le (by omega)]
  | succ d ih =>
    intro n K hd hK
    obtain ⟨K, rfl⟩ := succ_of hK
    have hl : n < order.length := by omega
    have hir : ∀ y : Int, ¬ nearG es y y := good_irr hg
    have hi := ginv_of hm hir hn hin n (by omega)
    have hlc := leastC_le hm es (grL m es (order.take n)) (rdI order (n : Int))
    have hx := hin _ (List.getElem_mem hl)
    simp only [Zq57_l0, ilt_len hl, br_t]
    have h0 := spec_used (N := N) (o := grL m es (order.take n)) (i := n) (k0 := fun x2 x3 o3 o4 o5 o6 => Zq57_l0_1 N (fun x4 x5 o7 o8 o9 => Zq57_l0 N k0 K x4 (IntKind.i64.wrap (x5 + 1)) o7 o8 o9) N x2 x3 o3 o4 o5 o6) hes hi.len hin hl ho hN n 0 N [] (by omega) (by omega) (by simp [usedL])
    rw [show ((0 : Nat) : Int) = 0 from rfl] at h0
    rw [h0]
    try simp only []
    have hz : posL (grL m es (order.take n)) = tSet (posL (grL m es (order.take n))) (rdI order (n : Int)) ((0 : Nat) : Int) := by
      obtain ⟨j, hj, ej⟩ := nat_of hx
      rw [rdI_n hl, ej, tSet_n]
      have hlen : (posL (grL m es (order.take n))).length = m := by rw [posL_len, hi.len]
      refine rd_ext (by rw [List.length_set]) fun q hq => ?_
      have := rdI_set (cs := posL (grL m es (order.take n))) (x := j) (by omega) ((0 : Nat) : Int) (q : Int) (by omega)
      rw [tSet_n] at this
      rw [this]
      split
      · rename_i e
        have e : q = j := by omega
        subst e
        have hnot : ((q : Nat) : Int) ∉ order.take n := fun h => by
          obtain ⟨p, hp, e2⟩ := List.getElem_of_mem h
          rw [List.length_take] at hp
          rw [List.getElem_take, ← ej] at e2
          have := (List.getElem_inj hn).1 e2
          omega
        rw [posL_rd (by rw [hi.len]; omega), hi.neg _ (in_nat hj) hnot]
        rfl
      · rfl
    have h1 := spec_up (N := N) (k0 := fun x4 x5 o7 o8 o9 => Zq57_l0 N k0 K x4 (IntKind.i64.wrap (x5 + 1)) o7 o8 o9) hm hi hin hl ho hN (leastC m es (grL m es (order.take n)) (rdI order (n : Int))) 0 N (by omega) (by omega)
    rw [← hz] at h1
    rw [h1]
    try simp only []
    have e : tSet (posL (grL m es (order.take n))) (rdI order (n : Int)) (leastC m es (grL m es (order.take n)) (rdI order (n : Int)) : Int) = posL (grL m es (order.take (n + 1))) := by
      rw [← posL_set, List.take_add_one, List.getElem?_eq_getElem hl, rdI_n hl]
      exact congrArg posL (grL_snoc m es (order.take n) order[n]).symm
    rw [e, wrap_succ (by omega)]
    exact ih (n + 1) K (by omega) (by omega)
theorem gr_all {m : Nat} {es : List (Int × Int)} {order : List Int} (hm : m ≤ 8) (hir : ∀ y : Int, ¬ nearG es y y) (h : isOrd order (m : Int)) : GInv m es order (grL m es order) := by
  obtain ⟨o1, o2, o3, o4⟩ := ord_facts h
  have := ginv_of hm hir o1 o2 order.length (Nat.le_refl _)
  rwa [List.take_length] at this
theorem spec_Greedy_eq {N : Nat} {g : Int × List (Int × Int)} {order : List Int} (hx : g.2.length ≤ 1048576) (ho : order.length ≤ 1048576) (hN : 1048577 ≤ N) : Zq57 N g order = some (((greedyR g order).1, (greedyR g order).2, ()), ()) := by
  unfold Zq57 greedyR
  simp only [show ((g.1, g.2) : Int × List (Int × Int)) = g from rfl]
  rw [l2Good_eq hx hN, bind_some']
  by_cases hg : goodG g
  · rw [decide_eq_true hg]
    simp only [Bool.not_true, br_f]
    rw [l5Order_eq hg.1 ho hN, bind_some']
    by_cases h : isOrd order g.1
    · rw [decide_eq_true h, if_pos ⟨hg, h⟩]
      simp only [Bool.not_true, br_f]
      obtain ⟨m0, es⟩ := g
      have hm := hg.1
      simp only at hx h hm ⊢
      obtain ⟨m, rfl⟩ : ∃ m : Nat, m0 = (m : Int) := ⟨m0.toNat, by omega⟩
      obtain ⟨o1, o2, o3, o4⟩ := ord_facts h
      rw [ile_t (by omega), ile_t (Int.le_refl _), fits_ok (by omega)]
      have hz : tRep (m : Int) (0 : Int) = posL (grL m es (order.take 0)) := by
        rw [List.take_zero]
        simp [tRep, posL, grL]
      have := spec_greedy_out (N := N) (by omega) hg hx (by omega) o1 o2 hN (fun o => some ((o, true, ()), ())) order.length 0 N (by omega) (by omega)
      rw [show ((0 : Nat) : Int) = 0 from rfl, ← hz] at this
      simp only [Bool.and_self, chk_t]
      rw [this]
      have hir : ∀ y : Int, ¬ nearG es y y := good_irr hg
      have hall := gr_all (by omega) hir h
      have e : posL (grL m es order) = grL m es order := rd_ext (posL_len _) fun i hi => by
        rw [posL_len, hall.len] at hi
        have := hall.pos _ (in_nat hi) (o4 _ (in_nat hi))
        rw [posL_rd (by rw [hall.len]; exact hi), if_neg (by omega)]
      rw [e]
      rfl
    · rw [decide_eq_false h, if_neg fun q => h q.2]
      simp only [Bool.not_false, br_t]
  · rw [decide_eq_false hg, if_neg fun q => hg q.1]
    simp only [Bool.not_false, br_t]
theorem greedyR_len (g : Int × List (Int × Int)) (order : List Int) : (greedyR g order).1.length ≤ 8 := by
  unfold greedyR
  split
  · rename_i h
    have h1 := h.1.1
    obtain ⟨m, hm⟩ : ∃ m : Nat, g.1 = (m : Int) := ⟨g.1.toNat, by omega⟩
    have hir : ∀ y : Int, ¬ nearG g.2 y y := good_irr h.1
    have hall := gr_all (es := g.2) (m := g.1.toNat) (by omega) hir (by rw [hm]; have := h.2; rw [hm] at this; exact this)
    have := hall.len
    simp only
    omega
  · simp
theorem parts_cnt {N : Nat} {xs : List (List Int)} {st : List (Int × Int)} (hx : xs.length ≤ 1000) (hs : st.length ≤ 1048576) (h : okSt xs.length st) (hN : 1048577 ≤ N) :
    ∃ a b : List (List Int), Zq79 N (xs, st) = some ((a, ()), ()) ∧ Zq33 N (nbL xs.length st) (-1) = some ((b, ()), ()) ∧ a.length = cntN (nbL xs.length st) xs.length ∧ b.length = cntN (nbL xs.length st) xs.length := by
  have hl := nbL_ok (n := xs.length) (by omega) h
  have hlen := hl.1
  have h0 : ∀ y : Nat, y < xs.length → (rdB (List.replicate xs.length false) (y : Int) = true ↔ seenP (nbL xs.length st) 0 (y : Int)) := fun y hy => by
    constructor
    · intro q
      unfold rdB at q
      simp [List.getElem?_replicate, hy] at q
    · rintro ⟨j, j1, _⟩
      omega
  obtain ⟨a, a1, a2⟩ := specParts (N := N) hl hx hN xs.length 0 N [] (List.replicate xs.length false) (by omega) (by omega) (by simp [cntN]) (by simp) h0
  obtain ⟨b, b1, b2⟩ := implParts (N := N) hl hx hN xs.length 0 N [] (List.replicate xs.length false) (by omega) (by omega) (by simp [cntN]) (by simp) h0
  have hg : (ile 0 (tLen (nbL xs.length st)) && ile (tLen (nbL xs.length st)) (tLen (nbL xs.length st)) && fits (tLen (nbL xs.length st))) = true := by
    rw [tLen_n, hlen, ile_t (by omega), ile_t (Int.le_refl _), fits_ok (by omega)]
    rfl
  refine ⟨a, b, ?_, ?_, a2, b2⟩
  · unfold Zq79
    simp only []
    rw [l2Lists_eq (by omega) hs h hN, bind_some']
    simp only []
    rw [hg, chk_t, tLen_n, hlen, tRep_n]
    exact a1
  · unfold Zq33
    rw [hg, chk_t, ile_f (by decide), br_f, tLen_n, hlen, tRep_n]
    exact b1
def mixes (g : Int × List (Int × Int)) (k : Int) : Prop := (colCase g k ∧ (allC g k).length ≤ 300) ∧ cntN (nbL (allC g k).length (stepsL isCh (allC g k))) (allC g k).length = 1
theorem Mixing_prop {N : Nat} {g : Int × List (Int × Int)} (hx : g.2.length ≤ 1048576) (hN : 1048577 ≤ N) : ∀ (d k K : Nat), k + d = 6 → d < K → ∃ (v : Int) (b : Bool),
    Zq58_l0 N (fun x x1 => some ((x, x1, ()), ())) (fun (_ : Unit) => some ((0, false, ()), ())) K (k : Int) g.1 g.2 = some ((v, b, ()), ()) ∧ Zq15_l0 N (fun x x1 => some ((x, x1, ()), ())) (fun (_ : Unit) => some ((0, false, ()), ())) K (k : Int) g.1 g.2 = some ((v, b, ()), ()) ∧
      (b = true → mixes g v ∧ (k : Int) ≤ v ∧ v ≤ 5 ∧ ∀ j : Int, (k : Int) ≤ j → j < v → (colCase g j ∧ (allC g j).length ≤ 300) ∧ ¬ mixes g j) := by
  intro d
  induction d with
  | zero =>
    intro k K hd hK
    obtain ⟨K, rfl⟩ := succ_of hK
    refine ⟨0, false, ?_, ?_, fun q => by cases q⟩
    · simp only [Zq58_l0, ile_f (show ¬ (k : Int) ≤ 5 by omega), br_f]
    · simp only [Zq15_l0, ile_f (show ¬ (k : Int) ≤ 5 by omega), br_f]
  | succ d ih =>
    intro k K hd hK
    obtain ⟨K, rfl⟩ := succ_of hK
    obtain ⟨v, b, i1, i2, i3⟩ := ih (k + 1) K (by omega) (by omega)
    have ew : IntKind.i64.wrap ((k : Int) + 1) = ((k + 1 : Nat) : Int) := wrap_succ (by omega)
    simp only [Zq58_l0, Zq15_l0, ile_t (show (k : Int) ≤ 5 by omega), br_t, show ((g.1, g.2) : Int × List (Int × Int)) = g from rfl, ew]
    rw [l5Space_ch hx hN, impl_ColSp hx hN, bind_some', bind_some']
    by_cases h : colCase g (k : Int) ∧ (allC g (k : Int)).length ≤ 300
    · have ec : colSpV g (k : Int) = ((allC g (k : Int), stepsL isCh (allC g (k : Int))), true) := by unfold colSpV; rw [if_pos h]
      rw [ec]
      simp only [Bool.not_true, br_f]
      have hst := colSteps_le h.1 h.2
      have hok := stepsL_ok (p := isCh) (xs := allC g (k : Int))
      obtain ⟨a, b', p1, p2, p3, p4⟩ := parts_cnt (N := N) (xs := allC g (k : Int)) (st := stepsL isCh (allC g (k : Int))) (by omega) (by omega) hok hN
      rw [sroads_eq (by omega) (by omega) hok hN, bind_some']
      simp only []
      rw [p2, bind_some']
      simp only []
      rw [tLen_n, tLen_n, p4]
      have rest : ¬ mixes g (k : Int) → (b = true → mixes g v ∧ (k : Int) ≤ v ∧ v ≤ 5 ∧ ∀ j : Int, (k : Int) ≤ j → j < v → (colCase g j ∧ (allC g j).length ≤ 300) ∧ ¬ mixes g j) := fun hm q => by
        obtain ⟨j1, j2, j3, j4⟩ := i3 q
        refine ⟨j1, by omega, j3, fun j h1 h2 => ?_⟩
        by_cases e : j = (k : Int)
        · rw [e]
          exact ⟨h, hm⟩
        · exact j4 j (by omega) h2
      by_cases h1 : 0 < (allC g (k : Int)).length
      · rw [ilt_t (by omega), br_t, p1, bind_some']
        simp only []
        rw [tLen_n, p3]
        by_cases h2 : cntN (nbL (allC g (k : Int)).length (stepsL isCh (allC g (k : Int)))) (allC g (k : Int)).length = 1
        · rw [ieq_t (by omega), br_t, br_t]
          exact ⟨_, _, rfl, rfl, fun _ => ⟨⟨h, h2⟩, Int.le_refl _, by omega, fun j q1 q2 => by omega⟩⟩
        · rw [ieq_f (by omega), br_f, br_f]
          exact ⟨v, b, i1, i2, rest fun q => h2 q.2⟩
      · have hz : cntN (nbL (allC g (k : Int)).length (stepsL isCh (allC g (k : Int)))) (allC g (k : Int)).length = 0 := by
          have := cntN_le (nbL (allC g (k : Int)).length (stepsL isCh (allC g (k : Int)))) (allC g (k : Int)).length
          omega
        rw [ilt_f (by omega), br_f, hz, ieq_f (by decide), br_f]
        exact ⟨v, b, i1, i2, rest fun q => by have := q.2; omega⟩
    · have ec : colSpV g (k : Int) = (([], []), false) := by unfold colSpV; rw [if_neg h]
      rw [ec]
      exact ⟨0, false, rfl, rfl, fun q => by cases q⟩
theorem peelOf_list {N : Nat} {g : Int × List (Int × Int)} (hg : goodG g) (hx : g.2.length ≤ 1048576) (hN : 1048577 ≤ N) : ∃ (D : Int) (tl : List Nat), Zq17 N g = some ((tl.map (fun c : Nat => (c : Int)), D, true, ()), ()) ∧ -1 ≤ D ∧ D ≤ 8 ∧ (0 < g.1.toNat → 0 ≤ D) ∧ peels g.2 D.toNat tl ∧ ∀ v, v ∈ tl ↔ v < g.1.toNat := by
  obtain ⟨r, r1, r2, r3⟩ := peel_eq (N := N) hx hN
  obtain ⟨m0, es⟩ := g
  have hm := hg.1
  simp only at hx hm
  obtain ⟨m, rfl⟩ : ∃ m : Nat, m0 = m := ⟨m0.toNat, by omega⟩
  have hc : (cand m []).length = m := by
    unfold cand
    rw [List.filter_eq_self.2 (fun c _ => decide_eq_true (by simp))]
    simp
  obtain ⟨tl, D, q1, q2, q3, q4, q5, q6⟩ := peel_prop (N := N) (by omega) hg hx hN m [] (-1) N hc (by simp) (by omega) (by omega)
  have hs : spec_PeelingOf N ((m : Int), es) = some ((tl.map (fun c : Nat => (c : Int)), D, true, ()), ()) := by
    unfold spec_PeelingOf spec_l5Peeling
    simp only [l2Good_eq (g := ((m : Int), es)) hx hN, bind_some']
    rw [decide_eq_true hg, Bool.not_true, br_f, q1]
    rfl
  rw [hs] at r2
  injection r2 with r2
  injection r2 with r2 _
  injection r2 with e1 r2
  injection r2 with e2 r2
  injection r2 with e3 _
  refine ⟨D, tl, by rw [r3, ← e1, ← e2, ← e3], q2, q3, by simpa using q4, q5, fun v => ?_⟩
  rw [q6 v, mem_cand]
  simp
theorem peel_irr {N : Nat} {g : Int × List (Int × Int)} (hg : ¬ goodG g) (hx : g.2.length ≤ 1048576) (hN : 1048577 ≤ N) : Zq17 N g = some (([], 0, false, ()), ()) := by
  unfold Zq17
  simp only [show ((g.1, g.2) : Int × List (Int × Int)) = g from rfl]
  rw [IsGraph_eq hx hN, bind_some', decide_eq_false hg]
  rfl
theorem greedy_few {m : Nat} {es : List (Int × Int)} {D : Nat} (hm : m ≤ 8) (hir : ∀ y : Int, ¬ nearG es y y) : ∀ {S : List Nat}, peels es D S → (∀ v ∈ S, v < m) → ∀ v ∈ S, rdI (grL m es (S.map (fun c : Nat => (c : Int))).reverse) (v : Int) ≤ (D : Int) := by
  intro S
  induction S with
  | nil => intro _ _ v hv; cases hv
  | cons x S ih =>
    intro hp hin v hv
    obtain ⟨p1, p2, p3⟩ := hp
    have hS := ih p3 fun w hw => hin w (List.mem_cons_of_mem _ hw)
    have hnd : (S.map (fun c : Nat => (c : Int))).reverse.Nodup := by
      exact (List.reverse_perm _).nodup_iff.2 (List.Pairwise.map _ (fun a b h e => h (by omega)) (peels_nodup p3))
    have hg := ginv_of hm hir hnd (fun z hz => by
      obtain ⟨w, hw, rfl⟩ := List.mem_map.1 (List.mem_reverse.1 hz)
      exact in_nat (hin w (List.mem_cons_of_mem _ hw))) (S.map (fun c : Nat => (c : Int))).reverse.length (Nat.le_refl _)
    rw [List.take_length] at hg
    have hxm := hin x (List.mem_cons_self ..)
    rw [List.map_cons, List.reverse_cons, grL_snoc, rdI_set (by rw [hg.len]; exact hxm) _ _ (by omega)]
    split
    · have hlc := (leastC_spec m es (grL m es (S.map (fun c : Nat => (c : Int))).reverse) (x : Int)).2.1
      have := taken_le (o := grL m es (S.map (fun c : Nat => (c : Int))).reverse) (L := (nbIn es S x).map (fun c : Nat => (c : Int))) (c := leastC m es (grL m es (S.map (fun c : Nat => (c : Int))).reverse) (x : Int)) fun i hi => by
        have hq := hlc i hi
        unfold freeN at hq
        refine Classical.byContradiction fun q => hq fun y hy e => q ⟨y, ?_, e⟩
        obtain ⟨j, hj, hn, rfl⟩ := mem_nbr.1 hy
        by_cases hjS : j ∈ S
        · exact List.mem_map.2 ⟨j, mem_nbIn.2 ⟨hjS, nearG_symm.1 hn⟩, rfl⟩
        · have := hg.neg _ (in_nat hj) fun h => by
            obtain ⟨w, hw, ew⟩ := List.mem_map.1 (List.mem_reverse.1 h)
            have : w = j := by omega
            exact hjS (this ▸ hw)
          omega
      rw [List.length_map] at this
      omega
    · rename_i hne
      rcases List.mem_cons.1 hv with e | e
      · exact absurd (by rw [e]) hne
      · exact hS v e
theorem dgr_loop {R : Type} {N : Nat} {code : List Int} (hco : codeOk code) {o o2 : Int} {o4 : List (Int × Int)} {k0 : Int → List Int × (Int × Int) → Int → List Int → List (Int × Int) → Option R} :
    ∀ (d n K kk : Nat) (c : List Int × (Int × Int)) (to : List Int), n + d = 9 → d + 1 < K → CurOk code kk c → kk + 2 * d ≤ 900000 → to.length = n → ∃ (c' : List Int × (Int × Int)) (to' : List Int), Zq55_l0 N k0 K (n : Int) o c o2 to o4 = k0 o c' o2 to' o4 ∧ CurOk code (kk + 2 * d) c' ∧ to'.length ≤ 9 := by
  intro d
  induction d with
  | zero =>
    intro n K kk c to hd hK hc hkk hl
    obtain ⟨K, rfl⟩ := succ_of (show 0 < K by omega)
    simp only [Zq55_l0]
    by_cases h : (n : Int) < o2
    · rw [ilt_t h, br_t, ilt_f (by omega), br_f]
      exact ⟨c, to, rfl, hc, by omega⟩
    · rw [ilt_f h, br_f]
      exact ⟨c, to, rfl, hc, by omega⟩
  | succ d ih =>
    intro n K kk c to hd hK hc hkk hl
    obtain ⟨K, rfl⟩ := succ_of (show 0 < K by omega)
    simp only [Zq55_l0]
    by_cases h : (n : Int) < o2
    · obtain ⟨x, c', p1, p2, p3, p4, p5⟩ := pick_ok (N := N) hco hc (by omega) (IntKind.i64.wrap ((tLen to) + 1))
      rw [tLen_n, wrap_succ (by omega)] at p1 p5
      have p5 := p5 (by omega)
      obtain ⟨i, rfl⟩ : ∃ i : Nat, x = (i : Int) := ⟨x.toNat, by omega⟩
      have e1 : (tCut to 0 (i : Int)).length ≤ i := by simp [tCut]; omega
      have e2 : (tCut to 0 (i : Int)).length + (tCut to (i : Int) (to.length : Int)).length = to.length := by simp [tCut]; omega
      rw [ilt_t h, br_t, ilt_t (by omega), br_t, tLen_n, wrap_succ (by omega), p1, bind_some']
      simp only []
      rw [ile_t (Int.le_refl 0), ile_t (by omega), ile_t (by omega), ile_t (Int.le_refl _)]
      simp only [Bool.and_self, chk_t]
      rw [l1Own_eq (by omega), bind_some']
      simp only []
      rw [room_ok (by simp; omega), chk_t, room_ok (by rw [tApp_d]; simp; omega), chk_t, wrap_succ (by omega)]
      obtain ⟨c2, to', t1, t2, t3⟩ := ih (n + 1) K (kk + 2) c' _ (by omega) (by omega) p2 (by omega) (show (tApp (tApp (tCut to 0 (i : Int)) [(n : Int)]) (tCut to (i : Int) (to.length : Int))).length = n + 1 by rw [tApp_d, tApp_d]; simp; omega)
      exact ⟨c2, to', t1, cur_mono t2 (by omega), t3⟩
    · rw [ilt_f h, br_f]
      exact ⟨c, to, rfl, cur_mono hc (by omega), by omega⟩
theorem DrawGreedy_ok {N : Nat} {code : List Int} (hco : codeOk code) (hN : 1048577 ≤ N) : ∃ (g : Int × List (Int × Int)) (to : List Int), Zq55 N code = some (((g.1, g.2), to, ()), ()) ∧ g.2.length ≤ 110 ∧ to.length ≤ 10 := by
  unfold Zq55 Zq60
  obtain ⟨g, c1, a1, a2, a3⟩ := someGraph_ok (N := N) (most := 8) hco hN cur0 (by omega) (by omega)
  simp only [a1, bind_some']
  obtain ⟨c3, to, t1, t2, t3⟩ := dgr_loop (N := N) hco (o := 0) (o2 := g.1) (o4 := g.2) (k0 := fun o o1 o2 o3 o4 => ((Zq64 N o1 16).bind fun r1 => (br r1.1.1 ((chk (room o3 [0]) (some ((((o2, o4), (tApp o3 [0]), ()), ()) : ((Int × List (Int × Int)) × List Int × Unit) × Unit)))) (some (((o2, o4), o3, ()), ()))))) 9 0 N 200 c1 [] (by omega) (by omega) (cur_mono a2 (by omega)) (by omega) rfl
  rw [show ((0 : Nat) : Int) = 0 from rfl] at t1
  rw [t1]
  obtain ⟨b, c4, e1, e2⟩ := one_ok (N := N) hco t2 (by omega) 16
  simp only [e1, bind_some']
  rw [room_ok (by simp; omega)]
  cases b with
  | true =>
    rw [br_t, chk_t]
    exact ⟨g, _, rfl, by omega, by rw [tApp_d]; simp; omega⟩
  | false =>
    rw [br_f]
    exact ⟨g, to, rfl, by omega, by omega⟩
theorem greedy_l1 {R : Type} {N : Nat} {k0 : Int → Int → List (Int × Int) → List Int → Option R} {x3 o4 : Int} {o5 : List (Int × Int)} {xs : List Int} (hx : xs.length ≤ 1048576) :
    ∀ (d K : Nat) (o2 : List Int), d ≤ xs.length → d < K → o2 = (xs.drop d).reverse → Zq36_l1 N k0 K x3 ((d : Int) - 1) o4 o5 xs o2 = k0 x3 o4 o5 xs.reverse := by
  intro d
  induction d with
  | zero =>
    intro K o2 _ hK h
    obtain ⟨k, rfl⟩ := succ_of hK
    simp only [Zq36_l1]
    rw [ile_f (by omega), br_f, h, List.drop_zero]
  | succ d ih =>
    intro K o2 hd hK h
    obtain ⟨k, rfl⟩ := succ_of hK
    have hn : d < xs.length := by omega
    have e : ((d + 1 : Nat) : Int) - 1 = (d : Int) := by omega
    simp only [Zq36_l1]
    rw [e, ile_t (by omega), br_t, inb_n hn, chk_t, room_ok (by rw [h]; simp; omega), chk_t, wrap_ok (by omega) (by omega), tApp_d]
    refine ih k _ (by omega) (by omega) ?_
    rw [h, rdI_n hn, drop_cons hn, List.reverse_cons]
theorem greedy_l2 {R : Type} {N : Nat} {k0 k1 : Bool → Option R} {x4 : Int} {x5 : Bool} {xs : List Int} (hx : xs.length ≤ 1048576) (h : ∀ z ∈ xs, z ≤ x4) :
    ∀ (d n K : Nat), n + d = xs.length → d < K → Zq36_l2 N k0 k1 K x4 x5 (n : Int) xs = k1 x5 := by
  intro d
  induction d with
  | zero =>
    intro n K hd hK
    obtain ⟨K, rfl⟩ := succ_of hK
    simp only [Zq36_l2, ilt_lenf (show ¬ n < xs.length by omega), br_f]
  | succ d ih =>
    intro n K hd hK
    obtain ⟨K, rfl⟩ := succ_of hK
    have hn : n < xs.length := by omega
    simp only [Zq36_l2, ilt_len hn, br_t, inb_n hn, chk_t]
    have := h _ (List.getElem_mem hn)
    rw [rdI_n hn, ilt_f (by omega), br_f, wrap_succ (by omega)]
    exact ih (n + 1) K (by omega) (by omega)
theorem greedy_l0 {R : Type} {N : Nat} {k0 : Bool → Option R} {k1 : Int → Bool → Int → List (Int × Int) → Int → List (Int × Int) → Option R} {x1 o o3 : Int} {x2 : Bool} {es o4 : List (Int × Int)} {cs : List Int} (hx : es.length ≤ 1048576) (h : ∀ e ∈ es, (0 ≤ e.1 ∧ e.1 < cs.length ∧ 0 ≤ e.2 ∧ e.2 < cs.length) ∧ rdI cs e.1 ≠ rdI cs e.2) :
    ∀ (d n K : Nat), n + d = es.length → d < K → Zq36_l0 N k0 k1 K true x1 x2 (n : Int) o es cs o3 o4 = k1 x1 x2 o es o3 o4 := by
  intro d
  induction d with
  | zero =>
    intro n K hd hK
    obtain ⟨K, rfl⟩ := succ_of hK
    simp only [Zq36_l0, br_t, ilt_lenf (show ¬ n < es.length by omega), br_f]
  | succ d ih =>
    intro n K hd hK
    obtain ⟨K, rfl⟩ := succ_of hK
    have hn : n < es.length := by omega
    have hm : rdP es (n : Int) ∈ es := by rw [rdP_n hn]; exact List.getElem_mem hn
    obtain ⟨⟨h1, h2, h3, h4⟩, h5⟩ := h _ hm
    simp only [Zq36_l0, br_t, ilt_len hn, inb_n hn, chk_t]
    rw [inb_i h1 h2, chk_t, inb_i h3 h4, chk_t, ieq_f h5, br_f, wrap_succ (by omega)]
    exact ih (n + 1) K (by omega) (by omega)
theorem greedy_end {N : Nat} (hN : 1048577 ≤ N) {g : Int × List (Int × Int)} (hx : g.2.length ≤ 1048576) :
    ((Zq17 N (g.1, g.2)).bind fun r12 =>
      (br (!r12.1.2.2.1)
        (some ((true, ()), ()))
        (Zq36_l1 N (fun x3 o4 o5 o6 => ((Zq11 N (o4, o5) o6).bind fun r13 =>
          Zq36_l2 N (fun x4 => some ((x4, ()), ())) (fun x5 => some ((x5, ()), ())) N x3 r13.1.2.1 0 r13.1.1)) N r12.1.2.1 (IntKind.i64.wrap ((tLen r12.1.1) - 1)) g.1 g.2 r12.1.1 []))) = some ((true, ()), ()) := by
  by_cases hg : goodG g
  · obtain ⟨D, tl, p1, p2, p3, p4, p5, p6⟩ := peelOf_list (N := N) hg hx hN
    have hm8 : g.1.toNat ≤ 8 := by have := hg.1; omega
    obtain ⟨m, hm⟩ : ∃ m : Nat, g.1 = (m : Int) := ⟨g.1.toNat, by have := hg.1; omega⟩
    have hmn : g.1.toNat = m := by omega
    have hnd := peels_nodup p5
    have hlen : tl.length = m := by
      have a1 : tl.length ≤ m := by
        have := nodup_le (a := tl.map (fun c : Nat => (c : Int))) (b := upL m) (List.Pairwise.map _ (fun a b h e => h (by omega)) hnd) fun z hz => by
          obtain ⟨w, hw, rfl⟩ := List.mem_map.1 hz
          exact mem_upL.2 ⟨by omega, by have := (p6 w).1 hw; omega⟩
        rwa [upL_len, List.length_map] at this
      have a2 : m ≤ tl.length := by
        have := nodup_le (a := upL m) (b := tl.map (fun c : Nat => (c : Int))) (upL_nodup m) fun z hz => by
          obtain ⟨h1, h2⟩ := mem_upL.1 hz
          exact List.mem_map.2 ⟨z.toNat, (p6 _).2 (by omega), by omega⟩
        rwa [upL_len, List.length_map] at this
      omega
    have hord : isOrd (tl.map (fun c : Nat => (c : Int))).reverse g.1 := by
      refine ⟨by rw [List.length_reverse, List.length_map]; omega, fun c h0 h1 => List.mem_reverse.2 (List.mem_map.2 ⟨c.toNat, (p6 _).2 (by omega), by omega⟩)⟩
    have hir : ∀ y : Int, ¬ nearG g.2 y y := good_irr hg
    have hgr : greedyR g (tl.map (fun c : Nat => (c : Int))).reverse = (grL m g.2 (tl.map (fun c : Nat => (c : Int))).reverse, true) := by unfold greedyR; rw [if_pos ⟨hg, hord⟩, hmn]
    have hall := gr_all (es := g.2) (m := m) (by omega) hir (by rw [← hm]; exact hord)
    have hml : (tl.map (fun c : Nat => (c : Int))).length = m := by rw [List.length_map, hlen]
    simp only [show ((g.1, g.2) : Int × List (Int × Int)) = g from rfl]
    rw [p1, bind_some']
    simp only [Bool.not_true, br_f]
    rw [tLen_n, wrap_ok (by omega) (by omega), greedy_l1 (by omega) (tl.map (fun c : Nat => (c : Int))).length N [] (by omega) (by omega) (by rw [List.drop_of_length_le (Nat.le_refl _)]; rfl)]
    simp only [show ((g.1, g.2) : Int × List (Int × Int)) = g from rfl]
    rw [impl_Greedy_eq hx (by rw [List.length_reverse]; omega) hN, bind_some', hgr]
    simp only []
    have h2 := greedy_l2 (R := (Bool × Unit) × Unit) (N := N) (k0 := fun x4 => some ((x4, ()), ())) (k1 := fun x5 => some ((x5, ()), ())) (x4 := D) (x5 := true) (xs := grL m g.2 (tl.map (fun c : Nat => (c : Int))).reverse) (by rw [hall.len]; omega) (fun z hz => by
      obtain ⟨i, hi, rfl⟩ := List.getElem_of_mem hz
      have hi2 := hi
      rw [hall.len] at hi2
      have := greedy_few (m := m) (by omega) hir p5 (fun v hv => by have := (p6 v).1 hv; omega) i ((p6 i).2 (by omega))
      rw [rdI_n hi] at this
      have := p4 (by omega)
      omega) (grL m g.2 (tl.map (fun c : Nat => (c : Int))).reverse).length 0 N (by omega) (by rw [hall.len]; omega)
    rw [show ((0 : Nat) : Int) = 0 from rfl] at h2
    exact h2
  · simp only [show ((g.1, g.2) : Int × List (Int × Int)) = g from rfl]
    rw [peel_irr hg hx hN, bind_some']
    rfl
theorem GreedyColours_law {N : Nat} (hN : 1048577 ≤ N) {code : List Int} (hw : ∀ y ∈ code, (Lit.int .u8 y).wf = true) : Zq36 N code = some ((true, ()), ()) := by
  unfold Zq36 Zq37
  rw [bind_some']
  simp only []
  rw [tLen_n]
  by_cases hb : 65536 < code.length
  · rw [ilt_t (by omega), br_t]
  · rw [ilt_f (by omega), br_f]
    have hco := code_ok hw (by omega)
    obtain ⟨g, order, d1, d2, d3⟩ := DrawGreedy_ok (N := N) hco hN
    have hx : g.2.length ≤ 1048576 := by omega
    obtain ⟨code', v1, v2⟩ := vCut_ok (N := N) (n := 1) hco (by omega) (by omega)
    obtain ⟨h, c1, a1, a2, a3⟩ := dense5_ok (N := N) v2 hN cur0 (by omega)
    have hy : h.2.length ≤ 1048576 := by omega
    obtain ⟨v, b, m1, m2, m3⟩ := Mixing_prop (N := N) (g := h) hy hN 5 1 N (by omega) (by omega)
    have hmi : Zq15 N h = some ((v, b, ()), ()) := m2
    have hms : Zq58 N h = some ((v, b, ()), ()) := m1
    have hdm : Zq56 N code' = some (((h.1, h.2), ()), ()) := by
      unfold Zq56
      rw [a1, bind_some']
    have hg8 := greedyR_len g order
    have I1 : Zq39 N (greedyR g order).1 (greedyR g order).1 = some ((true, ()), ()) := by rw [vInts_eq (by omega) (by omega), decide_eq_true rfl]
    rw [d1, bind_some']
    simp only [show ((g.1, g.2) : Int × List (Int × Int)) = g from rfl]
    rw [impl_Greedy_eq hx (by omega) hN, bind_some', spec_Greedy_eq hx (by omega) hN, bind_some', v1, bind_some']
    simp only []
    rw [hdm, bind_some']
    simp only [show ((h.1, h.2) : Int × List (Int × Int)) = h from rfl]
    rw [hmi, bind_some', hms, bind_some']
    simp only [beq_self_eq_true, Bool.not_true, br_f]
    rw [I1, bind_some']
    simp only [Bool.not_true, br_f]
    rw [ine_f rfl, br_f]
    have l0 : ∀ (k1 : Int → Bool → Int → List (Int × Int) → Int → List (Int × Int) → Option ((Bool × Unit) × Unit)), Zq36_l0 N (fun x => some ((x, ()), ())) k1 N (greedyR g order).2 v b 0 g.1 g.2 (greedyR g order).1 h.1 h.2 = k1 v b g.1 g.2 h.1 h.2 := by
      intro k1
      by_cases hq : goodG g ∧ isOrd order g.1
      · have e1 : greedyR g order = (grL g.1.toNat g.2 order, true) := by unfold greedyR; rw [if_pos hq]
        obtain ⟨m, hm⟩ : ∃ m : Nat, g.1 = (m : Int) := ⟨g.1.toNat, by have := hq.1.1; omega⟩
        have hmn : g.1.toNat = m := by omega
        have hir : ∀ y : Int, ¬ nearG g.2 y y := good_irr hq.1
        have ho : isOrd order (m : Int) := by rw [← hm]; exact hq.2
        have hall := gr_all (es := g.2) (m := m) (by have := hq.1.1; omega) hir ho
        obtain ⟨o1, o2, o3, o4⟩ := ord_facts ho
        rw [e1, hmn]
        have := greedy_l0 (R := (Bool × Unit) × Unit) (N := N) (k0 := fun x => some ((x, ()), ())) (k1 := k1) (x1 := v) (x2 := b) (o := g.1) (es := g.2) (cs := grL m g.2 order) (o3 := h.1) (o4 := h.2) hx (fun e he => by
          have hee := goodG_edges hq.1 e he
          refine ⟨⟨hee.1, by rw [hall.len]; omega, by omega, by rw [hall.len]; omega⟩, ?_⟩
          have i1 : InN m e.1 := ⟨hee.1, by omega⟩
          have i2 : InN m e.2 := ⟨by omega, by omega⟩
          exact hall.col _ _ i1 i2 (o4 _ i1) (o4 _ i2) (.inl he)) g.2.length 0 N (by omega) (by omega)
        exact this
      · have e1 : greedyR g order = ([], false) := by unfold greedyR; rw [if_neg hq]
        rw [e1]
        obtain ⟨K, rfl⟩ := succ_of (show 0 < N by omega)
        simp only [Zq36_l0, br_f]
    rw [l0]
    try simp only []
    have hend := greedy_end hN hx
    cases b with
    | false =>
      rw [br_f]
      exact hend
    | true =>
      obtain ⟨q1, q2, q3, q4⟩ := m3 rfl
      obtain ⟨⟨hk, hl⟩, hcnt⟩ := q1
      rw [br_t]
      simp only [show ((h.1, h.2) : Int × List (Int × Int)) = h from rfl]
      have ec : colSpV h v = ((allC h v, stepsL isCh (allC h v)), true) := by unfold colSpV; rw [if_pos ⟨hk, hl⟩]
      rw [impl_ColSp hy hN, bind_some', ec]
      simp only []
      have s1 := colSteps_le hk hl
      have hm8 : h.1.toNat ≤ 8 := by have := hk.1.1; omega
      have hst : ∀ x ∈ allC h v, x.length ≤ 24 ∧ ∀ z ∈ x, -99 ≤ z ∧ z ≤ 99 := fun x hx => by
        refine ⟨by rw [allC_rows x hx]; omega, fun z hz => ?_⟩
        have := (allC_sorted h v).2 x hx z hz
        omega
      obtain ⟨pb, pb1, pb2⟩ := partsOf_cnt (N := N) hl (by omega) hst (allC_sorted h v).1 (stepsL_ok (p := isCh) (xs := allC h v)) hN
      rw [pb1, bind_some']
      simp only [Bool.not_true, br_f]
      rw [tLen_n, pb2, hcnt, ine_f (by omega), br_f]
      obtain ⟨D, tl, p1, p2, p3, p4, p5, p6⟩ := peelOf_list (N := N) hk.1 hy hN
      rw [p1, bind_some']
      simp only []
      rw [wrap_ok (by omega) (by omega), ile_t (by omega), br_t]
      by_cases z1 : D + 2 < v
      · exfalso
        obtain ⟨w1, w2⟩ := q4 (D + 2) (by omega) z1
        exact w2 ⟨w1, col_conn w1.1 w1.2 p6 p4 p5 (Int.le_refl _)⟩
      · rw [ilt_f z1, br_f]
        exact hend
theorem GreedyColoursLaw_pureT : ∀ x : argsT (psOf [LU8]), WfA [LU8] x → ∃ k m, (Zq36_S k).f x = some ((true, ()), m) :=
  fun x h => ⟨1048577, (), GreedyColours_law (Nat.le_refl _) h.1.2⟩
end Go.Proofs.YtkffaahlpdlkoaaGreat
