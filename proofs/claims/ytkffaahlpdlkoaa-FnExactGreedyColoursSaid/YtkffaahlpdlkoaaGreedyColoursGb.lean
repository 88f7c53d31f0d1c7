/- Statements on data alone. -/
import Derived.Test.YtkffaahlpdlkoaaPvPure
import Derived.Test.YtkffaahlpdlkoaaGreedyColoursGa
set_option linter.all false
set_option linter.all false
namespace Go.Proofs.Ytkffaahlpdlkoaa
open Go Go.PV Classical
noncomputable def greedyR (g : Int × List (Int × Int)) (order : List Int) : List Int × Bool := if goodG g ∧ isOrd order g.1 then (grL g.1.toNat g.2 order, true) else ([], false)
theorem ord_facts {m : Nat} {order : List Int} (h : isOrd order (m : Int)) : order.Nodup ∧ (∀ x ∈ order, InN m x) ∧ order.length = m ∧ ∀ x, InN m x → x ∈ order := by
  have hp := ord_perm h
  refine ⟨hp.nodup_iff.1 (upL_nodup m), fun x hx => mem_upL.1 (hp.mem_iff.2 hx), by have := h.1; omega, fun x hx => h.2 x hx.1 hx.2⟩
theorem impl_Greedy_eq {N : Nat} {g : Int × List (Int × Int)} {order : List Int} (hx : g.2.length ≤ 1048576) (ho : order.length ≤ 1048576) (hN : 1048577 ≤ N) : impl_GreedyColours N g order = some (((greedyR g order).1, (greedyR g order).2, ()), ()) := by
  unfold impl_GreedyColours greedyR
  simp only [show ((g.1, g.2) : Int × List (Int × Int)) = g from rfl]
  rw [IsGraph_eq hx hN, bind_some']
  by_cases hg : goodG g
  · rw [decide_eq_true hg]
    simp only [Bool.not_true, br_f]
    rw [isOrder_eq ho hN, bind_some']
    by_cases h : isOrd order g.1
    · rw [decide_eq_true h, if_pos ⟨hg, h⟩]
      simp only [Bool.not_true, br_f]
      obtain ⟨m0, es⟩ := g
      have hm := hg.1
      simp only at hx h hm ⊢
      obtain ⟨m, rfl⟩ : ∃ m : Nat, m0 = (m : Int) := ⟨m0.toNat, by omega⟩
      obtain ⟨o1, o2, o3, o4⟩ := ord_facts h
      rw [Repeat_eq (by omega) hN, bind_some', tLen_n]
      have := greedy_out (N := N) (by omega) hg hx (by omega) o1 o2 hN (fun o => some ((o, true, ()), ())) order.length 0 N (by omega) (by omega)
      rw [show ((0 : Nat) : Int) = 0 from rfl, List.take_zero] at this
      exact this
    · rw [decide_eq_false h, if_neg fun q => h q.2]
      simp only [Bool.not_false, br_t]
  · rw [decide_eq_false hg, if_neg fun q => hg q.1]
    simp only [Bool.not_false, br_t]
noncomputable def posL (o : List Int) : List Int := o.map fun z => if z < 0 then 0 else z
theorem posL_len (o : List Int) : (posL o).length = o.length := by simp [posL]
theorem posL_rd {o : List Int} {i : Nat} (h : i < o.length) : rdI (posL o) (i : Int) = if rdI o (i : Int) < 0 then 0 else rdI o (i : Int) := by
  rw [rdI_n (by rw [posL_len]; exact h), rdI_n h]
  simp [posL]
theorem posL_set {o : List Int} {x : Int} {c : Nat} : posL (tSet o x (c : Int)) = tSet (posL o) x (c : Int) := by
  unfold posL tSet
  rw [List.map_set, if_neg (by omega)]
noncomputable def usedL (m : Nat) (es : List (Int × Int)) (P o : List Int) (x : Int) : List Int := (P.filter fun y => decide (nearG es y x)).map (rdI (posL o))
theorem used_iff {m : Nat} {es : List (Int × Int)} {P o : List Int} {x : Int} {c : Nat} (h : GInv m es P o) (hP : ∀ y ∈ P, InN m y) : ((c : Int) ∈ usedL m es P o x) ↔ ¬ freeN m es o x c := by
  unfold usedL freeN
  rw [List.mem_map]
  constructor
  · rintro ⟨y, hy, e⟩ q
    rw [List.mem_filter, decide_eq_true_eq] at hy
    obtain ⟨j, hj, rfl⟩ := nat_of (hP y hy.1)
    have hp := h.pos _ (in_nat hj) hy.1
    rw [posL_rd (by rw [h.len]; exact hj), if_neg (by omega)] at e
    exact q _ (mem_nbr.2 ⟨j, hj, nearG_symm.1 hy.2, rfl⟩) e
  · intro q
    refine Classical.byContradiction fun q2 => q fun y hy e => ?_
    obtain ⟨j, hj, hn, rfl⟩ := mem_nbr.1 hy
    by_cases hp : ((j : Nat) : Int) ∈ P
    · refine q2 ⟨_, List.mem_filter.2 ⟨hp, decide_eq_true (nearG_symm.1 hn)⟩, ?_⟩
      rw [posL_rd (by rw [h.len]; exact hj), if_neg (by omega)]
      exact e
    · have := h.neg _ (in_nat hj) hp
      omega
theorem spec_used {R : Type} {N m : Nat} {es : List (Int × Int)} {order o : List Int} {i : Nat} {k0 : List Int → Int → Int → List (Int × Int) → List Int → List Int → Option R} (hes : es.length ≤ 1048576) (hl : o.length = m) (hin : ∀ x ∈ order, InN m x) (hi : i < order.length) (ho : order.length ≤ 8) (hN : 1048577 ≤ N) :
    ∀ (d n K : Nat) (u : List Int), n + d = i → d < K → u = usedL m es (order.take n) o (rdI order (i : Int)) → spec_GreedyColours_l0_0 N k0 K order (i : Int) (n : Int) (m : Int) es (posL o) u = k0 order (i : Int) (m : Int) es (posL o) (usedL m es (order.take i) o (rdI order (i : Int))) := by
  intro d
  induction d with
  | zero =>
    intro n K u hd hK e
    obtain ⟨K, rfl⟩ := succ_of hK
    have : n = i := by omega
    subst this
    simp only [spec_GreedyColours_l0_0, ilt_nf (Nat.lt_irrefl n), br_f]
    rw [e]
  | succ d ih =>
    intro n K u hd hK e
    obtain ⟨K, rfl⟩ := succ_of hK
    have hn : n < order.length := by omega
    have hx := hin _ (List.getElem_mem hn)
    have hul : u.length ≤ n := by
      rw [e]
      unfold usedL
      rw [List.length_map]
      exact Nat.le_trans (List.length_filter_le ..) (by rw [List.length_take]; omega)
    simp only [spec_GreedyColours_l0_0, ilt_n (show n < i by omega), br_t, inb_n hn, inb_n hi, chk_t]
    rw [l2Near_eq (g := ((m : Int), es)) hes hN, bind_some']
    have tk : order.take (n + 1) = order.take n ++ [rdI order (n : Int)] := by rw [List.take_add_one, List.getElem?_eq_getElem hn, rdI_n hn]; rfl
    by_cases h : nearG es (rdI order (n : Int)) (rdI order (i : Int))
    · rw [decide_eq_true h, br_t, inb_i (by rw [rdI_n hn]; exact hx.1) (by rw [rdI_n hn, posL_len, hl]; exact hx.2), chk_t, room_ok (by simp; omega), chk_t, wrap_succ (by omega), tApp_d]
      refine ih (n + 1) K _ (by omega) (by omega) ?_
      rw [tk, e]
      unfold usedL
      rw [List.filter_append, List.map_append, List.filter_cons_of_pos (by exact decide_eq_true h)]
      rfl
    · rw [decide_eq_false h, br_f, wrap_succ (by omega)]
      refine ih (n + 1) K _ (by omega) (by omega) ?_
      rw [tk, e]
      unfold usedL
      rw [List.filter_append, List.map_append, List.filter_cons_of_neg (by rw [decide_eq_false h]; simp)]
      simp
theorem spec_up {R : Type} {N m : Nat} {es : List (Int × Int)} {order o : List Int} {i : Nat} {k0 : List Int → Int → Int → List (Int × Int) → List Int → Option R} (hm : m ≤ 8) (h : GInv m es (order.take i) o) (hin : ∀ x ∈ order, InN m x) (hi : i < order.length) (ho : order.length ≤ 8) (hN : 1048577 ≤ N) :
    ∀ (d c K : Nat), c + d = leastC m es o (rdI order (i : Int)) → d < K → spec_GreedyColours_l0_1 N k0 K order (i : Int) (m : Int) es (tSet (posL o) (rdI order (i : Int)) (c : Int)) (usedL m es (order.take i) o (rdI order (i : Int))) = k0 order (i : Int) (m : Int) es (tSet (posL o) (rdI order (i : Int)) (leastC m es o (rdI order (i : Int)) : Int)) := by
  obtain ⟨l1, l2⟩ := leastC_le hm es o (rdI order (i : Int))
  have l3 := (leastC_spec m es o (rdI order (i : Int))).2.1
  have hx := hin _ (List.getElem_mem hi)
  rw [← rdI_n hi] at hx
  obtain ⟨j, hj, ej⟩ := nat_of hx
  have hP : ∀ y ∈ order.take i, InN m y := fun y hy => hin y (List.mem_of_mem_take hy)
  have hul : (usedL m es (order.take i) o (rdI order (i : Int))).length ≤ 1048576 := by
    unfold usedL
    rw [List.length_map]
    exact Nat.le_trans (List.length_filter_le ..) (by rw [List.length_take]; omega)
  have hlen : (posL o).length = m := by rw [posL_len, h.len]
  have hrd : ∀ c : Int, rdI (tSet (posL o) (rdI order (i : Int)) c) (rdI order (i : Int)) = c := fun c => by
    rw [ej, rdI_set (by omega) c _ (by omega), if_pos rfl]
  have hib : ∀ c : Int, inb (tSet (posL o) (rdI order (i : Int)) c) (rdI order (i : Int)) = true := fun c => by
    rw [ej]
    exact inb_n (by rw [tSet_n, List.length_set]; omega)
  intro d
  induction d with
  | zero =>
    intro c K hc hK
    obtain ⟨K, rfl⟩ := succ_of hK
    have ec : c = leastC m es o (rdI order (i : Int)) := by omega
    simp only [spec_GreedyColours_l0_1, inb_n hi, chk_t]
    rw [hib, chk_t, hrd, l1Has_eq hul hN, bind_some', decide_eq_false (fun q => (used_iff h hP).1 q (ec ▸ l2)), br_f, ec]
  | succ d ih =>
    intro c K hc hK
    obtain ⟨K, rfl⟩ := succ_of hK
    simp only [spec_GreedyColours_l0_1, inb_n hi, chk_t]
    rw [hib, chk_t, hrd, l1Has_eq hul hN, bind_some', decide_eq_true ((used_iff h hP).2 (l3 c (by omega))), br_t, chk_t, chk_t, wrap_succ (by omega)]
    have e : tSet (tSet (posL o) (rdI order (i : Int)) (c : Int)) (rdI order (i : Int)) ((c + 1 : Nat) : Int) = tSet (posL o) (rdI order (i : Int)) ((c + 1 : Nat) : Int) := by
      unfold tSet
      rw [List.set_set]
    rw [e]
    exact ih (c + 1) K (by omega) (by omega)
theorem spec_greedy_out {N m : Nat} {es : List (Int × Int)} {order : List Int} (hm : m ≤ 8) (hg : goodG ((m : Int), es)) (hes : es.length ≤ 1048576) (ho : order.length ≤ 8) (hn : order.Nodup) (hin : ∀ x ∈ order, InN m x) (hN : 1048577 ≤ N) {R : Type} (k0 : List Int → Option R) :
    ∀ (d n K : Nat), n + d = order.length → d < K → spec_GreedyColours_l0 N k0 K order (n : Int) (m : Int) es (posL (grL m es (order.take n))) = k0 (posL (grL m es order)) := by
  intro d
  induction d with
  | zero =>
    intro n K hd hK
    obtain ⟨K, rfl⟩ := succ_of hK
    simp only [spec_GreedyColours_l0, ilt_lenf (show ¬ n < order.length by omega), br_f]
    rw [List.take_of_length_le (by omega)]
  | succ d ih =>
    intro n K hd hK
    obtain ⟨K, rfl⟩ := succ_of hK
    have hl : n < order.length := by omega
    have hir : ∀ y : Int, ¬ nearG es y y := good_irr hg
    have hi := ginv_of hm hir hn hin n (by omega)
    have hlc := leastC_le hm es (grL m es (order.take n)) (rdI order (n : Int))
    have hx := hin _ (List.getElem_mem hl)
    simp only [spec_GreedyColours_l0, ilt_len hl, br_t]
    have h0 := spec_used (N := N) (o := grL m es (order.take n)) (i := n) (k0 := fun x2 x3 o3 o4 o5 o6 => spec_GreedyColours_l0_1 N (fun x4 x5 o7 o8 o9 => spec_GreedyColours_l0 N k0 K x4 (IntKind.i64.wrap (x5 + 1)) o7 o8 o9) N x2 x3 o3 o4 o5 o6) hes hi.len hin hl ho hN n 0 N [] (by omega) (by omega) (by simp [usedL])
    rw [show ((0 : Nat) : Int) = 0 from rfl] at h0
    rw [h0]
    try simp only []
    have hz : posL (grL m es (order.take n)) = tSet (posL (grL m es (order.take n))) (rdI order (n : Int)) ((0 : Nat) : Int) := by
      obtain ⟨j, hj, ej⟩ := nat_of hx
      rw [rdI_n hl, ej, tSet_n]
      have hlen : (posL (grL m es (order.take n))).length = m := by rw [posL_len, hi.len]
      refine rd_ext (by rw [List.length_set]) fun q hq => ?_
      have := rdI_set (cs := posL (grL m es (order.take n))) (x := j) (by omega) ((0 : Nat) : Int) (q : Int) (by omega)
      rw [tSet_n] at this
      rw [this]
      split
      · rename_i e
        have e : q = j := by omega
        subst e
        have hnot : ((q : Nat) : Int) ∉ order.take n := fun h => by
          obtain ⟨p, hp, e2⟩ := List.getElem_of_mem h
          rw [List.length_take] at hp
          rw [List.getElem_take, ← ej] at e2
          have := (List.getElem_inj hn).1 e2
          omega
        rw [posL_rd (by rw [hi.len]; omega), hi.neg _ (in_nat hj) hnot]
        rfl
      · rfl
    have h1 := spec_up (N := N) (k0 := fun x4 x5 o7 o8 o9 => spec_GreedyColours_l0 N k0 K x4 (IntKind.i64.wrap (x5 + 1)) o7 o8 o9) hm hi hin hl ho hN (leastC m es (grL m es (order.take n)) (rdI order (n : Int))) 0 N (by omega) (by omega)
    rw [← hz] at h1
    rw [h1]
    try simp only []
    have e : tSet (posL (grL m es (order.take n))) (rdI order (n : Int)) (leastC m es (grL m es (order.take n)) (rdI order (n : Int)) : Int) = posL (grL m es (order.take (n + 1))) := by
      rw [← posL_set, List.take_add_one, List.getElem?_eq_getElem hl, rdI_n hl]
      exact congrArg posL (grL_snoc m es (order.take n) order[n]).symm
    rw [e, wrap_succ (by omega)]
    exact ih (n + 1) K (by omega) (by omega)
theorem gr_all {m : Nat} {es : List (Int × Int)} {order : List Int} (hm : m ≤ 8) (hir : ∀ y : Int, ¬ nearG es y y) (h : isOrd order (m : Int)) : GInv m es order (grL m es order) := by
  obtain ⟨o1, o2, o3, o4⟩ := ord_facts h
  have := ginv_of hm hir o1 o2 order.length (Nat.le_refl _)
  rwa [List.take_length] at this
theorem spec_Greedy_eq {N : Nat} {g : Int × List (Int × Int)} {order : List Int} (hx : g.2.length ≤ 1048576) (ho : order.length ≤ 1048576) (hN : 1048577 ≤ N) : spec_GreedyColours N g order = some (((greedyR g order).1, (greedyR g order).2, ()), ()) := by
  unfold spec_GreedyColours greedyR
  simp only [show ((g.1, g.2) : Int × List (Int × Int)) = g from rfl]
  rw [l2Good_eq hx hN, bind_some']
  by_cases hg : goodG g
  · rw [decide_eq_true hg]
    simp only [Bool.not_true, br_f]
    rw [l5Order_eq hg.1 ho hN, bind_some']
    by_cases h : isOrd order g.1
    · rw [decide_eq_true h, if_pos ⟨hg, h⟩]
      simp only [Bool.not_true, br_f]
      obtain ⟨m0, es⟩ := g
      have hm := hg.1
      simp only at hx h hm ⊢
      obtain ⟨m, rfl⟩ : ∃ m : Nat, m0 = (m : Int) := ⟨m0.toNat, by omega⟩
      obtain ⟨o1, o2, o3, o4⟩ := ord_facts h
      rw [ile_t (by omega), ile_t (Int.le_refl _), fits_ok (by omega)]
      have hz : tRep (m : Int) (0 : Int) = posL (grL m es (order.take 0)) := by
        rw [List.take_zero]
        simp [tRep, posL, grL]
      have := spec_greedy_out (N := N) (by omega) hg hx (by omega) o1 o2 hN (fun o => some ((o, true, ()), ())) order.length 0 N (by omega) (by omega)
      rw [show ((0 : Nat) : Int) = 0 from rfl, ← hz] at this
      simp only [Bool.and_self, chk_t]
      rw [this]
      have hir : ∀ y : Int, ¬ nearG es y y := good_irr hg
      have hall := gr_all (by omega) hir h
      have e : posL (grL m es order) = grL m es order := rd_ext (posL_len _) fun i hi => by
        rw [posL_len, hall.len] at hi
        have := hall.pos _ (in_nat hi) (o4 _ (in_nat hi))
        rw [posL_rd (by rw [hall.len]; exact hi), if_neg (by omega)]
      rw [e]
      rfl
    · rw [decide_eq_false h, if_neg fun q => h q.2]
      simp only [Bool.not_false, br_t]
  · rw [decide_eq_false hg, if_neg fun q => hg q.1]
    simp only [Bool.not_false, br_t]
theorem greedyR_len (g : Int × List (Int × Int)) (order : List Int) : (greedyR g order).1.length ≤ 8 := by
  unfold greedyR
  split
  · rename_i h
    have h1 := h.1.1
    obtain ⟨m, hm⟩ : ∃ m : Nat, g.1 = (m : Int) := ⟨g.1.toNat, by omega⟩
    have hir : ∀ y : Int, ¬ nearG g.2 y y := good_irr h.1
    have hall := gr_all (es := g.2) (m := g.1.toNat) (by omega) hir (by rw [hm]; have := h.2; rw [hm] at this; exact this)
    have := hall.len
    simp only
    omega
  · simp
theorem GreedyColours_pure {g : Int × List (Int × Int)} {order : List Int} (hx : g.2.length ≤ 9223372036854775807) : laws_FnExactGreedyColours 1048577 g order = some ((true, ()), ()) := by
  unfold laws_FnExactGreedyColours
  have hN : 1048577 ≤ 1048577 := Nat.le_refl _
  rw [tLen_n]
  by_cases hb : order.length ≤ 1048576
  · rw [ilt_f (by omega), br_f]
    obtain ⟨r, h1, h2⟩ := szGraph_eq (N := 1048577) hx
    simp only [h1, bind_some']
    by_cases h : 0 ≤ r
    · rw [ilt_f (by omega), br_f]
      have h3 := h2 h
      have hr := greedyR_len g order
      have k0 : (0 : Int) ≤ 1 ∧ (1 : Int) ≤ 1152921504606846976 := by omega
      have k1 : (0 : Int) ≤ 1 ∧ (1 : Int) ≤ 2305843009213693952 := by omega
      obtain ⟨g', hmk⟩ := markGraph_eq (N := 1048577) k0 h3 hN
      have k2 : (0 : Int) ≤ 1 + 2 * (g.2.length : Int) ∧ 1 + 2 * (g.2.length : Int) ≤ 2305843009213693952 := by omega
      simp only [toGraph_eq h3 hN, toIntS_eq hb hN, bind_some', spec_Greedy_eq h3 hb hN, impl_Greedy_eq h3 hb hN, eqGraph_eq h3 hN, eqIntS_eq (show order.length ≤ 1099511627776 by omega) (show order.length < 1048577 by omega), eqIntS_eq (show (greedyR g order).1.length ≤ 1099511627776 by omega) (show (greedyR g order).1.length < 1048577 by omega), decide_true, Bool.not_true, br_f, hmk, markIntS_eq k2 hb hN, ilt_f (show ¬ 1 + 2 * (g.2.length : Int) + (order.length : Int) < 0 by omega), markIntS_eq k1 (show (greedyR g order).1.length ≤ 1048576 by omega) hN, heldIntS_eq k1 (show (greedyR g order).1.length ≤ 1048576 by omega) hN, ilt_f (show ¬ 1 + ((greedyR g order).1.length : Int) < 0 by omega), ine_f (rfl : 1 + ((greedyR g order).1.length : Int) = 1 + ((greedyR g order).1.length : Int))]
      simp [br_ite]
    · rw [ilt_t (by omega), br_t]
  · rw [ilt_t (by omega), br_t]
theorem GreedyColours_pureT : ∀ x : argsT (psOf [QILQII, LI]), WfA [QILQII, LI] x → ∃ k m, (laws_FnExactGreedyColours_S k).f x = some ((true, ()), m) :=
  fun x h => ⟨1048577, (), GreedyColours_pure (len_ok h.1.2.1)⟩
end Go.Proofs.Ytkffaahlpdlkoaa
