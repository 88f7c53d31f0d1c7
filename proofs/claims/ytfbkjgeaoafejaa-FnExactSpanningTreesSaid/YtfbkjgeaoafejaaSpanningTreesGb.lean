/- Statements on data alone. -/
import Derived.Test.YtfbkjgeaoafejaaPvPure
import Derived.Test.YtfbkjgeaoafejaaSpanningTreesGa
set_option linter.all false
set_option linter.all false
namespace Go.Proofs.Ytfbkjgeaoafejaa
open Go Go.PV Classical
theorem l3Far_eq {N : Nat} {m : Nat} {es : List (Int × Int)} (hm : m ≤ 8) (hx : es.length ≤ 1048576) (he : EdgesIn m es) {x : Int} (hxm : InN m x) (hN : 1048577 ≤ N) :
    ∃ o, spec_l3Far N ((m : Int), es) x = some ((o, ()), ()) ∧ o.length = m ∧ ∀ y, InN m y → (0 ≤ rdI o y ↔ Cn es x y) := by
  have go : ∀ (d n K : Nat), n + d = m → d < K →
      spec_l3Far_l0 N (fun x1 o => ((spec_l2Spread N o x1).bind fun r => some ((r.1.1, ()), ()))) K x n (m : Int) es ((List.range n).map (fun i : Nat => nbr m es (i : Int)) ++ List.replicate d []) = ((spec_l2Spread N (nbrs m es) x).bind fun r => some ((r.1.1, ()), ())) := by
    intro d
    induction d with
    | zero =>
      intro n K hd hK
      obtain ⟨k, rfl⟩ := succ_of hK
      have : n = m := by omega
      subst this
      simp only [spec_l3Far_l0, ilt_nf (Nat.lt_irrefl n), br_f, List.replicate_zero, List.append_nil]
      rfl
    | succ d ih =>
      intro n K hd hK
      obtain ⟨k, rfl⟩ := succ_of hK
      simp only [spec_l3Far_l0, ilt_n (show n < m by omega), br_t]
      rw [l2Neighbors_eq hm hx hN, bind_some', inb_n (by simp), chk_t, wrap_succ (by omega), ← ih (n + 1) k (by omega) (by omega), tSet_n]
      congr 1
      rw [List.replicate_succ, List.set_append_right _ _ (by simp), List.range_succ, List.map_append]
      simp
  unfold spec_l3Far
  rw [ile_t (by omega), ile_t (Int.le_refl _), fits_ok (by omega)]
  simp only [Bool.and_self, chk_t]
  have := go m 0 N (by omega) (by omega)
  rw [tRep_n]
  simp only [Int.natCast_zero, List.range_zero, List.map_nil, List.nil_append] at this
  rw [this]
  have hnb : ∀ l ∈ nbrs m es, l.length ≤ 1048576 ∧ ∀ z ∈ l, InN m z := by
    intro l hl
    obtain ⟨i, _, rfl⟩ := List.mem_map.1 hl
    have := nbr_len m es (i : Int)
    refine ⟨by omega, fun z hz => ?_⟩
    obtain ⟨k, hk, _, rfl⟩ := mem_nbr.1 hz
    exact in_nat hk
  obtain ⟨o, h1, h2, h3⟩ := l2Spread_eq (N := N) (lists := nbrs m es) (m := m) (by simp [nbrs]) (by omega) hnb hxm hN
  exact ⟨o, by rw [h1]; rfl, h2, fun y hy => (h3 y hy).trans (wk_cn he hxm)⟩
theorem edge_in {m : Nat} {es : List (Int × Int)} (hg : goodG ((m : Int), es)) {i : Nat} (hi : i < es.length) : InN m (rdP es (i : Int)).1 ∧ InN m (rdP es (i : Int)).2 := by
  have := (hg.2 i hi).1
  simp only at this
  exact ⟨⟨this.1, by omega⟩, ⟨by omega, this.2.2⟩⟩
theorem treeE_snoc (es : List (Int × Int)) (L : List Int) (i : Int) : treeE es (L ++ [i]) = treeE es L ++ [rdP es i] := by simp [treeE]
theorem CloneJ_eq {N : Nat} {xs : List Int} (h : xs.length ≤ 1048576) : slices_Clone_impl_joiner_int N xs = some ((xs, ()), ()) := by
  unfold slices_Clone_impl_joiner_int
  rw [room_ok (by simp; omega), chk_t, br_ite, ieq_d, tLen_n]
  by_cases h0 : xs = []
  · subst h0
    simp only [tApp_d, List.append_nil, amb_same]
    simp
  · rw [if_neg (by simpa using h0)]
    rfl
theorem l7Closes_eq {N : Nat} {m : Nat} {es : List (Int × Int)} {b : List Int} {e : Nat} (hg : goodG ((m : Int), es)) (hx : es.length ≤ 1048576) (hb : ∀ i ∈ b, 0 ≤ i ∧ i < (es.length : Int)) (hl : b.length ≤ 1048575) (he : e < es.length) (hN : 1048577 ≤ N) :
    spec_l7Closes N ((m : Int), es) (b ++ [(e : Int)]) = some ((decide (Cn (treeE es b) (rdP es (e : Int)).1 (rdP es (e : Int)).2), ()), ()) := by
  have hm8 : m ≤ 8 := by have := hg.1.2; simp only at this; omega
  have hlen : (b ++ [(e : Int)]).length = b.length + 1 := by simp
  have hw : IntKind.i64.wrap (tLen (b ++ [(e : Int)]) - 1) = (b.length : Int) := by rw [tLen_n, hlen, wrap_ok (by omega) (by omega)]; omega
  have hrd : rdI (b ++ [(e : Int)]) (b.length : Int) = e := by rw [rdI_n (by omega)]; simp
  have hcut : tCut (b ++ [(e : Int)]) 0 (b.length : Int) = b := by
    rw [show (0 : Int) = ((0 : Nat) : Int) from rfl, tCut_n]
    simp
  obtain ⟨ea, eb⟩ := edge_in hg he
  obtain ⟨o, h1, h2, h3⟩ := l3Far_eq (N := N) hm8 (show (treeE es b).length ≤ 1048576 by simp [treeE]; omega) (treeE_in hg hb) ea hN
  unfold spec_l7Closes
  rw [hw, hrd, hcut, inb_n (by omega), chk_t, inb_n he, chk_t, tLen_n, ile_t (by omega), ile_t (by omega), ile_t (by omega)]
  simp only [Bool.and_self, chk_t]
  rw [l7Part_eq hb (by omega) hN, bind_some']
  simp only []
  rw [h1, bind_some', inb_i eb.1 (by rw [h2]; exact eb.2), chk_t, ile_d]
  congr 3
  have := h3 _ eb
  by_cases hc : Cn (treeE es b) (rdP es (e : Int)).1 (rdP es (e : Int)).2
  · rw [decide_eq_true hc, decide_eq_true (this.2 hc)]
  · rw [decide_eq_false hc, decide_eq_false (fun h => hc (this.1 h))]
noncomputable def treesF (m : Nat) (es : List (Int × Int)) : Nat → List Int → List (List Int)
  | 0, b => if b.length + 1 = m then [b] else []
  | d + 1, b => if b.length + 1 = m then [b] else
      (if Cn (treeE es b) (rdP es ((es.length - (d + 1) : Nat) : Int)).1 (rdP es ((es.length - (d + 1) : Nat) : Int)).2 then [] else treesF m es d (b ++ [((es.length - (d + 1) : Nat) : Int)])) ++ treesF m es d b
theorem treesF_leaf {m : Nat} {es : List (Int × Int)} {d : Nat} {b : List Int} (h : b.length + 1 = m) : treesF m es d b = [b] := by
  cases d <;> (unfold treesF; rw [if_pos h])
theorem treesF_few {m : Nat} {es : List (Int × Int)} : ∀ (d : Nat) (b : List Int), d + b.length + 1 < m → treesF m es d b = [] := by
  intro d
  induction d with
  | zero => intro b h; unfold treesF; rw [if_neg (by omega)]
  | succ d ih =>
    intro b h
    unfold treesF
    rw [if_neg (by omega), ih b (by omega), ih _ (by simp; omega)]
    simp
theorem treesF_len {m : Nat} {es : List (Int × Int)} : ∀ (d : Nat) (b : List Int), ∀ t ∈ treesF m es d b, t.length + 1 = m := by
  intro d
  induction d with
  | zero =>
    intro b t ht
    unfold treesF at ht
    by_cases h : b.length + 1 = m
    · rw [if_pos h] at ht; simp at ht; rw [ht]; exact h
    · rw [if_neg h] at ht; simp at ht
  | succ d ih =>
    intro b t ht
    unfold treesF at ht
    by_cases h : b.length + 1 = m
    · rw [if_pos h] at ht; simp at ht; rw [ht]; exact h
    · rw [if_neg h] at ht
      rcases List.mem_append.1 ht with ht | ht
      · split at ht
        · simp at ht
        · exact ih _ t ht
      · exact ih b t ht
/-- What is there after some trees have come behind a list, as long as there are not too many. -/
def Grown (o R o' : List (List Int)) : Prop := if o.length + R.length ≤ 300 then o' = o ++ R else 300 < o'.length
theorem grow_eq {N : Nat} {m : Nat} {es : List (Int × Int)} (hg : goodG ((m : Int), es)) (hm : 1 ≤ m) (hx : es.length ≤ 1048576) (hN : 1048577 ≤ N) :
    ∀ (F d : Nat) (b : List Int) (o : List (List Int)), m ≤ F + b.length → d ≤ es.length → (∀ i ∈ b, 0 ≤ i ∧ i < (es.length : Int)) → b.length + 1 ≤ m → o.length ≤ 300 →
      ∃ o', spec_l7Grow_r N F ((m : Int), es) b ((es.length - d : Nat) : Int) o = some ((o', ()), ()) ∧ Grown o (treesF m es d b) o' := by
  have hm8 : m ≤ 8 := by have := hg.1.2; simp only at this; omega
  intro F
  induction F with
  | zero => intro d b o h1 _ _ h2; omega
  | succ F ih =>
    intro d b o hF hd hb hl ho
    unfold spec_l7Grow_r spec_l7Grow_b
    rw [tLen_n, wrap_ok (by omega) (by omega)]
    by_cases hlf : b.length + 1 = m
    · simp only []
      rw [ieq_t (by omega), br_t, l1Own_eq (by omega), bind_some', room_ok (by simp; omega), chk_t, treesF_leaf hlf]
      refine ⟨_, rfl, ?_⟩
      unfold Grown
      by_cases hc : o.length + [b].length ≤ 300
      · rw [if_pos hc]; rfl
      · rw [if_neg hc]
        simp only [tApp_d, List.length_append]
        omega
    · simp only []
      rw [ieq_f (by omega), br_f]
      have go : ∀ (d K : Nat) (o : List (List Int)), d ≤ es.length → d < K → o.length ≤ 300 →
          ∃ o', spec_l7Grow_l0 N (spec_l7Grow_r N F) (fun o => some ((o, ()), ())) K b ((es.length - d : Nat) : Int) o (m : Int) es = some ((o', ()), ()) ∧ Grown o (treesF m es d b) o' := by
        intro d
        induction d with
        | zero =>
          intro K o hd hK ho
          obtain ⟨k, rfl⟩ := succ_of hK
          simp only [spec_l7Grow_l0, Nat.sub_zero, ilt_lenf (Nat.lt_irrefl es.length), br_f]
          refine ⟨o, rfl, ?_⟩
          unfold Grown treesF
          rw [if_neg hlf, if_pos (by simpa using ho), List.append_nil]
        | succ d ihd =>
          intro K o hd hK ho
          obtain ⟨k, rfl⟩ := succ_of hK
          have hlt : es.length - (d + 1) < es.length := by omega
          have hnext : es.length - (d + 1) + 1 = es.length - d := by omega
          simp only [spec_l7Grow_l0, ilt_len hlt, br_t]
          rw [tLen_n, ile_t (by omega), br_t, l1Own_eq (by omega), bind_some', room_ok (by simp; omega), chk_t, tApp_d]
          simp only []
          rw [l7Closes_eq hg hx hb (by omega) hlt hN, bind_some', wrap_succ (by omega), hnext]
          by_cases hc : Cn (treeE es b) (rdP es ((es.length - (d + 1) : Nat) : Int)).1 (rdP es ((es.length - (d + 1) : Nat) : Int)).2
          · rw [decide_eq_true hc]
            simp only [Bool.not_true, br_f]
            obtain ⟨o', e1, e2⟩ := ihd k o (by omega) (by omega) ho
            refine ⟨o', e1, ?_⟩
            unfold treesF
            rw [if_neg hlf, if_pos hc, List.nil_append]
            exact e2
          · rw [decide_eq_false hc]
            simp only [Bool.not_false, br_t]
            obtain ⟨o1, e1, e2⟩ := ih d (b ++ [((es.length - (d + 1) : Nat) : Int)]) o (by simp; omega) (by omega) (fun i hi => by
              rcases List.mem_append.1 hi with h | h
              · exact hb i h
              · simp at h; rw [h]; omega) (by simp; omega) ho
            rw [e1, bind_some']
            simp only []
            unfold treesF
            rw [if_neg hlf, if_neg hc]
            unfold Grown at e2 ⊢
            by_cases hs : o.length + (treesF m es d (b ++ [((es.length - (d + 1) : Nat) : Int)])).length ≤ 300
            · rw [if_pos hs] at e2
              obtain ⟨o2, e3, e4⟩ := ihd k o1 (by omega) (by omega) (by rw [e2, List.length_append]; exact hs)
              refine ⟨o2, e3, ?_⟩
              unfold Grown at e4
              rw [e2, List.length_append] at e4
              rw [List.length_append]
              by_cases hs2 : o.length + (treesF m es d (b ++ [((es.length - (d + 1) : Nat) : Int)])).length + (treesF m es d b).length ≤ 300
              · rw [if_pos hs2] at e4
                rw [if_pos (by omega), e4, List.append_assoc]
              · rw [if_neg hs2] at e4
                rw [if_neg (by omega)]
                exact e4
            · rw [if_neg hs] at e2
              obtain ⟨k', rfl⟩ : ∃ k', k = k' + 1 := ⟨k - 1, by omega⟩
              refine ⟨o1, ?_, ?_⟩
              · simp only [spec_l7Grow_l0, tLen_n]
                rw [ile_f (by omega), br_f, br_same]
              · rw [if_neg (by rw [List.length_append]; omega)]
                exact e2
      exact go d N o hd (by omega) ho
/-- The program's way. -/
theorem from_eq {N : Nat} {m : Nat} {es : List (Int × Int)} (hg : goodG ((m : Int), es)) (hm : 1 ≤ m) (hx : es.length ≤ 1048576) (hN : 1048577 ≤ N) :
    ∀ (d F : Nat) (b j : List Int) (o : List (List Int)), d < F → d ≤ es.length → (∀ i ∈ b, 0 ≤ i ∧ i < (es.length : Int)) → b.length + 1 ≤ m → o.length ≤ 300 → (∃ δ ρ, δ ≤ b.length ∧ UF m (treeE es b) j δ ρ) →
      ∃ (ok : Bool) (b' : List Int) (o' : List (List Int)), impl_Graph_trees_c1_r N F ((es.length - d : Nat) : Int) j b ((m : Int), es) o () = some ((ok, ()), (b', (o', ()))) ∧
        if o.length + (treesF m es d b).length ≤ 300 then ok = true ∧ b' = b ∧ o' = o ++ treesF m es d b else ok = false := by
  have hm8 : m ≤ 8 := by have := hg.1.2; simp only at this; omega
  intro d
  induction d with
  | zero =>
    intro F b j o hF hd hb hl ho hu
    obtain ⟨F, rfl⟩ := succ_of hF
    unfold impl_Graph_trees_c1_r impl_Graph_trees_c1_b
    simp only [tLen_n]
    rw [wrap_ok (by omega) (by omega)]
    by_cases hlf : b.length + 1 = m
    · rw [ieq_t (by omega), br_t, Clone_eq (by omega), bind_some', room_ok (by simp; omega), chk_t, treesF_leaf hlf, tApp_d]
      refine ⟨_, _, _, rfl, ?_⟩
      simp only [List.length_append, List.length_singleton]
      by_cases hc : o.length + 1 ≤ 300
      · rw [if_pos hc, ile_t (by omega)]; simp
      · rw [if_neg hc, ile_f (by omega)]
    · rw [ieq_f (by omega), br_f, wrap_ok (by omega) (by omega), wrap_ok (by omega) (by omega), ilt_t (by omega), br_t, treesF_few 0 b (by omega)]
      refine ⟨_, _, _, rfl, ?_⟩
      rw [if_pos (by simpa using ho), List.append_nil]
      exact ⟨rfl, rfl, rfl⟩
  | succ d ih =>
    intro F b j o hF hd hb hl ho hu
    obtain ⟨F, rfl⟩ := succ_of hF
    have hlt : es.length - (d + 1) < es.length := by omega
    have hnext : es.length - (d + 1) + 1 = es.length - d := by omega
    unfold impl_Graph_trees_c1_r impl_Graph_trees_c1_b
    simp only [tLen_n]
    rw [wrap_ok (n := (m : Int) - 1) (by omega) (by omega)]
    by_cases hlf : b.length + 1 = m
    · rw [ieq_t (by omega), br_t, Clone_eq (by omega), bind_some', room_ok (by simp; omega), chk_t, treesF_leaf hlf, tApp_d]
      refine ⟨_, _, _, rfl, ?_⟩
      simp only [List.length_append, List.length_singleton]
      by_cases hc : o.length + 1 ≤ 300
      · rw [if_pos hc, ile_t (by omega)]; simp
      · rw [if_neg hc, ile_f (by omega)]
    · rw [ieq_f (by omega), br_f, wrap_ok (by omega) (by omega), wrap_ok (by omega) (by omega)]
      by_cases hfew : d + 1 + b.length + 1 < m
      · rw [ilt_t (by omega), br_t, treesF_few (d + 1) b hfew]
        refine ⟨_, _, _, rfl, ?_⟩
        rw [if_pos (by simpa using ho), List.append_nil]
        exact ⟨rfl, rfl, rfl⟩
      · obtain ⟨δ, ρ, hδ, hu'⟩ := hu
        obtain ⟨ea, eb⟩ := edge_in hg hlt
        obtain ⟨j', e1, e2⟩ := join_eq hu' (show δ < N by omega) ea eb
        rw [ilt_f (by omega), br_f, CloneJ_eq (by rw [hu'.len]; omega), bind_some', inb_n hlt, chk_t]
        simp only []
        rw [e1, bind_some']
        simp only []
        rw [wrap_succ (by omega), hnext]
        unfold treesF
        rw [if_neg hlf]
        by_cases hc : Cn (treeE es b) (rdP es ((es.length - (d + 1) : Nat) : Int)).1 (rdP es ((es.length - (d + 1) : Nat) : Int)).2
        · rw [decide_eq_false (not_not_intro hc), br_f, if_pos hc, List.nil_append]
          obtain ⟨ok, b', o', h1, h2⟩ := ih F b j o (by omega) (by omega) hb hl ho ⟨δ, ρ, hδ, hu'⟩
          rw [h1]
          exact ⟨ok, b', o', rfl, h2⟩
        · rw [decide_eq_true hc, br_t, if_neg hc, room_ok (by simp; omega), chk_t, tApp_d]
          rw [← treeE_snoc] at e2
          obtain ⟨ok, b', o', h1, h2⟩ := ih F (b ++ [((es.length - (d + 1) : Nat) : Int)]) j' o (by omega) (by omega) (fun i hi => by
              rcases List.mem_append.1 hi with h | h
              · exact hb i h
              · simp at h; rw [h]; omega) (by simp; omega) ho ⟨δ + 1, _, by simp; omega, e2⟩
          rw [h1, bind_some']
          simp only []
          rw [List.length_append]
          by_cases hs : o.length + (treesF m es d (b ++ [((es.length - (d + 1) : Nat) : Int)])).length ≤ 300
          · rw [if_pos hs] at h2
            obtain ⟨rfl, rfl, rfl⟩ := h2
            have hcut : tCut (b ++ [((es.length - (d + 1) : Nat) : Int)]) 0 (b.length : Int) = b := by
              rw [show (0 : Int) = ((0 : Nat) : Int) from rfl, tCut_n]
              simp
            have hw : IntKind.i64.wrap (((b ++ [((es.length - (d + 1) : Nat) : Int)]).length : Int) - 1) = (b.length : Int) := by
              rw [List.length_append, List.length_singleton, wrap_ok (by omega) (by omega)]; omega
            rw [hw, hcut]
            obtain ⟨ok2, b2, o2, h3, h4⟩ := ih F b j (o ++ treesF m es d (b ++ [((es.length - (d + 1) : Nat) : Int)])) (by omega) (by omega) hb hl (by rw [List.length_append]; exact hs) ⟨δ, ρ, hδ, hu'⟩
            rw [h3, ile_t (by omega), ile_t (by omega), ile_t (by rw [List.length_append]; omega)]
            simp only [Bool.not_true, br_f, Bool.and_self, chk_t, bind_some']
            refine ⟨ok2, b2, o2, rfl, ?_⟩
            rw [List.length_append] at h4
            by_cases hs2 : o.length + (treesF m es d (b ++ [((es.length - (d + 1) : Nat) : Int)])).length + (treesF m es d b).length ≤ 300
            · rw [if_pos hs2] at h4
              rw [if_pos (by omega), ← List.append_assoc]
              exact h4
            · rw [if_neg hs2] at h4
              rw [if_neg (by omega)]
              exact h4
          · rw [if_neg hs] at h2
            subst h2
            rw [Bool.not_false, br_t]
            exact ⟨false, b', o', rfl, by rw [if_neg (by omega)]⟩
noncomputable def spanL (m : Nat) (es : List (Int × Int)) : List (List Int) := if (treesF m es es.length []).length ≤ 300 then treesF m es es.length [] else []
noncomputable def spanV (g : Int × List (Int × Int)) : List (List Int) × Bool := if goodG g ∧ 0 < g.1 then (spanL g.1.toNat g.2, decide (0 < (spanL g.1.toNat g.2).length)) else ([], false)
theorem l7Trees_eq {N : Nat} {m : Nat} {es : List (Int × Int)} (hg : goodG ((m : Int), es)) (hm : 1 ≤ m) (hx : es.length ≤ 1048576) (hN : 1048577 ≤ N) : spec_l7Trees N ((m : Int), es) = some ((spanL m es, ()), ()) := by
  have hm8 : m ≤ 8 := by have := hg.1.2; simp only at this; omega
  unfold spec_l7Trees spec_l7Grow
  obtain ⟨o', h1, h2⟩ := grow_eq (N := N) hg hm hx hN N es.length [] [] (by simp; omega) (Nat.le_refl _) (by simp) (by simpa using hm) (by simp)
  rw [Nat.sub_self] at h1
  simp only [Int.natCast_zero] at h1
  rw [h1, bind_some']
  simp only [tLen_n]
  unfold Grown at h2
  unfold spanL
  simp only [List.length_nil, Nat.zero_add, List.nil_append] at h2
  by_cases hc : (treesF m es es.length []).length ≤ 300
  · rw [if_pos hc] at h2 ⊢
    rw [ilt_f (by rw [h2]; omega), br_f, h2]
  · rw [if_neg hc] at h2 ⊢
    rw [ilt_t (by omega), br_t]
theorem impl_trees_eq {N : Nat} {m : Nat} {es : List (Int × Int)} (hg : goodG ((m : Int), es)) (hm : 1 ≤ m) (hx : es.length ≤ 1048576) (hN : 1048577 ≤ N) : ∃ l, impl_Graph_trees N ((m : Int), es) = some ((l, decide (0 < (spanL m es).length), ()), ()) ∧ (0 < (spanL m es).length → l = spanL m es) := by
  have hm8 : m ≤ 8 := by have := hg.1.2; simp only at this; omega
  unfold impl_Graph_trees impl_Graph_trees_c1
  obtain ⟨j, hj, hu⟩ := newJoiner_eq (N := N) (n := m) (by omega) hN
  simp only []
  rw [hj, bind_some']
  obtain ⟨ok, b', o', h1, h2⟩ := from_eq (N := N) hg hm hx hN es.length N [] j [] (by omega) (Nat.le_refl _) (by simp) (by simpa using hm) (by simp) ⟨0, _, Nat.le_refl _, hu⟩
  rw [Nat.sub_self] at h1
  simp only [Int.natCast_zero] at h1
  simp only []
  rw [h1, bind_some']
  simp only [List.length_nil, Nat.zero_add, List.nil_append] at h2
  unfold spanL
  by_cases hc : (treesF m es es.length []).length ≤ 300
  · rw [if_pos hc] at h2 ⊢
    obtain ⟨rfl, rfl, rfl⟩ := h2
    refine ⟨treesF m es es.length [], ?_, fun _ => rfl⟩
    simp only [br_t]
    congr 4
    rw [tLen_n]
    by_cases hp : 0 < (treesF m es es.length []).length
    · rw [ilt_0 hp, decide_eq_true hp]
    · rw [ilt_0n hp, decide_eq_false hp]
  · rw [if_neg hc] at h2 ⊢
    subst h2
    exact ⟨o', rfl, fun h => absurd h (by simp)⟩
theorem SpanningTrees_both {N : Nat} {g : Int × List (Int × Int)} (hx : g.2.length ≤ 1048576) (hN : 1048577 ≤ N) : ((spanV g).1.length ≤ 300 ∧ ∀ x ∈ (spanV g).1, x.length ≤ 8) ∧ spec_SpanningTrees N g = some (((spanV g).1, (spanV g).2, ()), ()) ∧ impl_SpanningTrees N g = some (((spanV g).1, (spanV g).2, ()), ()) := by
  obtain ⟨m', es⟩ := g
  simp only at hx
  unfold spec_SpanningTrees impl_SpanningTrees spanV
  simp only []
  rw [l7Some_eq hx hN, IsGraph_eq hx hN, bind_some', bind_some']
  by_cases h : goodG (m', es) ∧ 0 < m'
  · obtain ⟨m, rfl⟩ : ∃ m : Nat, m' = m := ⟨m'.toNat, by omega⟩
    have hg := h.1
    have hm8 : m ≤ 8 := by have := hg.1.2; simp only at this; omega
    have hm : 1 ≤ m := by omega
    rw [decide_eq_true h, decide_eq_true h.1, if_pos h]
    simp only [Bool.not_true, br_f, Int.toNat_natCast]
    obtain ⟨l, h1, h2⟩ := impl_trees_eq (N := N) hg hm hx hN
    rw [l7Trees_eq hg hm hx hN, h1, bind_some', bind_some', ieq_f (by omega), br_f]
    unfold spec_l3Told
    simp only [bind_some', tLen_n]
    refine ⟨⟨?_, ?_⟩, ?_, ?_⟩
    · unfold spanL
      by_cases hc : (treesF m es es.length []).length ≤ 300
      · rw [if_pos hc]; exact hc
      · rw [if_neg hc]; exact Nat.zero_le _
    · intro x hx'
      unfold spanL at hx'
      by_cases hc : (treesF m es es.length []).length ≤ 300
      · rw [if_pos hc] at hx'
        have := treesF_len _ _ x hx'
        omega
      · rw [if_neg hc] at hx'
        simp at hx'
    · congr 4
      by_cases hp : 0 < (spanL m es).length
      · rw [ilt_0 hp, decide_eq_true hp]
      · rw [ilt_0n hp, decide_eq_false hp]
    · by_cases hp : 0 < (spanL m es).length
      · rw [decide_eq_true hp, h2 hp]
        rfl
      · rw [decide_eq_false hp]
        have : spanL m es = [] := List.length_eq_zero_iff.1 (by omega)
        rw [this]
        rfl
  · rw [if_neg h, decide_eq_false h]
    refine ⟨⟨Nat.zero_le _, by simp⟩, rfl, ?_⟩
    by_cases h1 : goodG (m', es)
    · rw [decide_eq_true h1]
      have h0 := h1.1.1
      simp only at h0
      simp only [Bool.not_true, br_f]
      have h2 : ¬ 0 < m' := fun h' => h ⟨h1, h'⟩
      rw [ieq_t (by omega), br_t]
    · rw [decide_eq_false h1]
      rfl
theorem SpanningTrees_pure {g : Int × List (Int × Int)} (hx : g.2.length ≤ 9223372036854775807) : laws_FnExactSpanningTrees 1048577 g = some ((true, ()), ()) := by
  unfold laws_FnExactSpanningTrees
  have hN : 1048577 ≤ 1048577 := Nat.le_refl _
  obtain ⟨r, h1, h2⟩ := szGraph_eq (N := 1048577) hx
  simp only [h1, bind_some']
  by_cases h : 0 ≤ r
  · rw [ilt_f (by omega), br_f]
    have h3 := h2 h
    obtain ⟨⟨c1, c2⟩, e1, e2⟩ := SpanningTrees_both (N := 1048577) h3 hN
    have k0 : (0 : Int) ≤ 1 ∧ (1 : Int) ≤ 1152921504606846976 := by omega
    have c3 : ∀ x ∈ (spanV g).1, x.length ≤ 1048576 := fun x hx => by have := c2 x hx; omega
    have c4 := sumL_le c3
    obtain ⟨g', hmk⟩ := markGraph_eq (N := 1048577) k0 h3 hN
    simp only [toGraph_eq h3 hN, bind_some', e1, e2, eqGraph_eq h3 hN, eqIntSS_eq (show (spanV g).1.length ≤ 1048576 by omega) c3 hN, decide_true, Bool.not_true, br_f, hmk, ilt_f (show ¬ 1 + 2 * (g.2.length : Int) < 0 by omega),
      markIntSS_eq k0 (show (spanV g).1.length ≤ 1048576 by omega) c3 hN, heldIntSS_eq k0 (show (spanV g).1.length ≤ 1048576 by omega) c3 hN, ilt_f (show ¬ 1 + sumL (spanV g).1 < 0 by omega), ine_f (rfl : 1 + sumL (spanV g).1 = 1 + sumL (spanV g).1)]
    simp [br_ite]
  · rw [ilt_t (by omega), br_t]
theorem SpanningTrees_pureT : ∀ x : argsT (psOf [QILQII]), WfA [QILQII] x → ∃ k m, (laws_FnExactSpanningTrees_S k).f x = some ((true, ()), m) :=
  fun x h => ⟨1048577, (), SpanningTrees_pure (len_ok h.1.2.1)⟩
end Go.Proofs.Ytfbkjgeaoafejaa
