/- Statements on data alone. -/
import Derived.Test.YthkejedgfhjdiaaPvPure
import Derived.Test.YthkejedgfhjdiaaLightTreeGb
set_option linter.all false
set_option linter.all false
namespace Go.Proofs.Ythkejedgfhjdiaa
open Go Go.PV Classical
noncomputable def wtN (W : List Int) (e : Int) : Nat := if 0 ≤ rdI W e ∧ rdI W e ≤ 99 then (rdI W e).toNat else 0
theorem wtN_le (W : List Int) (e : Int) : wtN W e ≤ 99 := by unfold wtN; split <;> omega
noncomputable def inW (W : List Int) (n w : Nat) : List Int := ((List.range' 0 n).filter fun e : Nat => decide (rdI W (e : Int) = (w : Int))).map fun e : Nat => (e : Int)
noncomputable def kQ (W : List Int) (n : Nat) : List Int := (List.range' 0 100).flatMap (inW W n)
theorem mem_inW {W : List Int} {n w : Nat} {x : Int} : x ∈ inW W n w ↔ InN n x ∧ rdI W x = w := by
  unfold inW
  rw [List.mem_map]
  constructor
  · rintro ⟨i, hi, rfl⟩
    obtain ⟨h1, h2⟩ := List.mem_filter.1 hi
    have := List.mem_range'_1.1 h1
    exact ⟨in_nat (by omega), of_decide_eq_true h2⟩
  · rintro ⟨h1, h2⟩
    obtain ⟨i, hi, rfl⟩ := nat_of h1
    exact ⟨i, List.mem_filter.2 ⟨List.mem_range'_1.2 (by omega), decide_eq_true h2⟩, rfl⟩
def okW (W : List Int) (n : Nat) : Prop := W.length = n ∧ ∀ x ∈ W, 0 ≤ x ∧ x ≤ 99
theorem okW_at {W : List Int} {n : Nat} (h : okW W n) {x : Int} (hx : InN n x) : 0 ≤ rdI W x ∧ rdI W x ≤ 99 := by
  obtain ⟨i, hi, rfl⟩ := nat_of hx
  rw [rdI_n (by rw [h.1]; exact hi)]
  exact h.2 _ (List.getElem_mem _)
theorem mem_kQ {W : List Int} {n : Nat} (h : okW W n) {x : Int} : x ∈ kQ W n ↔ InN n x := by
  unfold kQ
  rw [List.mem_flatMap]
  constructor
  · rintro ⟨w, _, hx⟩
    exact (mem_inW.1 hx).1
  · intro hx
    have := okW_at h hx
    exact ⟨(rdI W x).toNat, List.mem_range'_1.2 (by omega), mem_inW.2 ⟨hx, by omega⟩⟩
theorem inW_bef {W : List Int} {n w : Nat} (hw : w < 100) : (inW W n w).Pairwise (befE (wtN W)) := by
  unfold inW
  refine List.pairwise_map.2 (List.Pairwise.imp_of_mem (fun {a b} ha hb hab => ?_) (List.Pairwise.filter _ (List.pairwise_lt_range' (s := 0) (n := n) (step := 1) (pos := by omega))))
  have h1 := of_decide_eq_true (List.mem_filter.1 ha).2
  have h2 := of_decide_eq_true (List.mem_filter.1 hb).2
  refine .inr ⟨?_, by omega⟩
  unfold wtN
  rw [h1, h2]
theorem kQ_bef {W : List Int} {n : Nat} : (kQ W n).Pairwise (befE (wtN W)) := by
  unfold kQ
  have go : ∀ (d s : Nat), s + d = 100 → ((List.range' s d).flatMap (inW W n)).Pairwise (befE (wtN W)) := by
    intro d
    induction d with
    | zero => intro s _; exact List.Pairwise.nil
    | succ d ih =>
      intro s hs
      rw [List.range'_succ, List.flatMap_cons]
      refine List.pairwise_append.2 ⟨inW_bef (by omega), ih (s + 1) (by omega), fun a ha b hb => ?_⟩
      obtain ⟨w, hw, hb⟩ := List.mem_flatMap.1 hb
      have hw := List.mem_range'_1.1 hw
      have h1 := (mem_inW.1 ha).2
      have h2 := (mem_inW.1 hb).2
      refine .inl ?_
      unfold wtN
      rw [h1, h2, if_pos (by omega), if_pos (by omega)]
      omega
  exact go 100 0 rfl
noncomputable def kruL (W : List Int) (es : List (Int × Int)) : List Int := (kQ W es.length).foldl (stepK es) []
theorem kru_facts {W : List Int} {es : List (Int × Int)} (hW : okW W es.length) : (∀ x ∈ kruL W es, InN es.length x) ∧ (kruL W es).Nodup ∧ Acy (treeE es (kruL W es)) := by
  obtain ⟨t, ht, hts⟩ := stepK_sub (es := es) (kQ W es.length) []
  rw [List.nil_append] at ht
  refine ⟨fun x hx => (mem_kQ hW).1 (hts x (by rw [← ht]; exact hx)), stepK_nodup _ _ List.Pairwise.nil, stepK_acy _ _ .nil⟩
theorem in_edges {m : Nat} {es : List (Int × Int)} (hg : goodG ((m : Int), es)) {L : List Int} (h : ∀ x ∈ L, InN es.length x) : EdgesIn m (treeE es L) := treeE_in hg fun i hi => ⟨(h i hi).1, (h i hi).2⟩
theorem fold_inW {es : List (Int × Int)} {W : List Int} (w n : Nat) (S : List Int) : (inW W n w).foldl (stepK es) S = (List.range' 0 n).foldl (fun (L : List Int) (e : Nat) => if rdI W (e : Int) = (w : Int) then stepK es L (e : Int) else L) S := by
  unfold inW
  rw [List.foldl_map, List.foldl_filter]
  congr 1
  funext L e
  by_cases h : rdI W (e : Int) = (w : Int) <;> simp [h]
theorem spec_light_eq {N : Nat} {m : Nat} {es : List (Int × Int)} {W : List Int} (hg : goodG ((m : Int), es)) (hW : okW W es.length) (hN : 1048577 ≤ N) : spec_l7Light N ((m : Int), es) W = some (((kruL W es).foldl (fun p z => putI z p) [], ()), ()) := by
  have hn := codes hg
  have hWl := hW.1
  have hm8 : m ≤ 8 := by have := hg.1.2; simp only at this; omega
  unfold spec_l7Light
  have inner : ∀ (d e K : Nat) (w : Nat) (S : List Int) (k0 : List Int → Int → Int → List (Int × Int) → List Int → Option ((List Int × Unit) × Unit)), e + d = es.length → d < K → (∀ x ∈ S, InN es.length x) → S.length ≤ 1048000 + e →
      spec_l7Light_l0_0 N k0 K W (w : Int) (e : Int) (m : Int) es S = k0 W (w : Int) (m : Int) es ((List.range' e d).foldl (fun (L : List Int) (e : Nat) => if rdI W (e : Int) = (w : Int) then stepK es L (e : Int) else L) S) := by
    intro d
    induction d with
    | zero =>
      intro e K w S k0 he hK hS hl
      obtain ⟨k, rfl⟩ := succ_of hK
      simp only [spec_l7Light_l0_0, ilt_lenf (show ¬ e < W.length by omega), br_f]
      rfl
    | succ d ih =>
      intro e K w S k0 he hK hS hl
      obtain ⟨k, rfl⟩ := succ_of hK
      have hlt : e < es.length := by omega
      simp only [spec_l7Light_l0_0, ilt_len (show e < W.length by omega), br_t, inb_n (show e < W.length by omega), chk_t]
      rw [wrap_succ (by omega), List.range'_succ, List.foldl_cons]
      by_cases hw : rdI W (e : Int) = (w : Int)
      · rw [ieq_t hw, br_t, l1Own_eq (by omega), bind_some', room_ok (by simp; omega), chk_t, tApp_d]
        simp only []
        rw [l7Closes_eq hg (by omega) (fun i hi => ⟨(hS i hi).1, (hS i hi).2⟩) (by omega) hlt hN, bind_some', chk_t, if_pos hw]
        unfold stepK
        by_cases hc : spE es S (e : Int)
        · rw [decide_eq_true (show Cn (treeE es S) (rdP es (e : Int)).1 (rdP es (e : Int)).2 from hc), if_pos hc]
          simp only [Bool.not_true, br_f]
          exact ih (e + 1) k w S k0 (by omega) (by omega) hS (by omega)
        · rw [decide_eq_false (show ¬ Cn (treeE es S) (rdP es (e : Int)).1 (rdP es (e : Int)).2 from hc), if_neg hc]
          simp only [Bool.not_false, br_t]
          exact ih (e + 1) k w (S ++ [(e : Int)]) k0 (by omega) (by omega) (fun x hx => by
            rcases List.mem_append.1 hx with h | h
            · exact hS x h
            · simp at h; rw [h]; exact in_nat hlt) (by simp; omega)
      · rw [ieq_f hw, br_f, if_neg hw]
        exact ih (e + 1) k w S k0 (by omega) (by omega) hS (by omega)
  have outer : ∀ (d w K : Nat) (S : List Int) (k0 : List Int → Option ((List Int × Unit) × Unit)), w + d = 100 → d < K → (∀ x ∈ S, InN es.length x) → S.Nodup →
      spec_l7Light_l0 N k0 K W (w : Int) (m : Int) es S = k0 (((List.range' w d).flatMap (inW W es.length)).foldl (stepK es) S) := by
    intro d
    induction d with
    | zero =>
      intro w K S k0 hw hK hS hnd
      obtain ⟨k, rfl⟩ := succ_of hK
      simp only [spec_l7Light_l0]
      rw [ile_f (by omega), br_f]
      rfl
    | succ d ih =>
      intro w K S k0 hw hK hS hnd
      obtain ⟨k, rfl⟩ := succ_of hK
      have hl : S.length ≤ es.length := by
        have := nodup_le hnd (b := allN es.length) fun x hx => mem_allN.2 (hS x hx)
        rwa [allN_len] at this
      simp only [spec_l7Light_l0]
      rw [ile_t (by omega), br_t]
      have h1 := inner es.length 0 N w S (fun weights2 w1 o3 o4 o5 => spec_l7Light_l0 N k0 k weights2 (IntKind.i64.wrap (w1 + 1)) o3 o4 o5) (by omega) (by omega) hS (by omega)
      simp only [Int.natCast_zero] at h1
      rw [h1, wrap_succ (by omega), ← fold_inW, List.range'_succ, List.flatMap_cons, List.foldl_append]
      refine ih (w + 1) k _ k0 (by omega) (by omega) (fun x hx => ?_) (stepK_nodup _ _ hnd)
      obtain ⟨t, ht, hts⟩ := stepK_sub (es := es) (inW W es.length w) S
      rw [ht] at hx
      rcases List.mem_append.1 hx with h | h
      · exact hS x h
      · exact (mem_inW.1 (hts x h)).1
  have h1 := outer 100 0 N [] (fun o => spec_l7Light_l1 N (fun o1 => some ((o1, ()), ())) N 0 o []) rfl (by omega) (by simp) List.Pairwise.nil
  simp only [Int.natCast_zero] at h1
  rw [h1]
  obtain ⟨f1, f2, f3⟩ := kru_facts hW
  have hKl : (kruL W es).length ≤ es.length := by
    have := nodup_le f2 (b := allN es.length) fun x hx => mem_allN.2 (f1 x hx)
    rwa [allN_len] at this
  have hput : ∀ (xs o : List Int), (∀ z ∈ xs, InN es.length z) → (strict o ∧ ∀ z ∈ o, InN es.length z) → strict (xs.foldl (fun p z => putI z p) o) ∧ ∀ z ∈ xs.foldl (fun p z => putI z p) o, InN es.length z := by
    intro xs
    induction xs with
    | nil => intro o _ h; exact h
    | cons x xs ih => intro o hz h; exact ih _ (fun z h' => hz z (List.mem_cons_of_mem _ h')) (putI_inM h (hz x (List.mem_cons_self ..)))
  show spec_l7Light_l1 N (fun o1 => some ((o1, ()), ())) N 0 (kruL W es) [] = _
  refine (loop_list (xs := kruL W es) (L := fun K i o => spec_l7Light_l1 N (fun o1 => some ((o1, ()), ())) K i (kruL W es) o) (k := fun o => some ((o, ()), ())) (fun p z => putI z p) (fun _ o => strict o ∧ ∀ z ∈ o, InN es.length z) (fun K i o hi _ => ?_) (fun K i o hi ho => ?_) (fun i o hi ho => putI_inM ho (f1 _ (List.getElem_mem hi))) (s := []) (K := N) (by omega) ⟨List.Pairwise.nil, by simp⟩).1
  · simp only [spec_l7Light_l1, ilt_lenf hi, br_f]
  · have := inN_len ho
    simp only [spec_l7Light_l1, ilt_len hi, br_t, inb_n hi, chk_t, rdI_n hi, l1Put_eq (show o.length ≤ 1048576 by omega) hN, bind_some']
    rw [wrap_succ (by omega)]
theorem UF_congr {m d : Nat} {es es' : List (Int × Int)} {j : List Int} {ρ : Int → Int} (h : UF m es j d ρ) (hc : ∀ x y, InN m x → InN m y → (Cn es x y ↔ Cn es' x y)) : UF m es' j d ρ :=
  ⟨⟨h.rng, h.idem, fun x y hx hy => (h.cn x y hx hy).trans (hc x y hx hy)⟩, h.len, h.fix, h.pth⟩
def UFb (m : Nat) (es : List (Int × Int)) (L : List Int) (j : List Int) (b : Nat) : Prop := ∃ δ ρ, δ ≤ b ∧ UF m (treeE es L) j δ ρ
theorem join_step {N m : Nat} {es : List (Int × Int)} {L j : List Int} {b : Nat} (hg : goodG ((m : Int), es)) (h : UFb m es L j b) (hb : b < N) {e : Int} (he : InN es.length e) :
    ∃ j', impl_joiner_join N j (rdP es e) = some ((decide (¬ spE es L e), ()), (j', ())) ∧ UFb m es (stepK es L e) j' (b + 1) := by
  obtain ⟨δ, ρ, h1, h2⟩ := h
  obtain ⟨i, hi, rfl⟩ := nat_of he
  obtain ⟨ea, eb⟩ := edge_in hg hi
  obtain ⟨j', e1, e2⟩ := join_eq h2 (show δ < N by omega) ea eb
  refine ⟨j', e1, δ + 1, joinF ρ (rdP es (i : Int)), by omega, ?_⟩
  unfold stepK
  by_cases hs : spE es L (i : Int)
  · rw [if_pos hs]
    refine UF_congr e2 fun x y _ _ => ?_
    rw [← treeE_snoc]
    exact ⟨spE_span fun z hz => by
      rcases List.mem_append.1 hz with h | h
      · exact spE_self h
      · simp at h; rw [h]; exact hs, Cn_mono fun p hp => by
      obtain ⟨z, hz, rfl⟩ := List.mem_map.1 hp
      exact List.mem_map.2 ⟨z, List.mem_append_left _ hz, rfl⟩⟩
  · rw [if_neg hs, treeE_snoc]
    exact e2
theorem wtN_at {W : List Int} {n : Nat} (h : okW W n) {x : Int} (hx : InN n x) : ((wtN W x : Nat) : Int) = rdI W x := by
  have := okW_at h hx
  unfold wtN
  rw [if_pos this]
  omega
theorem wsum_snoc (wt : Int → Nat) (L : List Int) (e : Int) : wsumN wt (L ++ [e]) = wsumN wt L + wt e := by simp [wsumN]
theorem wsum_le (W : List Int) : ∀ L : List Int, wsumN (wtN W) L ≤ 99 * L.length := by
  intro L
  induction L with
  | nil => simp [wsumN]
  | cons x L ih =>
    have h1 : wsumN (wtN W) (x :: L) = wtN W x + wsumN (wtN W) L := by simp [wsumN]
    have := wtN_le W x
    rw [h1, List.length_cons]
    omega
theorem lightest_eq {N : Nat} {m : Nat} {es : List (Int × Int)} {W S : List Int} (hm : 1 ≤ m) (hg : goodG ((m : Int), es)) (hW : okW W es.length) (hS : ∀ x ∈ S, InN es.length x) (hSl : S.length ≤ 100) (hN : 1048577 ≤ N) :
    ∃ (sum : Int) (ok : Bool), impl_Graph_lightest N ((m : Int), es) W S = some ((sum, ok, ()), ()) ∧
      (ok = true ↔ Acy (treeE es S) ∧ ((kQ W es.length).foldl (stepK es) S).length + 1 = m) ∧ (ok = true → sum = (wsumN (wtN W) ((kQ W es.length).foldl (stepK es) S) : Nat)) := by
  have hn := codes hg
  have hWl := hW.1
  have hm8 : m ≤ 8 := by have := hg.1.2; simp only at this; omega
  unfold impl_Graph_lightest
  obtain ⟨j, hj, hu⟩ := newJoiner_eq (N := N) (n := m) (by omega) hN
  simp only []
  rw [hj, bind_some', tLen_n]
  simp only []
  have inner : ∀ (d e K w b : Nat) (L j : List Int) (k0 : List Int → Int → Int → Int → Int → List (Int × Int) → List Int → Option ((Int × Bool × Unit) × Unit)), e + d = es.length → d < K → w < 100 → (∀ x ∈ L, InN es.length x) → L.length ≤ b → b + d ≤ 100000 → UFb m es L j b →
      ∃ (L' j' : List Int), L' = (List.range' e d).foldl (fun (L : List Int) (e : Nat) => if rdI W (e : Int) = (w : Int) then stepK es L (e : Int) else L) L ∧ (∀ x ∈ L', InN es.length x) ∧ L'.length ≤ b + d ∧ UFb m es L' j' (b + d) ∧
        impl_Graph_lightest_l1_0 N k0 K W ((wsumN (wtN W) L : Nat) : Int) ((L.length : Nat) : Int) (w : Int) (w : Int) es (es.length : Int) (e : Int) (m : Int) es j = k0 W ((wsumN (wtN W) L' : Nat) : Int) ((L'.length : Nat) : Int) (w : Int) (m : Int) es j' := by
    intro d
    induction d with
    | zero =>
      intro e K w b L j k0 he hK hw hL hl hb hu
      obtain ⟨k, rfl⟩ := succ_of hK
      simp only [impl_Graph_lightest_l1_0, ilt_nf (show ¬ e < es.length by omega), br_f]
      exact ⟨L, j, rfl, hL, by omega, by simpa using hu, rfl⟩
    | succ d ih =>
      intro e K w b L j k0 he hK hw hL hl hb hu
      obtain ⟨k, rfl⟩ := succ_of hK
      have hlt : e < es.length := by omega
      have hsum := wsum_le W L
      simp only [impl_Graph_lightest_l1_0, ilt_n hlt, br_t, inb_n hlt, inb_n (show e < W.length by omega), chk_t]
      rw [wrap_succ (show e < 4611686018427387904 by omega), List.range'_succ, List.foldl_cons]
      by_cases hwe : rdI W (e : Int) = (w : Int)
      · obtain ⟨j', e1, e2⟩ := join_step hg hu (show b < N by omega) (in_nat hlt)
        rw [ieq_t hwe, br_t, if_pos hwe]
        rw [show ((rdP es (e : Int)).1, (rdP es (e : Int)).2) = rdP es (e : Int) from rfl, e1, bind_some']
        by_cases hs : spE es L (e : Int)
        · have e3 : stepK es L (e : Int) = L := by unfold stepK; rw [if_pos hs]
          rw [decide_eq_false (not_not_intro hs), br_f]
          rw [e3] at e2 ⊢
          obtain ⟨L', j2, g1, g2, g3, g4, g5⟩ := ih (e + 1) k w (b + 1) L j' k0 (by omega) (by omega) hw hL (by omega) (by omega) e2
          exact ⟨L', j2, g1, g2, by omega, by rw [show b + (d + 1) = b + 1 + d by omega]; exact g4, g5⟩
        · have e3 : stepK es L (e : Int) = L ++ [(e : Int)] := by unfold stepK; rw [if_neg hs]
          rw [decide_eq_true hs, br_t]
          rw [e3] at e2 ⊢
          have hwt : wtN W (e : Int) = w := by have := wtN_at hW (in_nat hlt); omega
          have hs1 : IntKind.i64.wrap (((wsumN (wtN W) L : Nat) : Int) + (w : Int)) = ((wsumN (wtN W) (L ++ [(e : Int)]) : Nat) : Int) := by
            rw [wsum_snoc, hwt, wrap_ok (by omega) (by omega)]
            omega
          have hs2 : IntKind.i64.wrap (((L.length : Nat) : Int) + 1) = (((L ++ [(e : Int)]).length : Nat) : Int) := by
            rw [List.length_append, List.length_singleton, wrap_succ (by omega)]
          rw [hs1, hs2]
          obtain ⟨L', j2, g1, g2, g3, g4, g5⟩ := ih (e + 1) k w (b + 1) (L ++ [(e : Int)]) j' k0 (by omega) (by omega) hw (fun x hx => by
            rcases List.mem_append.1 hx with h | h
            · exact hL x h
            · simp at h; rw [h]; exact in_nat hlt) (by simp; omega) (by omega) e2
          exact ⟨L', j2, g1, g2, by omega, by rw [show b + (d + 1) = b + 1 + d by omega]; exact g4, g5⟩
      · rw [ieq_f hwe, br_f, if_neg hwe]
        have hu' : UFb m es L j (b + 1) := by obtain ⟨δ, ρ, q1, q2⟩ := hu; exact ⟨δ, ρ, by omega, q2⟩
        obtain ⟨L', j2, g1, g2, g3, g4, g5⟩ := ih (e + 1) k w (b + 1) L j k0 (by omega) (by omega) hw hL (by omega) (by omega) hu'
        exact ⟨L', j2, g1, g2, by omega, by rw [show b + (d + 1) = b + 1 + d by omega]; exact g4, g5⟩
  have outer : ∀ (d w K b : Nat) (L j : List Int), w + d = 100 → d < K → (∀ x ∈ L, InN es.length x) → L.length ≤ b → b + d * 64 ≤ 90000 → UFb m es L j b →
      impl_Graph_lightest_l1 N (fun x5 x6 o3 o4 => some ((x5, (ieq x6 (IntKind.i64.wrap (o3 - 1))), ()), ())) K W ((wsumN (wtN W) L : Nat) : Int) ((L.length : Nat) : Int) (w : Int) (m : Int) es j =
        some ((((wsumN (wtN W) (((List.range' w d).flatMap (inW W es.length)).foldl (stepK es) L) : Nat) : Int), ieq ((((List.range' w d).flatMap (inW W es.length)).foldl (stepK es) L).length : Int) (IntKind.i64.wrap ((m : Int) - 1)), ()), ()) := by
    intro d
    induction d with
    | zero =>
      intro w K b L j hw hK hL hl hb hu
      obtain ⟨k, rfl⟩ := succ_of hK
      simp only [impl_Graph_lightest_l1]
      rw [ilt_f (by omega), br_f]
      rfl
    | succ d ih =>
      intro w K b L j hw hK hL hl hb hu
      obtain ⟨k, rfl⟩ := succ_of hK
      simp only [impl_Graph_lightest_l1]
      rw [ilt_t (by omega), br_t, tLen_n]
      obtain ⟨L', j', g1, g2, g3, g4, g5⟩ := inner es.length 0 N w b L j (fun x9 x10 x11 x12 o6 o7 o8 => impl_Graph_lightest_l1 N (fun x5 x6 o3 o4 => some ((x5, (ieq x6 (IntKind.i64.wrap (o3 - 1))), ()), ())) k x9 x10 x11 (IntKind.i64.wrap (x12 + 1)) o6 o7 o8) (by omega) (by omega) (by omega) hL hl (by omega) hu
      simp only [Int.natCast_zero] at g5
      rw [g5, wrap_succ (by omega), List.range'_succ, List.flatMap_cons, List.foldl_append, fold_inW, ← g1]
      exact ih (w + 1) k (b + es.length) L' j' (by omega) (by omega) g2 g3 (by omega) g4
  have first : ∀ (d n K : Nat) (j : List Int), n + d = S.length → d < K → Acy (treeE es (S.take n)) → UFb m es (S.take n) j n →
      ∃ (sum : Int) (ok : Bool), impl_Graph_lightest_l0 N (fun x x1 => some ((x, x1, ()), ())) (fun x2 x3 x4 o o1 o2 => impl_Graph_lightest_l1 N (fun x5 x6 o3 o4 => some ((x5, (ieq x6 (IntKind.i64.wrap (o3 - 1))), ()), ())) N x2 x3 x4 0 o o1 o2) K W ((wsumN (wtN W) (S.take n) : Nat) : Int) (n : Int) S (S.length : Int) (n : Int) (m : Int) es j = some ((sum, ok, ()), ()) ∧
        (ok = true ↔ Acy (treeE es S) ∧ ((kQ W es.length).foldl (stepK es) S).length + 1 = m) ∧ (ok = true → sum = (wsumN (wtN W) ((kQ W es.length).foldl (stepK es) S) : Nat)) := by
    intro d
    induction d with
    | zero =>
      intro n K j hd hK ha hu
      obtain ⟨k, rfl⟩ := succ_of hK
      simp only [impl_Graph_lightest_l0, ilt_nf (show ¬ n < S.length by omega), br_f]
      rw [List.take_of_length_le (by omega)] at ha hu ⊢
      have h1 := outer 100 0 N n S j rfl (by omega) hS (by omega) (by omega) hu
      simp only [Int.natCast_zero] at h1
      rw [show (n : Int) = ((S.length : Nat) : Int) by omega, h1]
      refine ⟨_, _, rfl, ?_, fun _ => rfl⟩
      show ieq (((kQ W es.length).foldl (stepK es) S).length : Int) (IntKind.i64.wrap ((m : Int) - 1)) = true ↔ _
      rw [wrap_ok (by omega) (by omega), ieq_d, decide_eq_true_iff]
      exact ⟨fun h => ⟨ha, by omega⟩, fun h => by omega⟩
    | succ d ih =>
      intro n K j hd hK ha hu
      obtain ⟨k, rfl⟩ := succ_of hK
      have hlt : n < S.length := by omega
      have hin := hS _ (List.getElem_mem hlt)
      have hsum := wsum_le W (S.take n)
      have hsn : S.take (n + 1) = S.take n ++ [S[n]] := by rw [List.take_add_one, List.getElem?_eq_getElem hlt]; rfl
      obtain ⟨j', e1, e2⟩ := join_step hg hu (show n < N by omega) hin
      simp only [impl_Graph_lightest_l0, ilt_n hlt, br_t, inb_n hlt, chk_t, rdI_n hlt]
      rw [inb_i hin.1 hin.2, chk_t, e1, bind_some', inb_i hin.1 (by rw [hWl]; exact hin.2), chk_t]
      have hpre : ∀ (a b : List (Int × Int)), Acy (a ++ b) → Acy a := by
        intro a b
        have : ∀ (k : Nat) (b : List (Int × Int)), b.length = k → Acy (a ++ b) → Acy a := by
          intro k
          induction k with
          | zero => intro b hb h; rw [List.length_eq_zero_iff.1 hb, List.append_nil] at h; exact h
          | succ k ih =>
            intro b hb h
            rcases List.eq_nil_or_concat b with rfl | ⟨b', x, rfl⟩
            · simp at hb
            · rw [List.concat_eq_append, ← List.append_assoc] at h
              exact ih b' (by simpa using hb) (acy_snoc.1 h).1
        exact this b.length b rfl
      by_cases hs : spE es (S.take n) S[n]
      · rw [decide_eq_false (not_not_intro hs)]
        simp only [Bool.not_false, br_t]
        refine ⟨0, false, rfl, ⟨fun h => (by cases h), fun ⟨hacy, _⟩ => ?_⟩, fun h => (by cases h)⟩
        exfalso
        have hsplit : treeE es S = treeE es (S.take (n + 1)) ++ treeE es (S.drop (n + 1)) := by
          unfold treeE
          rw [← List.map_append, List.take_append_drop]
        rw [hsplit] at hacy
        have := hpre _ _ hacy
        rw [hsn, treeE_snoc] at this
        exact (acy_snoc.1 this).2 hs
      · rw [decide_eq_true hs]
        simp only [Bool.not_true, br_f]
        have hl : (S.take n).length = n := by simp; omega
        have hs1 : IntKind.i64.wrap (((wsumN (wtN W) (S.take n) : Nat) : Int) + rdI W S[n]) = ((wsumN (wtN W) (S.take (n + 1)) : Nat) : Int) := by
          have h99 := wtN_le W S[n]
          rw [hsn, wsum_snoc, ← wtN_at hW hin, wrap_ok (by omega) (by omega)]
          omega
        rw [hs1, wrap_succ (by omega)]
        have e3 : stepK es (S.take n) S[n] = S.take (n + 1) := by unfold stepK; rw [if_neg hs, hsn]
        rw [e3] at e2
        exact ih (n + 1) k j' (by omega) (by omega) (by rw [hsn, treeE_snoc]; exact .snoc ha hs) e2
  have := first S.length 0 N j (by omega) (by omega) .nil ⟨0, _, Nat.le_refl _, hu⟩
  exact this
theorem acy_of_sub {m : Nat} {es : List (Int × Int)} {K : List Int} (hE : EdgesIn m (treeE es K)) (hn : K.Nodup) (h : Acy (treeE es K)) : ∀ (L : List Int), L.Nodup → (∀ x ∈ L, x ∈ K) → Acy (treeE es L) := by
  have key : ∀ (n : Nat) (L : List Int), L.length = n → L.Nodup → (∀ x ∈ L, x ∈ K) → Acy (treeE es L) := by
    intro n
    induction n with
    | zero => intro L hl _ _; rw [List.length_eq_zero_iff.1 hl]; exact .nil
    | succ n ih =>
      intro L hl hnd hs
      rcases List.eq_nil_or_concat L with rfl | ⟨L', e, rfl⟩
      · simp at hl
      · rw [List.concat_eq_append] at *
        obtain ⟨d1, _, d3⟩ := List.nodup_append.1 hnd
        rw [treeE_snoc]
        refine .snoc (ih L' (by simpa using hl) d1 fun x hx => hs x (List.mem_append_left _ hx)) fun hc => ?_
        refine ind_acy hE hn h (hs e (by simp)) (spE_mono (fun z hz => ?_) hc)
        exact List.mem_filter.2 ⟨hs z (List.mem_append_left _ hz), decide_eq_true (d3 z hz e (by simp))⟩
  exact fun L => key L.length L rfl
noncomputable def kle (K : List Int) (e : Nat) : List Int := ((List.range' 0 e).filter fun i : Nat => decide ((i : Int) ∈ K)).map fun i : Nat => (i : Int)
theorem mem_kle {K : List Int} {e : Nat} {x : Int} : x ∈ kle K e ↔ InN e x ∧ x ∈ K := by
  unfold kle
  rw [List.mem_map]
  constructor
  · rintro ⟨i, hi, rfl⟩
    obtain ⟨h1, h2⟩ := List.mem_filter.1 hi
    have := List.mem_range'_1.1 h1
    exact ⟨in_nat (by omega), of_decide_eq_true h2⟩
  · rintro ⟨h1, h2⟩
    obtain ⟨i, hi, rfl⟩ := nat_of h1
    exact ⟨i, List.mem_filter.2 ⟨List.mem_range'_1.2 (by omega), decide_eq_true h2⟩, rfl⟩
theorem kle_strict (K : List Int) (e : Nat) : strict (kle K e) := by
  unfold kle
  exact List.pairwise_map.2 ((List.Pairwise.filter _ (List.pairwise_lt_range' (s := 0) (n := e) (step := 1) (pos := by omega))).imp fun h => by omega)
theorem kle_succ (K : List Int) (e : Nat) : kle K (e + 1) = kle K e ++ if (e : Int) ∈ K then [(e : Int)] else [] := by
  unfold kle
  rw [List.range'_1_concat, List.filter_append, List.map_append, Nat.zero_add]
  by_cases h : (e : Int) ∈ K <;> simp [h]
theorem kle_len (K : List Int) (e : Nat) : (kle K e).length ≤ e := by
  unfold kle
  rw [List.length_map]
  exact Nat.le_trans (List.length_filter_le ..) (by simp)
noncomputable def lightV (g : Int × List (Int × Int)) (W : List Int) : List Int × Bool :=
  if goodG g ∧ 0 < g.1 ∧ okW W g.2.length ∧ (kruL W g.2).length + 1 = g.1.toNat then (kle (kruL W g.2) g.2.length, true) else ([], false)
theorem impl_light_loop {N : Nat} {m : Nat} {es : List (Int × Int)} {W : List Int} (hm : 1 ≤ m) (hg : goodG ((m : Int), es)) (hW : okW W es.length) (hK : (kruL W es).length + 1 = m) (hN : 1048577 ≤ N) :
    ∀ (d e K : Nat), e + d = es.length → d < K → impl_LightTree_l0 N (fun o => some ((o, true, ()), ())) K W ((wsumN (wtN W) (kruL W es) : Nat) : Int) (es.length : Int) (e : Int) (m : Int) es (kle (kruL W es) e) = some ((kle (kruL W es) es.length, true, ()), ()) := by
  have hn := codes hg
  obtain ⟨f1, f2, f3⟩ := kru_facts hW
  have hEK := in_edges hg f1
  intro d
  induction d with
  | zero =>
    intro e K he hk
    obtain ⟨k, rfl⟩ := succ_of hk
    simp only [impl_LightTree_l0, ilt_nf (show ¬ e < es.length by omega), br_f]
    rw [show e = es.length by omega]
  | succ d ih =>
    intro e K he hk
    obtain ⟨k, rfl⟩ := succ_of hk
    have hlt : e < es.length := by omega
    have hkl := kle_len (kruL W es) e
    simp only [impl_LightTree_l0, ilt_n hlt, br_t]
    rw [Clone_eq (by omega), bind_some', room_ok (by simp; omega), chk_t, wrap_succ (by omega)]
    simp only [tApp_d]
    have hSin : ∀ x ∈ kle (kruL W es) e ++ [(e : Int)], InN es.length x := fun x hx => by
      rcases List.mem_append.1 hx with h | h
      · have := (mem_kle.1 h).1; exact ⟨this.1, by have := this.2; omega⟩
      · simp at h; rw [h]; exact in_nat hlt
    have hSnd : (kle (kruL W es) e ++ [(e : Int)]).Nodup := by
      refine List.nodup_append.2 ⟨strict_nodup (kle_strict _ _), by simp, fun a ha b hb => ?_⟩
      simp at hb
      subst hb
      have := (mem_kle.1 ha).1.2
      omega
    obtain ⟨sum, ok, l1, l2, l3⟩ := lightest_eq (N := N) (S := kle (kruL W es) e ++ [(e : Int)]) hm hg hW hSin (by simp; omega) hN
    rw [l1, bind_some']
    simp only []
    have hsucc := kle_succ (kruL W es) e
    have hnext := ih (e + 1) k (by omega) (by omega)
    by_cases hek : (e : Int) ∈ kruL W es
    · rw [if_pos hek] at hsucc
      rw [hsucc] at hnext
      have hSK : ∀ x ∈ kle (kruL W es) e ++ [(e : Int)], x ∈ kruL W es := fun x hx => by
        rcases List.mem_append.1 hx with h | h
        · exact (mem_kle.1 h).2
        · simp at h; rw [h]; exact hek
      have hmem := run_part (m := m) (es := es) (Q := kQ W es.length) hEK hSK
      have hperm := (List.perm_ext_iff_of_nodup (stepK_nodup (kQ W es.length) _ hSnd) f2).2 hmem
      have hacy := acy_of_sub hEK f2 f3 _ hSnd hSK
      have hlen := hperm.length_eq
      have hws : wsumN (wtN W) ((kQ W es.length).foldl (stepK es) (kle (kruL W es) e ++ [(e : Int)])) = wsumN (wtN W) (kruL W es) := (hperm.map (wtN W)).sum_nat
      have hok := l2.2 ⟨hacy, by rw [hlen]; exact hK⟩
      rw [hok, br_t, l3 hok, hws, ieq_t rfl, br_t]
      exact hnext
    · rw [if_neg hek, List.append_nil] at hsucc
      rw [hsucc] at hnext
      have hno : ¬ (ok = true ∧ sum = ((wsumN (wtN W) (kruL W es) : Nat) : Int)) := by
        rintro ⟨hok, hsum⟩
        obtain ⟨hacy, hFl⟩ := l2.1 hok
        have hFs := l3 hok
        rw [hsum] at hFs
        obtain ⟨t, ht, hts⟩ := stepK_sub (es := es) (kQ W es.length) (kle (kruL W es) e ++ [(e : Int)])
        refine hek (light_other (m := m) (wt := wtN W) (wtN_le W) (Q := kQ W es.length) (F := (kQ W es.length).foldl (stepK es) (kle (kruL W es) e ++ [(e : Int)])) kQ_bef (in_edges hg fun x hx => (mem_kQ hW).1 hx) (fun x hx => ?_) (stepK_nodup _ _ hSnd) (stepK_acy _ _ hacy) ?_ ?_ ?_ fun f hf hfe => ?_)
        · rw [ht] at hx
          rcases List.mem_append.1 hx with h | h
          · exact (mem_kQ hW).2 (hSin x h)
          · exact hts x h
        · show _ = (kruL W es).length
          omega
        · show _ = wsumN (wtN W) (kruL W es)
          omega
        · rw [ht]; exact List.mem_append_left _ (by simp)
        · rw [ht]
          refine List.mem_append_left _ (List.mem_append_left _ (mem_kle.2 ⟨⟨(f1 f hf).1, by omega⟩, hf⟩))
      cases hok : ok with
      | false => rw [br_f]; exact hnext
      | true =>
        rw [br_t, ieq_f (fun h => hno ⟨hok, h⟩), br_f]
        exact hnext
theorem weights_eq {N : Nat} {g : Int × List (Int × Int)} {W : List Int} (hx : g.2.length ≤ 1048576) (hw : W.length ≤ 1048576) (hN : 1048577 ≤ N) : spec_l7Weights N g W = some ((decide (goodG g ∧ 0 < g.1 ∧ okW W g.2.length), ()), ()) ∧ impl_isWeighted N g W = some ((decide (goodG g ∧ 0 < g.1 ∧ okW W g.2.length), ()), ()) := by
  obtain ⟨m, es⟩ := g
  simp only at hx
  have hin : ∀ w : Int, spec_l1In N w 0 99 = some ((decide (0 ≤ w ∧ w ≤ 99), ()), ()) := by
    intro w
    unfold spec_l1In
    by_cases h : 0 ≤ w
    · rw [ile_t h, br_t, ile_d]; simp [h]
    · rw [ile_f h, br_f]; simp [h]
  have hbt : ∀ w : Int, impl_between N w 0 99 = some ((decide (0 ≤ w ∧ w ≤ 99), ()), ()) := by
    intro w
    unfold impl_between
    by_cases h : 0 ≤ w
    · rw [ile_t h, br_t, ile_d]; simp [h]
    · rw [ile_f h, br_f]; simp [h]
  constructor
  · unfold spec_l7Weights
    have := loop_all_if (P := ∀ x ∈ W, 0 ≤ x ∧ x ≤ 99) (L := fun K i => spec_l7Weights_l0 N (fun x => some ((x, ()), ())) (fun weights1 o o1 => ((spec_l7Some N (o, o1)).bind fun r => (br r.1.1 (some (((ieq (tLen weights1) (tLen o1)), ()), ())) (some ((false, ()), ()))))) K W i m es) (fun i => 0 ≤ rdI W i ∧ rdI W i ≤ 99) all_rdI
      (kt := ((spec_l7Some N (m, es)).bind fun r => (br r.1.1 (some (((ieq (tLen W) (tLen es)), ()), ())) (some ((false, ()), ()))))) (kf := some ((false, ()), ())) (fun K n hn => ?_) (fun K n hn hp => ?_) (fun K n hn hp => ?_) (show W.length < N by omega)
    · simp only [Int.natCast_zero] at this
      rw [this]
      by_cases h1 : ∀ x ∈ W, 0 ≤ x ∧ x ≤ 99
      · rw [if_pos h1, l7Some_eq hx hN, bind_some', tLen_n, tLen_n]
        by_cases h2 : goodG (m, es) ∧ 0 < m
        · rw [decide_eq_true h2]
          simp only [br_t]
          congr 3
          by_cases h3 : W.length = es.length
          · rw [ieq_t (by omega), decide_eq_true ⟨h2.1, h2.2, h3, h1⟩]
          · rw [ieq_f (by omega), decide_eq_false (fun h => h3 h.2.2.1)]
        · rw [decide_eq_false h2]
          simp only [br_f]
          rw [decide_eq_false (fun h => h2 ⟨h.1, h.2.1⟩)]
      · rw [if_neg h1, decide_eq_false (fun h => h1 h.2.2.2)]
    · simp only [spec_l7Weights_l0, ilt_lenf hn, br_f]
    · simp only [spec_l7Weights_l0, ilt_len hn, br_t, inb_n hn, chk_t]
      rw [hin, bind_some', decide_eq_true hp]
      simp only [Bool.not_true, br_f]
      rw [wrap_succ (by omega)]
    · simp only [spec_l7Weights_l0, ilt_len hn, br_t, inb_n hn, chk_t]
      rw [hin, bind_some', decide_eq_false hp]
      simp only [Bool.not_false, br_t]
  · unfold impl_isWeighted
    simp only []
    rw [IsGraph_eq hx hN, bind_some']
    by_cases h1 : goodG (m, es)
    · rw [decide_eq_true h1]
      simp only [br_t]
      by_cases h2 : 0 < m
      · rw [ilt_t h2, br_t, tLen_n, tLen_n]
        by_cases h3 : W.length = es.length
        · rw [ieq_t (by omega), br_t, ContainsFunc_LI_int_eq (g := fun w => !decide (0 ≤ w ∧ w ≤ 99)) (fun x _ => by unfold impl_isWeighted_c1; rw [hbt]; rfl) (by omega) (by omega), bind_some']
          congr 3
          rw [not_any]
          by_cases h4 : ∀ x ∈ W, 0 ≤ x ∧ x ≤ 99
          · rw [decide_eq_true (show goodG (m, es) ∧ 0 < m ∧ okW W es.length from ⟨h1, h2, h3, h4⟩)]
            refine decide_eq_true fun x hx' => ?_
            rw [decide_eq_true (h4 x hx')]; rfl
          · rw [decide_eq_false (fun h : goodG (m, es) ∧ 0 < m ∧ okW W es.length => h4 h.2.2.2)]
            refine decide_eq_false fun h => h4 fun x hx' => ?_
            have := h x hx'
            simpa using this
        · rw [ieq_f (by omega), br_f, decide_eq_false (fun h => h3 h.2.2.1)]
      · rw [ilt_f h2, br_f, decide_eq_false (fun h => h2 h.2.1)]
    · rw [decide_eq_false h1]
      simp only [br_f]
      rw [decide_eq_false (fun h => h1 h.1)]
theorem sorted_kle {W : List Int} {es : List (Int × Int)} (hW : okW W es.length) : (kruL W es).foldl (fun p z => putI z p) [] = kle (kruL W es) es.length := by
  obtain ⟨f1, f2, f3⟩ := kru_facts hW
  refine strict_ext ?_ (kle_strict _ _) fun x => ?_
  · have go : ∀ (xs o : List Int), strict o → strict (xs.foldl (fun p z => putI z p) o) := by
      intro xs
      induction xs with
      | nil => intro o h; exact h
      | cons x xs ih => intro o h; exact ih _ (putI_strict h)
    exact go _ _ List.Pairwise.nil
  · rw [fold_put_mem, mem_kle]
    constructor
    · rintro (h | h)
      · simp at h
      · exact ⟨f1 x h, h⟩
    · exact fun h => .inr h.2
theorem LightTree_both {N : Nat} {g : Int × List (Int × Int)} {W : List Int} (hx : g.2.length ≤ 1048576) (hw : W.length ≤ 1048576) (hN : 1048577 ≤ N) : (lightV g W).1.length ≤ 1048576 ∧ spec_LightTree N g W = some (((lightV g W).1, (lightV g W).2, ()), ()) ∧ impl_LightTree N g W = some (((lightV g W).1, (lightV g W).2, ()), ()) := by
  obtain ⟨e1, e2⟩ := weights_eq hx hw hN
  unfold spec_LightTree impl_LightTree lightV
  rw [e1, e2, bind_some', bind_some']
  by_cases h : goodG g ∧ 0 < g.1 ∧ okW W g.2.length
  · obtain ⟨m', es⟩ := g
    simp only at hx h
    obtain ⟨m, rfl⟩ : ∃ m : Nat, m' = m := ⟨m'.toNat, by omega⟩
    obtain ⟨hg, hm0, hW⟩ := h
    have hm : 1 ≤ m := by omega
    have hn := codes hg
    obtain ⟨f1, f2, f3⟩ := kru_facts hW
    rw [decide_eq_true (show goodG ((m : Int), es) ∧ 0 < (m : Int) ∧ okW W es.length from ⟨hg, hm0, hW⟩)]
    simp only [Bool.not_true, br_f, Int.toNat_natCast]
    obtain ⟨sum, ok, l1, l2, l3⟩ := lightest_eq (N := N) (S := []) hm hg hW (by simp) (by simp) hN
    rw [spec_light_eq hg hW hN, l1, bind_some', bind_some', sorted_kle hW]
    simp only []
    have hkl := kle_len (kruL W es) es.length
    have hklm : (kle (kruL W es) es.length).length = (kruL W es).length := by
      refine ((List.perm_ext_iff_of_nodup (strict_nodup (kle_strict _ _)) f2).2 fun x => ?_).length_eq
      rw [mem_kle]
      exact ⟨fun h => h.2, fun h => ⟨f1 x h, h⟩⟩
    rw [l7Tree_eq hm hg hx (by omega) hN, bind_some']
    have hEK := in_edges hg f1
    have hEk : EdgesIn m (treeE es (kle (kruL W es) es.length)) := in_edges hg fun x hx => (mem_kle.1 hx).1
    have hacy := acy_of_sub hEK f2 f3 _ (strict_nodup (kle_strict (kruL W es) es.length)) fun x hx => (mem_kle.1 hx).2
    have htree : treeP m es (kle (kruL W es) es.length) ↔ (kruL W es).length + 1 = m := by
      constructor
      · intro h; have := h.1; omega
      · intro h
        refine ⟨by omega, ?_, (tree_iff hm hEk (by simp [treeE]; omega)).1 hacy⟩
        intro i hi
        have hst := kle_strict (kruL W es) es.length
        have hmem := (mem_kle.1 (List.getElem_mem hi)).1
        refine ⟨?_, fun h0 => ?_⟩
        · rw [rdI_n hi]; exact ⟨hmem.1, by have := hmem.2; omega⟩
        · have := List.pairwise_iff_getElem.1 hst (i - 1) i (by omega) hi (by omega)
          rw [rdI_n hi, rdI_n (show i - 1 < _ by omega)]
          exact this
    have hkr : (kQ W es.length).foldl (stepK es) [] = kruL W es := rfl
    rw [hkr] at l2 l3
    by_cases hK : (kruL W es).length + 1 = m
    · have hok := l2.2 ⟨.nil, hK⟩
      rw [decide_eq_true (htree.2 hK), if_pos ⟨hg, hm0, hW, hK⟩, hok]
      simp only [Bool.not_true, br_f]
      refine ⟨by omega, trivial, ?_⟩
      rw [l3 hok, tLen_n]
      have := impl_light_loop (N := N) hm hg hW hK hN es.length 0 N (by omega) (by omega)
      exact this
    · have hok : ok = false := by
        cases hq : ok with
        | false => rfl
        | true => exact absurd (l2.1 hq).2 hK
      rw [decide_eq_false (fun h => hK (htree.1 h)), if_neg (fun h => hK h.2.2.2), hok]
      simp only [Bool.not_false, br_t]
      exact ⟨Nat.zero_le _, trivial, trivial⟩
  · rw [decide_eq_false h, if_neg (fun h' => h ⟨h'.1, h'.2.1, h'.2.2.1⟩)]
    exact ⟨Nat.zero_le _, rfl, rfl⟩
theorem LightTree_pure {g : Int × List (Int × Int)} {cs : List Int} (hx : g.2.length ≤ 9223372036854775807) : laws_FnExactLightTree 1048577 g cs = some ((true, ()), ()) := by
  unfold laws_FnExactLightTree
  have hN : 1048577 ≤ 1048577 := Nat.le_refl _
  rw [tLen_n]
  by_cases hb : cs.length ≤ 1048576
  · rw [ilt_f (by omega), br_f]
    obtain ⟨r, h1, h2⟩ := szGraph_eq (N := 1048577) hx
    simp only [h1, bind_some']
    by_cases h : 0 ≤ r
    · rw [ilt_f (by omega), br_f]
      have h3 := h2 h
      obtain ⟨hr, e1, e2⟩ := LightTree_both (N := 1048577) h3 hb hN
      have k0 : (0 : Int) ≤ 1 ∧ (1 : Int) ≤ 1152921504606846976 := by omega
      have k1 : (0 : Int) ≤ 1 ∧ (1 : Int) ≤ 2305843009213693952 := by omega
      obtain ⟨g', hmk⟩ := markGraph_eq (N := 1048577) k0 h3 hN
      have k2 : (0 : Int) ≤ 1 + 2 * (g.2.length : Int) ∧ 1 + 2 * (g.2.length : Int) ≤ 2305843009213693952 := by omega
      simp only [toGraph_eq h3 hN, toIntS_eq hb hN, bind_some', e1, e2, eqGraph_eq h3 hN, eqIntS_eq (show cs.length ≤ 1099511627776 by omega) (show cs.length < 1048577 by omega), eqIntS_eq (show (lightV g cs).1.length ≤ 1099511627776 by omega) (show (lightV g cs).1.length < 1048577 by omega), decide_true, Bool.not_true, br_f, hmk, markIntS_eq k2 hb hN, ilt_f (show ¬ 1 + 2 * (g.2.length : Int) + (cs.length : Int) < 0 by omega), markIntS_eq k1 (show (lightV g cs).1.length ≤ 1048576 by omega) hN, heldIntS_eq k1 (show (lightV g cs).1.length ≤ 1048576 by omega) hN, ilt_f (show ¬ 1 + ((lightV g cs).1.length : Int) < 0 by omega), ine_f (rfl : 1 + ((lightV g cs).1.length : Int) = 1 + ((lightV g cs).1.length : Int))]
      simp [br_ite]
    · rw [ilt_t (by omega), br_t]
  · rw [ilt_t (by omega), br_t]
theorem LightTree_pureT : ∀ x : argsT (psOf [QILQII, LI]), WfA [QILQII, LI] x → ∃ k m, (laws_FnExactLightTree_S k).f x = some ((true, ()), m) :=
  fun x h => ⟨1048577, (), LightTree_pure (len_ok h.1.2.1)⟩
end Go.Proofs.Ythkejedgfhjdiaa
