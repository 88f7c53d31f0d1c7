/- Statements on data alone. -/
import Derived.Test.YthkejedgfhjdiaaPvPure
import Derived.Test.YthkejedgfhjdiaaIsTreeGa
set_option linter.all false
set_option linter.all false
namespace Go.Proofs.Ythkejedgfhjdiaa
open Go Go.PV Classical
theorem newJoiner_eq {N n : Nat} (hn : n ≤ 1048576) (hN : 1048577 ≤ N) : ∃ j, impl_newJoiner N (n : Int) = some ((j, ()), ()) ∧ UF n [] j 0 (fun x => x) := by
  have go : ∀ (d i K : Nat), i + d = n → d < K → impl_newJoiner_l0 N (fun o => some ((o, ()), ())) K (n : Int) (i : Int) ((List.range i).map fun i : Nat => (i : Int)) = some (((List.range n).map (fun i : Nat => (i : Int)), ()), ()) := by
    intro d
    induction d with
    | zero =>
      intro i K hd hK
      obtain ⟨k, rfl⟩ := succ_of hK
      have : i = n := by omega
      subst this
      simp only [impl_newJoiner_l0, ilt_nf (Nat.lt_irrefl i), br_f]
    | succ d ih =>
      intro i K hd hK
      obtain ⟨k, rfl⟩ := succ_of hK
      simp only [impl_newJoiner_l0, ilt_n (show i < n by omega), br_t]
      rw [room_ok (by simp; omega), chk_t, wrap_succ (by omega), tApp_d, ← ih (i + 1) k (by omega) (by omega), List.range_succ, List.map_append]
      rfl
  have hlen : ((List.range n).map fun i : Nat => (i : Int)).length = n := by simp
  have hrd : ∀ x, InN n x → rdI ((List.range n).map fun i : Nat => (i : Int)) x = x := by
    intro x hx
    obtain ⟨i, hi, rfl⟩ := nat_of hx
    rw [rdI_n (by rw [hlen]; exact hi)]
    simp
  refine ⟨_, go n 0 N (by omega) (by omega), rep_nil n, hlen, hrd, fun x _ => rfl⟩
def treeE (es : List (Int × Int)) (L : List Int) : List (Int × Int) := L.map fun i => rdP es i
theorem l7Part_eq {N : Nat} {m : Int} {es : List (Int × Int)} {L : List Int} (hL : ∀ i ∈ L, 0 ≤ i ∧ i < (es.length : Int)) (hl : L.length ≤ 1048576) (hN : 1048577 ≤ N) : spec_l7Part N (m, es) L = some (((m, treeE es L), ()), ()) := by
  unfold spec_l7Part
  refine ((loop_list (xs := L) (L := fun K i o => spec_l7Part_l0 N (fun o o1 o2 => some (((o1, o2), ()), ())) K L i m es 0 m o) (k := fun o => some (((m, o), ()), ())) (fun o i => o ++ [rdP es i]) (fun n s => s.length = n) (fun K n s hn _ => ?_) (fun K n s hn hs => ?_) (fun n s hn hs => ?_) (s := []) (K := N) (by omega) rfl).1).trans ?_
  · simp only [spec_l7Part_l0, ilt_lenf hn, br_f]
  · have := hL _ (List.getElem_mem hn)
    simp only [spec_l7Part_l0, ilt_len hn, br_t, inb_n hn, chk_t, rdI_n hn, inb_i this.1 this.2]
    rw [room_ok (by simp; omega), chk_t, wrap_succ (by omega), tApp_d]
  · simp [hs]
  · have go : ∀ (L : List Int) (o : List (Int × Int)), L.foldl (fun o i => o ++ [rdP es i]) o = o ++ treeE es L := by
      intro L
      induction L with
      | nil => intro o; simp [treeE]
      | cons i L ih => intro o; rw [List.foldl_cons, ih]; simp [treeE]
    rw [go]
    rfl
theorem bitsTab : ((List.range 9).all fun n => (List.range n).all fun x => ieq (bitop .and .i64 (shrI .i64 (IntKind.i64.wrap ((shlI .i64 1 (n : Int)) - 1)) (x : Int)) 1) 1) = true := by kernel_rfl
noncomputable def allN (m : Nat) : List Int := (List.range' 0 m).map fun i : Nat => (i : Int)
theorem mem_allN {m : Nat} {x : Int} : x ∈ allN m ↔ InN m x := by
  unfold allN
  rw [List.mem_map]
  constructor
  · rintro ⟨i, hi, rfl⟩
    have := List.mem_range'_1.1 hi
    exact in_nat (by omega)
  · intro h
    obtain ⟨i, hi, rfl⟩ := nat_of h
    exact ⟨i, List.mem_range'_1.2 (by omega), rfl⟩
theorem allN_len (m : Nat) : (allN m).length = m := by simp [allN]
theorem l2Bits_all {N : Nat} {m : Nat} (hm : m ≤ 8) (hN : 1048577 ≤ N) : spec_l2Bits N (m : Int) (IntKind.i64.wrap ((shlI .i64 1 (m : Int)) - 1)) = some ((allN m, ()), ()) := by
  unfold spec_l2Bits
  have tab : ∀ x, x < m → ieq (bitop .and .i64 (shrI .i64 (IntKind.i64.wrap ((shlI .i64 1 (m : Int)) - 1)) (x : Int)) 1) 1 = true := fun x hx =>
    List.all_eq_true.1 (List.all_eq_true.1 bitsTab m (List.mem_range.2 (by omega))) x (List.mem_range.2 hx)
  generalize IntKind.i64.wrap ((shlI .i64 1 (m : Int)) - 1) = c at tab ⊢
  refine (loop_iter (L := fun K n o => spec_l2Bits_l0 N (fun o => some ((o, ()), ())) K (m : Int) c n o) (k := fun o => some ((o, ()), ())) (Inv := fun n o => o.length = n) (step := fun n o => if True then o ++ [(n : Int)] else o) (fun K n s hn _ => ?_) (fun K n s hn hs => ?_) (fun n s hn h => ?_) (s := []) (m := m) (K := N) (by omega) rfl).trans ?_
  · simp only [spec_l2Bits_l0, ilt_nf hn, br_f]
  · simp only [spec_l2Bits_l0, ilt_n hn, br_t]
    rw [ile_t (by omega), chk_t, tab n hn, br_t, room_ok (by simp; omega), chk_t, wrap_succ (by omega), tApp_d, if_pos trivial]
  · rw [if_pos trivial]; simp [h]
  · rw [iter_app, List.nil_append]
    rw [List.filter_eq_self.2 (by simp)]
    rfl
/-- The parts of a graph, one behind the other. -/
noncomputable def pieceF (es : List (Int × Int)) (set : List Int) (st : List (List Int) × List Int) (x : Int) : List (List Int) × List Int :=
  if x ∈ st.2 then st else (st.1 ++ [reachS es set x], (reachS es set x).foldl (fun p z => putI z p) st.2)
theorem fold_put_mem {z : Int} : ∀ (xs p : List Int), z ∈ xs.foldl (fun p x => putI x p) p ↔ z ∈ p ∨ z ∈ xs := by
  intro xs
  induction xs with
  | nil => intro p; simp
  | cons x xs ih =>
    intro p
    rw [List.foldl_cons, ih, putI_mem, List.mem_cons]
    constructor
    · rintro ((h | h) | h)
      · exact .inr (.inl h)
      · exact .inl h
      · exact .inr (.inr h)
    · rintro (h | h | h)
      · exact .inl (.inr h)
      · exact .inl (.inl h)
      · exact .inr h
theorem putI_inM {m : Nat} {o : List Int} {x : Int} (h : strict o ∧ ∀ z ∈ o, InN m z) (hx : InN m x) : strict (putI x o) ∧ ∀ z ∈ putI x o, InN m z := by
  refine ⟨putI_strict h.1, fun z hz => ?_⟩
  rcases (putI_mem x z o).1 hz with rfl | hz
  · exact hx
  · exact h.2 z hz
theorem inN_len {m : Nat} {o : List Int} (h : strict o ∧ ∀ z ∈ o, InN m z) : o.length ≤ m := by
  have := nodup_le (strict_nodup h.1) (b := allN m) fun z hz => mem_allN.2 (h.2 z hz)
  rwa [allN_len] at this
theorem l2Pieces_eq {N : Nat} {m : Nat} {es : List (Int × Int)} (hm : m ≤ 8) (hx : es.length ≤ 1048576) (hN : 1048577 ≤ N) : spec_l2Pieces N ((m : Int), es) (allN m) = some ((((allN m).foldl (pieceF es (allN m)) ([], [])).1, ()), ()) := by
  unfold spec_l2Pieces
  have hlen := allN_len m
  have hin : ∀ x ∈ allN m, (∀ z ∈ reachS es (allN m) x, InN m z) ∧ (reachS es (allN m) x).length ≤ m := by
    intro x hx
    obtain ⟨h1, h2⟩ := reachS_spec (es := es) hx
    have h3 : ∀ z ∈ reachS es (allN m) x, InN m z := fun z hz => mem_allN.1 (Rch_in hx ((h2 z).1 hz))
    exact ⟨h3, inN_len ⟨h1, h3⟩⟩
  have hfold : ∀ (xs o : List Int), (∀ z ∈ xs, InN m z) → (strict o ∧ ∀ z ∈ o, InN m z) → strict (xs.foldl (fun p z => putI z p) o) ∧ ∀ z ∈ xs.foldl (fun p z => putI z p) o, InN m z := by
    intro xs
    induction xs with
    | nil => intro o _ h; exact h
    | cons x xs ih => intro o hz h; exact ih _ (fun z h' => hz z (List.mem_cons_of_mem _ h')) (putI_inM h (hz x (List.mem_cons_self ..)))
  refine (loop_list (xs := allN m) (L := fun K i (st : List (List Int) × List Int) => spec_l2Pieces_l0 N (fun o => some ((o, ()), ())) K (allN m) i (m : Int) es st.1 st.2) (k := fun st => some ((st.1, ()), ())) (pieceF es (allN m)) (fun n st => st.1.length ≤ n ∧ strict st.2 ∧ ∀ z ∈ st.2, InN m z) (fun K n s hn _ => ?_) (fun K n s hn hs => ?_) (fun n s hn hs => ?_) (s := ([], [])) (K := N) (by omega) ⟨Nat.le_refl _, List.Pairwise.nil, by simp⟩).1
  · simp only [spec_l2Pieces_l0, ilt_lenf hn, br_f]
  · have hl := inN_len hs.2
    have hmem := List.getElem_mem hn
    obtain ⟨hr1, hr2⟩ := hin _ hmem
    simp only [spec_l2Pieces_l0, ilt_len hn, br_t, inb_n hn, chk_t, rdI_n hn, l1Has_eq (show s.2.length ≤ 1048576 by omega) hN, bind_some']
    unfold pieceF
    by_cases hc : (allN m)[n] ∈ s.2
    · rw [if_pos hc, decide_eq_true hc, br_t, wrap_succ (by omega)]
    · rw [if_neg hc, decide_eq_false hc, br_f, l2Reach_eq hx (by omega) hmem hN]
      simp only [bind_some']
      have key := (loop_list (xs := reachS es (allN m) (allN m)[n]) (L := fun K' i o => spec_l2Pieces_l0_0 N (fun setv2 i1 o4 o5 o6 o7 o8 => (chk (room o6 [o8]) (spec_l2Pieces_l0 N (fun o => some ((o, ()), ())) K setv2 (IntKind.i64.wrap (i1 + 1)) o4 o5 (tApp o6 [o8]) o7))) K' (allN m) n i (m : Int) es s.1 o (reachS es (allN m) (allN m)[n]))
        (k := fun o => (chk (room s.1 [reachS es (allN m) (allN m)[n]]) (spec_l2Pieces_l0 N (fun o => some ((o, ()), ())) K (allN m) (IntKind.i64.wrap ((n : Int) + 1)) (m : Int) es (tApp s.1 [reachS es (allN m) (allN m)[n]]) o))) (fun p z => putI z p) (fun _ o => strict o ∧ ∀ z ∈ o, InN m z) (fun K' i o hi _ => ?_) (fun K' i o hi ho => ?_) (fun i o hi ho => putI_inM ho (hr1 _ (List.getElem_mem hi))) (s := s.2) (K := N) (by omega) hs.2).1
      · simp only [Int.natCast_zero] at key
        rw [key, room_ok (by simp; omega), chk_t, wrap_succ (by omega), tApp_d]
      · simp only [spec_l2Pieces_l0_0, ilt_lenf hi, br_f]
      · have := inN_len ho
        simp only [spec_l2Pieces_l0_0, ilt_len hi, br_t, inb_n hi, chk_t, rdI_n hi, l1Put_eq (show o.length ≤ 1048576 by omega) hN, bind_some']
        rw [wrap_succ (by omega)]
  · have hmem := List.getElem_mem hn
    obtain ⟨hr1, hr2⟩ := hin _ hmem
    unfold pieceF
    by_cases hc : (allN m)[n] ∈ s.2
    · rw [if_pos hc]
      exact ⟨by omega, hs.2⟩
    · rw [if_neg hc]
      exact ⟨by simp; omega, hfold _ _ hr1 hs.2⟩
theorem piece_len {es : List (Int × Int)} {set : List Int} : ∀ (xs : List Int) (st : List (List Int) × List Int), st.1.length ≤ (xs.foldl (pieceF es set) st).1.length ∧ ((xs.foldl (pieceF es set) st).1.length = st.1.length ↔ ∀ x ∈ xs, x ∈ st.2) := by
  intro xs
  induction xs with
  | nil => intro st; simp
  | cons x xs ih =>
    intro st
    rw [List.foldl_cons]
    by_cases hc : x ∈ st.2
    · have : pieceF es set st x = st := by unfold pieceF; rw [if_pos hc]
      rw [this]
      obtain ⟨h1, h2⟩ := ih st
      refine ⟨h1, h2.trans ⟨fun h y hy => ?_, fun h y hy => h y (List.mem_cons_of_mem _ hy)⟩⟩
      rcases List.mem_cons.1 hy with rfl | hy
      · exact hc
      · exact h y hy
    · obtain ⟨h1, h2⟩ := ih (pieceF es set st x)
      have : (pieceF es set st x).1.length = st.1.length + 1 := by unfold pieceF; rw [if_neg hc]; simp
      refine ⟨by omega, fun h => by omega, fun h => absurd (h x (List.mem_cons_self ..)) hc⟩
theorem reach_cn {m : Nat} {es : List (Int × Int)} (he : EdgesIn m es) {x z : Int} (hx : InN m x) : z ∈ reachS es (allN m) x ↔ Cn es x z := by
  rw [(reachS_spec (mem_allN.2 hx)).2 z]
  refine ⟨Rch_congr (fun _ _ _ _ => trivial), Rch_congr (fun y z hn _ => mem_allN.2 ?_)⟩
  rcases hn with hn | hn
  · exact (he _ hn).2
  · exact (he _ hn).1
theorem pieces_one {m : Nat} {es : List (Int × Int)} (hm : 1 ≤ m) (he : EdgesIn m es) : ((allN m).foldl (pieceF es (allN m)) ([], [])).1.length = 1 ↔ ∀ x, InN m x → Cn es 0 x := by
  obtain ⟨k, rfl⟩ : ∃ k, m = k + 1 := ⟨m - 1, by omega⟩
  have h0 : InN (k + 1) 0 := ⟨by omega, by omega⟩
  have e : allN (k + 1) = 0 :: (List.range' 1 k).map (fun i : Nat => (i : Int)) := by
    unfold allN
    rw [List.range'_succ]
    rfl
  have e2 : pieceF es (allN (k + 1)) ([], []) 0 = ([reachS es (allN (k + 1)) 0], (reachS es (allN (k + 1)) 0).foldl (fun p z => putI z p) []) := by
    unfold pieceF
    rw [if_neg (by simp)]
    rfl
  have : (allN (k + 1)).foldl (pieceF es (allN (k + 1))) ([], []) = ((List.range' 1 k).map (fun i : Nat => (i : Int))).foldl (pieceF es (allN (k + 1))) (pieceF es (allN (k + 1)) ([], []) 0) := by
    conv => lhs; arg 3; rw [e]
    rfl
  rw [this, e2]
  have := (piece_len (es := es) (set := allN (k + 1)) ((List.range' 1 k).map (fun i : Nat => (i : Int))) ([reachS es (allN (k + 1)) 0], (reachS es (allN (k + 1)) 0).foldl (fun p z => putI z p) [])).2
  refine Iff.trans this ⟨fun h x hx => ?_, fun h x hx => ?_⟩
  · have hx' := mem_allN.2 hx
    rw [e] at hx'
    rcases List.mem_cons.1 hx' with rfl | hx'
    · exact Cn_refl
    · rcases (fold_put_mem _ _).1 (h x hx') with h' | h'
      · exact absurd h' (by simp)
      · exact (reach_cn he h0).1 h'
  · refine (fold_put_mem _ _).2 (.inr ((reach_cn he h0).2 (h x (mem_allN.1 ?_))))
    rw [e]
    exact List.mem_cons_of_mem _ hx
theorem treeE_in {m : Nat} {es : List (Int × Int)} (hg : goodG ((m : Int), es)) {L : List Int} (hL : ∀ i ∈ L, 0 ≤ i ∧ i < (es.length : Int)) : EdgesIn m (treeE es L) := by
  intro e he
  obtain ⟨i, hi, rfl⟩ := List.mem_map.1 he
  obtain ⟨h1, h2⟩ := hL i hi
  have := (hg.2 i.toNat (by show i.toNat < es.length; omega)).1
  rw [show ((i.toNat : Nat) : Int) = i by omega] at this
  simp only at this
  exact ⟨⟨this.1, by omega⟩, ⟨by omega, this.2.2⟩⟩
/-- A list is a tree. -/
def treeP (m : Nat) (es : List (Int × Int)) (L : List Int) : Prop := L.length + 1 = m ∧ rising 0 ((es.length : Int) - 1) L ∧ ∀ x, InN m x → Cn (treeE es L) 0 x
theorem l7Tree_eq {N : Nat} {m : Nat} {es : List (Int × Int)} {L : List Int} (hm : 1 ≤ m) (hg : goodG ((m : Int), es)) (hx : es.length ≤ 1048576) (hl : L.length ≤ 1048576) (hN : 1048577 ≤ N) : spec_l7Tree N ((m : Int), es) L = some ((decide (treeP m es L), ()), ()) := by
  have hm8 : m ≤ 8 := by have := hg.1.2; simp only at this; omega
  unfold spec_l7Tree
  simp only [tLen_n]
  rw [wrap_ok (by omega) (by omega), wrap_ok (by omega) (by omega)]
  by_cases h1 : L.length + 1 = m
  · rw [ine_f (by omega), br_f, l1Rising_eq hl hN, bind_some']
    by_cases h2 : rising 0 ((es.length : Int) - 1) L
    · have hL : ∀ i ∈ L, 0 ≤ i ∧ i < (es.length : Int) := fun i hi => by have := rising_in h2 i hi; omega
      have hte := treeE_in hg hL
      rw [decide_eq_true h2]
      simp only [Bool.not_true, br_f]
      rw [l7Part_eq hL (by omega) hN, bind_some', ile_t (by omega), chk_t, l2Bits_all hm8 hN, bind_some']
      simp only []
      rw [l2Pieces_eq hm8 (by simp [treeE]; omega) hN, bind_some']
      congr 3
      by_cases h3 : ∀ x, InN m x → Cn (treeE es L) 0 x
      · rw [decide_eq_true (show treeP m es L from ⟨h1, h2, h3⟩)]
        exact ieq_t (by show (_ : Int) = 1; have := (pieces_one hm hte).2 h3; simp only [tLen_n]; omega)
      · rw [decide_eq_false (fun h : treeP m es L => h3 h.2.2)]
        exact ieq_f (fun h => h3 ((pieces_one hm hte).1 (by simp only [tLen_n] at h; omega)))
    · rw [decide_eq_false h2]
      simp only [Bool.not_false, br_t]
      rw [decide_eq_false (fun h : treeP m es L => h2 h.2.1)]
  · rw [ine_t (by omega), br_t, decide_eq_false (fun h : treeP m es L => h1 h.1)]
theorem l7Some_eq {N : Nat} {g : Int × List (Int × Int)} (hx : g.2.length ≤ 1048576) (hN : 1048577 ≤ N) : spec_l7Some N g = some ((decide (goodG g ∧ 0 < g.1), ()), ()) := by
  unfold spec_l7Some
  rw [l2Good_eq hx hN]
  simp only [bind_some']
  by_cases h : goodG g
  · rw [decide_eq_true h, br_t, ilt_d]
    simp [h]
  · rw [decide_eq_false h, br_f]
    simp [h]
theorem is_l0_eq {N : Nat} {m : Nat} {es : List (Int × Int)} {L : List Int} (hg : goodG ((m : Int), es)) (hL : ∀ i ∈ L, 0 ≤ i ∧ i < (es.length : Int)) (hl : L.length ≤ 1048576) (hN : 1048577 ≤ N) :
    ∀ (d n K : Nat) (j : List Int) (ρ : Int → Int), n + d = L.length → d < K → UF m (treeE es (L.take n)) j n ρ → Acy (treeE es (L.take n)) →
      ∃ (r : Int) (j' : List Int), (0 ≤ r ↔ ¬ Acy (treeE es L)) ∧ slices_IndexFunc_LI_int_kimpl_Graph_isTree_c1_l0 N (fun f1 x o => some ((x, ()), ((o, f1), ()))) (fun f2 o1 => some (((-1), ()), ((o1, f2), ()))) K L ((m : Int), es) (L.length : Int) n j = some ((r, ()), ((j', ((m : Int), es)), ())) := by
  intro d
  induction d with
  | zero =>
    intro n K j ρ hd hK hu ha
    obtain ⟨k, rfl⟩ := succ_of hK
    simp only [slices_IndexFunc_LI_int_kimpl_Graph_isTree_c1_l0, ilt_nf (show ¬ n < L.length by omega), br_f]
    rw [List.take_of_length_le (by omega)] at ha
    exact ⟨-1, j, ⟨fun h => by omega, fun h => absurd ha h⟩, rfl⟩
  | succ d ih =>
    intro n K j ρ hd hK hu ha
    obtain ⟨k, rfl⟩ := succ_of hK
    have hn : n < L.length := by omega
    have hi := hL _ (List.getElem_mem hn)
    have hte := treeE_in hg hL
    have he : InN m (rdP es L[n]).1 ∧ InN m (rdP es L[n]).2 := hte _ (List.mem_map.2 ⟨_, List.getElem_mem hn, rfl⟩)
    obtain ⟨j', h1, h2⟩ := join_eq hu (show n < N by omega) he.1 he.2
    have hsn : treeE es (L.take (n + 1)) = treeE es (L.take n) ++ [rdP es L[n]] := by
      unfold treeE
      rw [List.take_add_one, List.getElem?_eq_getElem hn, List.map_append]
      rfl
    simp only [slices_IndexFunc_LI_int_kimpl_Graph_isTree_c1_l0, ilt_n hn, br_t, inb_n hn, chk_t, impl_Graph_isTree_c1, rdI_n hn, inb_i hi.1 hi.2, h1, bind_some']
    by_cases hc : Cn (treeE es (L.take n)) (rdP es L[n]).1 (rdP es L[n]).2
    · rw [decide_eq_false (fun h => h hc)]
      simp only [Bool.not_false, br_t]
      refine ⟨n, j', ⟨fun _ hacy => ?_, fun _ => by omega⟩, rfl⟩
      have pre : ∀ (a b : List (Int × Int)), Acy (a ++ b) → Acy a := by
        intro a b
        have : ∀ (k : Nat) (b : List (Int × Int)), b.length = k → Acy (a ++ b) → Acy a := by
          intro k
          induction k with
          | zero => intro b hb h; rw [List.length_eq_zero_iff.1 hb, List.append_nil] at h; exact h
          | succ k ih =>
            intro b hb h
            rcases List.eq_nil_or_concat b with rfl | ⟨b', x, rfl⟩
            · simp at hb
            · rw [List.concat_eq_append, ← List.append_assoc] at h
              exact ih b' (by simpa using hb) (acy_snoc.1 h).1
        exact this b.length b rfl
      have hsplit : treeE es L = treeE es (L.take (n + 1)) ++ treeE es (L.drop (n + 1)) := by
        unfold treeE
        rw [← List.map_append, List.take_append_drop]
      rw [hsplit] at hacy
      have := pre _ _ hacy
      rw [hsn] at this
      exact (acy_snoc.1 this).2 hc
    · rw [decide_eq_true hc]
      simp only [Bool.not_true, br_f]
      rw [wrap_succ (by omega)]
      rw [← hsn] at h2
      exact ih (n + 1) k j' _ (by omega) (by omega) h2 (by rw [hsn]; exact .snoc ha hc)
theorem impl_isTree_eq {N : Nat} {m : Nat} {es : List (Int × Int)} {L : List Int} (hm : 1 ≤ m) (hg : goodG ((m : Int), es)) (hx : es.length ≤ 1048576) (hl : L.length ≤ 1048576) (hN : 1048577 ≤ N) : impl_Graph_isTree N ((m : Int), es) L = some ((decide (treeP m es L), ()), ()) := by
  have hm8 : m ≤ 8 := by have := hg.1.2; simp only at this; omega
  unfold impl_Graph_isTree
  simp only [tLen_n]
  rw [wrap_ok (by omega) (by omega)]
  by_cases h1 : L.length + 1 = m
  · rw [ine_f (by omega), br_f, isRising_eq hl (by omega) hN, bind_some']
    by_cases h2 : rising 0 ((es.length : Int) - 1) L
    · have hL : ∀ i ∈ L, 0 ≤ i ∧ i < (es.length : Int) := fun i hi => by have := rising_in h2 i hi; omega
      have hte := treeE_in hg hL
      rw [decide_eq_true h2]
      simp only [Bool.not_true, br_f]
      obtain ⟨j, hj, hu⟩ := newJoiner_eq (N := N) (n := m) (by omega) hN
      rw [hj, bind_some']
      obtain ⟨r, j', hr, hl0⟩ := is_l0_eq (N := N) hg hL hl hN L.length 0 N j _ (by omega) (by omega) hu .nil
      simp only [Int.natCast_zero] at hl0
      unfold slices_ContainsFunc_LI_int_kimpl_Graph_isTree_c1 slices_IndexFunc_LI_int_kimpl_Graph_isTree_c1
      simp only [tLen_n]
      rw [hl0]
      simp only [bind_some']
      congr 3
      have ht := tree_iff hm hte (by simp [treeE]; exact h1)
      by_cases h3 : Acy (treeE es L)
      · rw [decide_eq_true (show treeP m es L from ⟨h1, h2, ht.1 h3⟩), ile_f (fun h => hr.1 h h3)]
        rfl
      · rw [decide_eq_false (fun h : treeP m es L => h3 (ht.2 h.2.2)), ile_t (hr.2 h3)]
        rfl
    · rw [decide_eq_false h2]
      simp only [Bool.not_false, br_t]
      rw [decide_eq_false (fun h : treeP m es L => h2 h.2.1)]
  · rw [ine_t (by omega), br_t, decide_eq_false (fun h : treeP m es L => h1 h.1)]
noncomputable def isTreeV (g : Int × List (Int × Int)) (L : List Int) : Bool × Bool := if goodG g ∧ 0 < g.1 then (decide (treeP g.1.toNat g.2 L), true) else (false, false)
theorem spec_IsTree_eq {N : Nat} {g : Int × List (Int × Int)} {L : List Int} (hx : g.2.length ≤ 1048576) (hl : L.length ≤ 1048576) (hN : 1048577 ≤ N) : spec_IsTree N g L = some (((isTreeV g L).1, (isTreeV g L).2, ()), ()) := by
  obtain ⟨m', es⟩ := g
  unfold spec_IsTree isTreeV
  rw [l7Some_eq hx hN, bind_some']
  by_cases h : goodG (m', es) ∧ 0 < m'
  · obtain ⟨m, rfl⟩ : ∃ m : Nat, m' = m := ⟨m'.toNat, by omega⟩
    rw [if_pos h, decide_eq_true h]
    simp only [Bool.not_true, br_f]
    rw [l7Tree_eq (by omega) h.1 hx hl hN]
    rfl
  · rw [if_neg h, decide_eq_false h]
    rfl
theorem impl_IsTree_eq {N : Nat} {g : Int × List (Int × Int)} {L : List Int} (hx : g.2.length ≤ 1048576) (hl : L.length ≤ 1048576) (hN : 1048577 ≤ N) : impl_IsTree N g L = some (((isTreeV g L).1, (isTreeV g L).2, ()), ()) := by
  obtain ⟨m', es⟩ := g
  unfold impl_IsTree isTreeV
  rw [IsGraph_eq hx hN, bind_some']
  by_cases h : goodG (m', es)
  · obtain ⟨m, rfl⟩ : ∃ m : Nat, m' = m := ⟨m'.toNat, by have := h.1.1; simp only at this; omega⟩
    rw [decide_eq_true h]
    simp only [Bool.not_true, br_f]
    by_cases h0 : 0 < (m : Int)
    · rw [ieq_f (by omega), br_f, if_pos ⟨h, h0⟩, impl_isTree_eq (by omega) h hx hl hN]
      rfl
    · rw [ieq_t (by omega), br_t, if_neg (fun h' => h0 h'.2)]
  · rw [if_neg (fun h' => h h'.1), decide_eq_false h]
    rfl
theorem IsTree_pure {g : Int × List (Int × Int)} {L : List Int} (hx : g.2.length ≤ 9223372036854775807) : laws_FnExactIsTree 1048577 g L = some ((true, ()), ()) := by
  unfold laws_FnExactIsTree
  have hN : 1048577 ≤ 1048577 := Nat.le_refl _
  obtain ⟨r, h1, h2⟩ := szGraph_eq (N := 1048577) hx
  by_cases hb : (L.length : Int) ≤ 1048576
  · rw [ilt_f (by rw [tLen_n]; omega), br_f]
    simp only [h1, bind_some']
    by_cases h : 0 ≤ r
    · have h3 := h2 h
      have hl : L.length ≤ 1048576 := by omega
      rw [ilt_f (by omega), br_f]
      simp only [toGraph_eq h3 hN, toIntS_eq hl hN, bind_some', spec_IsTree_eq h3 hl hN, impl_IsTree_eq h3 hl hN, eqGraph_eq h3 hN, eqIntS_eq (show L.length ≤ 1099511627776 by omega) (show L.length < 1048577 by omega)]
      simp [br_ite]
    · rw [ilt_t (by omega), br_t]
  · rw [ilt_t (by rw [tLen_n]; omega), br_t]
theorem IsTree_pureT : ∀ x : argsT (psOf [QILQII, LI]), WfA [QILQII, LI] x → ∃ k m, (laws_FnExactIsTree_S k).f x = some ((true, ()), m) :=
  fun x h => ⟨1048577, (), IsTree_pure (len_ok h.1.2.1)⟩
end Go.Proofs.Ythkejedgfhjdiaa
