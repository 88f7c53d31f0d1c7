/- Statements on data alone. -/
import Derived.Test.YtkffaahlpdlkoaaGreatPvPure
import Derived.Test.YtkffaahlpdlkoaaGreatRecolouringGb
set_option linter.all false
set_option linter.all false
namespace Go.Proofs.YtkffaahlpdlkoaaGreat
open Go Go.PV Classical
theorem colourings_eq {N : Nat} {g : Int × List (Int × Int)} {k : Int} (hx : g.2.length ≤ 1048576) (hN : 1048577 ≤ N) : Zq4 N g k = some (((colsR g k).1, (colsR g k).2, ()), ()) := by
  unfold Zq4 colsR
  rw [show ((g.1, g.2) : Int × List (Int × Int)) = g from rfl, isColourCase_eq hx hN, bind_some']
  by_cases h : colCase g k
  · rw [decide_eq_true h, Bool.not_true, br_f]
    obtain ⟨m, es⟩ := g
    obtain ⟨hg, h1, h2⟩ := h
    have hm := hg.1
    simp only at hm
    obtain ⟨m, rfl⟩ := Int.eq_ofNat_of_zero_le hm.1
    obtain ⟨k, rfl⟩ := Int.eq_ofNat_of_zero_le (show 0 ≤ k by omega)
    simp only [Int.ofNat_eq_natCast] at *
    obtain ⟨cs', e1, _, _⟩ := colFrom_eq hN (k := k) hg hx (by omega) m 0 (tRep (m : Int) 0) [] N (by omega) (by omega) (by simp) (by simp [tRep])
    unfold Zq8 Zq9
    rw [show ((0 : Nat) : Int) = 0 from rfl] at e1
    simp only [List.take_zero] at e1
    rw [ile_t (by omega), ile_t (by omega), fits_ok (by omega), Bool.and_self, Bool.and_self, chk_t, e1, bind_some']
    have e : allC ((m : Int), es) (k : Int) = moreC k es m [] [] := by simp [allC]
    rw [e]
    have hc : colCase ((m : Int), es) (k : Int) := ⟨hg, h1, h2⟩
    by_cases h3 : (moreC k es m [] []).length ≤ 300
    · simp only [okL_t h3, Bool.not_true, br_f, if_pos (show colCase ((m : Int), es) (k : Int) ∧ (moreC k es m [] []).length ≤ 300 from ⟨hc, h3⟩)]
      rfl
    · simp only [okL_f h3, Bool.not_false, br_t, if_neg (show ¬ (colCase ((m : Int), es) (k : Int) ∧ (moreC k es m [] []).length ≤ 300) from fun h => h3 h.2)]
      rfl
  · rw [decide_eq_false h, Bool.not_false, br_t, if_neg fun h' => h h'.1]
def InN (n : Nat) (x : Int) : Prop := 0 ≤ x ∧ x < (n : Int)
theorem nat_of {n : Nat} {x : Int} (h : InN n x) : ∃ i : Nat, i < n ∧ x = (i : Int) := by
  obtain ⟨h1, h2⟩ := h
  exact ⟨x.toNat, by omega, by omega⟩
theorem in_nat {n i : Nat} (h : i < n) : InN n (i : Int) := ⟨by omega, by omega⟩
inductive Wk (lists : List (List Int)) (x : Int) : Int → Prop
  | base : Wk lists x x
  | step {y z : Int} : Wk lists x y → z ∈ rdL lists y → Wk lists x z
def SpI (lists : List (List Int)) (m : Nat) (x : Int) (o q : List Int) : Prop :=
  o.length = m ∧ inM m q ∧ (∀ y, InN m y → (0 ≤ rdI o y ↔ y ∈ q)) ∧ (∀ y, InN m y → rdI o y < (q.length : Int)) ∧ ∀ y ∈ q, Wk lists x y
noncomputable def spF (u : Int) (s : List Int × List Int) (z : Int) : List Int × List Int := if rdI s.1 z < 0 then (tSet s.1 z (rdI s.1 u + 1), s.2 ++ [z]) else s
theorem spF_ok {lists : List (List Int)} {m : Nat} {x u z : Int} {s : List Int × List Int} (h : SpI lists m x s.1 s.2) (hu : u ∈ s.2) (hz : InN m z) (hr : z ∈ rdL lists u) : SpI lists m x (spF u s z).1 (spF u s z).2 ∧ (∃ t, (spF u s z).2 = s.2 ++ t) ∧ z ∈ (spF u s z).2 := by
  obtain ⟨h1, h2, h3, h4, h5⟩ := h
  unfold spF
  by_cases hc : rdI s.1 z < 0
  · rw [if_pos hc]
    obtain ⟨i, hi, rfl⟩ := nat_of hz
    have hzq : ¬ (i : Int) ∈ s.2 := fun h => by have := (h3 _ hz).2 h; omega
    have hum : InN m u := h2.2 u hu
    have hu0 := (h3 u hum).2 hu
    have hu1 := h4 u hum
    refine ⟨⟨by simp only [tSet_n, List.length_set]; exact h1, ⟨?_, ?_⟩, ?_, ?_, ?_⟩, ⟨_, rfl⟩, by simp⟩
    · refine List.nodup_append.2 ⟨h2.1, by simp, ?_⟩
      intro a ha b hb
      simp at hb
      rw [hb]
      exact fun e => hzq (e ▸ ha)
    · intro y hy
      rcases List.mem_append.1 hy with h | h
      · exact h2.2 y h
      · simp at h; rw [h]; exact hz
    · intro y hy
      simp only []
      rw [rdI_set (by omega) _ y hy.1, List.mem_append, List.mem_singleton]
      by_cases hyi : y = i
      · rw [if_pos hyi]
        exact ⟨fun _ => .inr hyi, fun _ => by omega⟩
      · rw [if_neg hyi, h3 y hy]
        exact ⟨.inl, fun h => h.elim _root_.id fun h => absurd h hyi⟩
    · intro y hy
      simp only []
      rw [rdI_set (by omega) _ y hy.1, List.length_append, List.length_singleton]
      by_cases hyi : y = i
      · rw [if_pos hyi]; omega
      · rw [if_neg hyi]
        have := h4 y hy
        omega
    · intro y hy
      rcases List.mem_append.1 hy with h | h
      · exact h5 y h
      · simp at h; rw [h]; exact .step (h5 u hu) hr
  · rw [if_neg hc]
    exact ⟨⟨h1, h2, h3, h4, h5⟩, ⟨[], by simp⟩, (h3 z hz).1 (by omega)⟩
structure Bfs (lists : List (List Int)) (m : Nat) (x : Int) (n : Nat) (o q : List Int) : Prop where
  spi : SpI lists m x o q
  xin : x ∈ q
  zero : rdI o x = 0
  srt : q.Pairwise fun a b => rdI o a ≤ rdI o b
  pre : ∀ y ∈ q, y = x ∨ ∃ u ∈ q, y ∈ rdL lists u ∧ rdI o y = rdI o u + 1
  clo : ∀ i : Nat, i < n → ∀ z ∈ rdL lists (rdI q i), z ∈ q ∧ rdI o z ≤ rdI o (rdI q i) + 1
  bnd : n < q.length → ∀ y ∈ q, rdI o y ≤ rdI o (rdI q n) + 1
theorem spF_keep {lists : List (List Int)} {m : Nat} {x u z : Int} {s : List Int × List Int} (h : SpI lists m x s.1 s.2) (hz : InN m z) : ∀ y ∈ s.2, rdI (spF u s z).1 y = rdI s.1 y := by
  intro y hy
  unfold spF
  by_cases hc : rdI s.1 z < 0
  · rw [if_pos hc]
    obtain ⟨i, hi, rfl⟩ := nat_of hz
    have hyn : y ≠ (i : Int) := by
      rintro rfl
      have := (h.2.2.1 _ hz).2 hy
      omega
    simp only []
    rw [rdI_set (by rw [h.1]; exact hi) _ y (h.2.1.2 y hy).1, if_neg hyn]
  · rw [if_neg hc]
theorem spF_new {u z : Int} {s : List Int × List Int} {m : Nat} (hl : s.1.length = m) (hz : InN m z) (hc : rdI s.1 z < 0) : rdI (spF u s z).1 z = rdI s.1 u + 1 ∧ (spF u s z).2 = s.2 ++ [z] := by
  unfold spF
  rw [if_pos hc]
  obtain ⟨i, hi, rfl⟩ := nat_of hz
  simp only []
  rw [rdI_set (by omega) _ _ hz.1, if_pos rfl]
  exact ⟨rfl, trivial⟩
theorem bfs_step {lists : List (List Int)} {m n : Nat} {x z : Int} {s : List Int × List Int} (h : Bfs lists m x n s.1 s.2) (hn : n < s.2.length) (hz : InN m z) (hr : z ∈ rdL lists (rdI s.2 n)) :
    Bfs lists m x n (spF (rdI s.2 n) s z).1 (spF (rdI s.2 n) s z).2 ∧ (∃ t, (spF (rdI s.2 n) s z).2 = s.2 ++ t) ∧ z ∈ (spF (rdI s.2 n) s z).2 ∧ rdI (spF (rdI s.2 n) s z).1 z ≤ rdI s.1 (rdI s.2 n) + 1 := by
  have hu : rdI s.2 n ∈ s.2 := by rw [rdI_n hn]; exact List.getElem_mem hn
  obtain ⟨f1, ⟨t, f2⟩, f3⟩ := spF_ok h.spi hu hz hr
  have hk := spF_keep (u := rdI s.2 n) h.spi hz
  have hget : ∀ i : Nat, i < s.2.length → rdI (spF (rdI s.2 n) s z).2 i = rdI s.2 i := by
    intro i hi
    rw [f2, rdI_n (by simp; omega), rdI_n hi, List.getElem_append_left hi]
  by_cases hc : rdI s.1 z < 0
  · obtain ⟨g1, g2⟩ := spF_new (u := rdI s.2 n) h.spi.1 hz hc
    have hmem : ∀ y, y ∈ (spF (rdI s.2 n) s z).2 ↔ y ∈ s.2 ∨ y = z := by intro y; rw [g2]; simp
    refine ⟨⟨f1, (hmem _).2 (.inl h.xin), by rw [hk _ h.xin]; exact h.zero, ?_, ?_, ?_, ?_⟩, ⟨t, f2⟩, f3, by rw [g1]; exact Int.le_refl _⟩
    · rw [g2]
      refine List.pairwise_append.2 ⟨?_, List.pairwise_singleton .., ?_⟩
      · refine List.Pairwise.imp_of_mem (fun {a b} ha hb hab => ?_) h.srt
        rw [hk a ha, hk b hb]
        exact hab
      · intro a ha b hb
        simp at hb
        subst hb
        rw [g1, hk a ha]
        exact h.bnd hn a ha
    · intro y hy
      rcases (hmem y).1 hy with hy | rfl
      · rcases h.pre y hy with rfl | ⟨u, hu1, hu2, hu3⟩
        · exact .inl rfl
        · exact .inr ⟨u, (hmem u).2 (.inl hu1), hu2, by rw [hk y hy, hk u hu1]; exact hu3⟩
      · exact .inr ⟨_, (hmem _).2 (.inl hu), hr, by rw [g1, hk _ hu]⟩
    · intro i hi y hy
      rw [hget i (by omega)] at hy ⊢
      obtain ⟨c1, c2⟩ := h.clo i hi y hy
      have : rdI s.2 i ∈ s.2 := by rw [rdI_n (by omega)]; exact List.getElem_mem _
      exact ⟨(hmem y).2 (.inl c1), by rw [hk _ c1, hk _ this]; exact c2⟩
    · intro _ y hy
      rw [hget n hn, hk _ hu]
      rcases (hmem y).1 hy with hy | rfl
      · rw [hk y hy]; exact h.bnd hn y hy
      · rw [g1]; exact Int.le_refl _
  · have e : spF (rdI s.2 n) s z = s := by unfold spF; rw [if_neg hc]
    rw [e] at f3 ⊢
    exact ⟨h, ⟨[], by simp⟩, f3, h.bnd hn z f3⟩
noncomputable def bfsR (lists : List (List Int)) : Nat → Nat → List Int → List Int → List Int
  | 0, _, o, _ => o
  | d + 1, n, o, q => if n < q.length then
      bfsR lists d (n + 1) ((rdL lists (rdI q n)).foldl (spF (rdI q n)) (o, q)).1 ((rdL lists (rdI q n)).foldl (spF (rdI q n)) (o, q)).2 else o
def okLists (lists : List (List Int)) (m : Nat) : Prop := lists.length = m ∧ ∀ l ∈ lists, l.length ≤ 1048576 ∧ ∀ z ∈ l, InN m z
theorem okL_row {lists : List (List Int)} {m : Nat} (h : okLists lists m) {u : Int} (hu : InN m u) : (rdL lists u).length ≤ 1048576 ∧ ∀ z ∈ rdL lists u, InN m z := by
  obtain ⟨i, hi, rfl⟩ := nat_of hu
  rw [rdL_n (by rw [h.1]; exact hi)]
  exact h.2 _ (List.getElem_mem _)
theorem bfs_round {lists : List (List Int)} {m n : Nat} {x : Int} (hl : okLists lists m) {o q : List Int} (h : Bfs lists m x n o q) (hn : n < q.length) : ∀ (row : List Int) (s : List Int × List Int), (∀ z ∈ row, z ∈ rdL lists (rdI q n)) → Bfs lists m x n s.1 s.2 → (∃ t, s.2 = q ++ t) → rdI s.1 (rdI q n) = rdI o (rdI q n) →
    Bfs lists m x n (row.foldl (spF (rdI q n)) s).1 (row.foldl (spF (rdI q n)) s).2 ∧ (∃ t, (row.foldl (spF (rdI q n)) s).2 = q ++ t) ∧ rdI (row.foldl (spF (rdI q n)) s).1 (rdI q n) = rdI o (rdI q n) ∧
      (∀ y ∈ s.2, y ∈ (row.foldl (spF (rdI q n)) s).2 ∧ rdI (row.foldl (spF (rdI q n)) s).1 y = rdI s.1 y) ∧ ∀ z ∈ row, z ∈ (row.foldl (spF (rdI q n)) s).2 ∧ rdI (row.foldl (spF (rdI q n)) s).1 z ≤ rdI o (rdI q n) + 1 := by
  intro row
  induction row with
  | nil => intro s _ h1 h2 h3; exact ⟨h1, h2, h3, fun y hy => ⟨hy, rfl⟩, by simp⟩
  | cons z row ih =>
    intro s hrow h1 h2 h3
    obtain ⟨t, ht⟩ := h2
    have hu : rdI q n ∈ q := by rw [rdI_n hn]; exact List.getElem_mem hn
    have hum := h.spi.2.1.2 _ hu
    have hz := (okL_row hl (show InN m (rdI q n) from hum)).2 z (hrow z (List.mem_cons_self ..))
    have hsn : rdI s.2 n = rdI q n := by rw [ht, rdI_n (by simp; omega), rdI_n hn, List.getElem_append_left hn]
    have hus : rdI q n ∈ s.2 := by rw [ht]; exact List.mem_append_left _ hu
    have hstep := bfs_step (n := n) (z := z) h1 (by rw [ht]; simp; omega) hz (by rw [hsn]; exact hrow z (List.mem_cons_self ..))
    rw [hsn] at hstep
    obtain ⟨g1, ⟨t', g2⟩, g3, g4⟩ := hstep
    have hk := spF_keep (u := rdI q n) h1.spi hz
    obtain ⟨i1, i2, i3, i4, i5⟩ := ih (spF (rdI q n) s z) (fun z' hz' => hrow z' (List.mem_cons_of_mem _ hz')) g1 ⟨t ++ t', by rw [g2, ht, List.append_assoc]⟩ (by rw [hk _ hus, h3])
    rw [List.foldl_cons]
    refine ⟨i1, i2, i3, fun y hy => ?_, fun y hy => ?_⟩
    · have hy' : y ∈ (spF (rdI q n) s z).2 := by rw [g2]; exact List.mem_append_left _ hy
      obtain ⟨j1, j2⟩ := i4 y hy'
      exact ⟨j1, by rw [j2, hk y hy]⟩
    · rcases List.mem_cons.1 hy with rfl | hy
      · obtain ⟨j1, j2⟩ := i4 y g3
        rw [j2]
        exact ⟨j1, by rw [← h3]; exact g4⟩
      · exact i5 y hy
theorem bfs_next {lists : List (List Int)} {m n : Nat} {x : Int} (hl : okLists lists m) {o q : List Int} (h : Bfs lists m x n o q) (hn : n < q.length) :
    Bfs lists m x (n + 1) ((rdL lists (rdI q n)).foldl (spF (rdI q n)) (o, q)).1 ((rdL lists (rdI q n)).foldl (spF (rdI q n)) (o, q)).2 ∧ ∃ t, ((rdL lists (rdI q n)).foldl (spF (rdI q n)) (o, q)).2 = q ++ t := by
  obtain ⟨h1, ⟨t, h2⟩, h3, h4, h5⟩ := bfs_round hl h hn (rdL lists (rdI q n)) (o, q) (fun _ h => h) h ⟨[], by simp⟩ rfl
  refine ⟨⟨h1.spi, h1.xin, h1.zero, h1.srt, h1.pre, fun i hi z hz => ?_, fun hn' y hy => ?_⟩, t, h2⟩
  · have hget : rdI ((rdL lists (rdI q n)).foldl (spF (rdI q n)) (o, q)).2 i = rdI q i := by
      rw [h2, rdI_n (by simp; omega), rdI_n (by omega), List.getElem_append_left (by omega)]
    by_cases hin : i = n
    · subst hin
      rw [hget] at hz ⊢
      obtain ⟨g1, g2⟩ := h5 z hz
      exact ⟨g1, by rw [h3]; exact g2⟩
    · exact h1.clo i (by omega) z hz
  · have hb := h1.bnd (by rw [h2]; simp; omega) y hy
    have hs := List.pairwise_iff_getElem.1 h1.srt n (n + 1) (by omega) hn' (by omega)
    have e1 := rdI_n (xs := ((rdL lists (rdI q n)).foldl (spF (rdI q n)) (o, q)).2) (n := n) (by omega)
    have e2 := rdI_n hn'
    rw [e1] at hb
    rw [e2]
    omega
theorem bfsR_ok {lists : List (List Int)} {m : Nat} {x : Int} (hl : okLists lists m) : ∀ (d n : Nat) (o q : List Int), n + d = m → n ≤ q.length → Bfs lists m x n o q → ∃ q', Bfs lists m x q'.length (bfsR lists d n o q) q' := by
  intro d
  induction d with
  | zero =>
    intro n o q hd hn h
    have := inM_len h.spi.2.1
    exact ⟨q, by rw [show q.length = n by omega]; exact h⟩
  | succ d ih =>
    intro n o q hd hn h
    unfold bfsR
    by_cases hq : n < q.length
    · rw [if_pos hq]
      obtain ⟨h1, t, h2⟩ := bfs_next hl h hq
      exact ih (n + 1) _ _ (by omega) (by rw [h2]; simp; omega) h1
    · rw [if_neg hq]
      exact ⟨q, by rw [show q.length = n by omega]; exact h⟩
noncomputable def bfsD (lists : List (List Int)) (m : Nat) (x : Int) : List Int := bfsR lists m 0 (tSet (List.replicate m (-1)) x 0) [x]
theorem bfs_init {lists : List (List Int)} {m : Nat} {x : Int} (hx : InN m x) : Bfs lists m x 0 (tSet (List.replicate m (-1)) x 0) [x] := by
  obtain ⟨i, hi, rfl⟩ := nat_of hx
  have hrep : ∀ y, InN m y → rdI (List.replicate m (-1 : Int)) y = -1 := by
    intro y hy
    obtain ⟨k, hk, rfl⟩ := nat_of hy
    rw [rdI_n (by simp; exact hk)]
    simp
  have hv : ∀ y, InN m y → rdI (tSet (List.replicate m (-1)) (i : Int) 0) y = if y = i then 0 else -1 := by
    intro y hy
    rw [rdI_set (by simp; exact hi) _ y hy.1]
    by_cases hyi : y = i
    · rw [if_pos hyi, if_pos hyi]
    · rw [if_neg hyi, if_neg hyi, hrep y hy]
  refine ⟨⟨by rw [tSet_n]; simp, ⟨by simp, fun z hz => by simp at hz; rw [hz]; exact hx⟩, fun y hy => ?_, fun y hy => ?_, fun y hy => by simp at hy; rw [hy]; exact .base⟩, by simp, ?_, List.pairwise_singleton .., fun y hy => .inl (by simpa using hy), fun i hi => absurd hi (Nat.not_lt_zero i), fun _ y hy => ?_⟩
  · rw [hv y hy]
    by_cases hyi : y = i <;> simp [hyi]
  · rw [hv y hy]
    by_cases hyi : y = i <;> simp [hyi]
  · rw [hv _ hx, if_pos rfl]
  · simp at hy
    have e0 : rdI [(i : Int)] ((0 : Nat) : Int) = i := by simp [rdI]
    rw [hy, e0, hv _ hx, if_pos rfl]
    omega
inductive Wl (lists : List (List Int)) (x : Int) : Nat → Int → Prop
  | base : Wl lists x 0 x
  | step {k : Nat} {y z : Int} : Wl lists x k y → z ∈ rdL lists y → Wl lists x (k + 1) z
theorem bfsD_spec {lists : List (List Int)} {m : Nat} {x : Int} (hl : okLists lists m) (hx : InN m x) :
    (bfsD lists m x).length = m ∧ rdI (bfsD lists m x) x = 0 ∧ (∀ y, InN m y → rdI (bfsD lists m x) y < m) ∧ (∀ y, InN m y → rdI (bfsD lists m x) y = 0 → y = x) ∧
      (∀ y, InN m y → 0 ≤ rdI (bfsD lists m x) y → Wl lists x (rdI (bfsD lists m x) y).toNat y) ∧ ∀ k y, Wl lists x k y → InN m y ∧ 0 ≤ rdI (bfsD lists m x) y ∧ rdI (bfsD lists m x) y ≤ k := by
  obtain ⟨q, h⟩ := bfsR_ok (x := x) hl m 0 _ [x] (by omega) (by simp) (bfs_init hx)
  have hqm := inM_len h.spi.2.1
  have e : bfsR lists m 0 (tSet (List.replicate m (-1)) x 0) [x] = bfsD lists m x := rfl
  rw [e] at h
  refine ⟨h.spi.1, h.zero, fun y hy => by have := h.spi.2.2.2.1 y hy; omega, fun y hy h0 => ?_, fun y hy h0 => ?_, fun k y hw => ?_⟩
  · have hyq := (h.spi.2.2.1 y hy).1 (by omega)
    rcases h.pre y hyq with h1 | ⟨u, hu1, _, hu3⟩
    · exact h1
    · have := (h.spi.2.2.1 u (h.spi.2.1.2 u hu1)).2 hu1
      omega
  · have key : ∀ (k : Nat) (y : Int), InN m y → rdI (bfsD lists m x) y = k → Wl lists x k y := by
      intro k
      induction k with
      | zero =>
        intro y hy hk
        have hyq := (h.spi.2.2.1 y hy).1 (by omega)
        rcases h.pre y hyq with h1 | ⟨u, hu1, _, hu3⟩
        · rw [h1]; exact .base
        · have := (h.spi.2.2.1 u (h.spi.2.1.2 u hu1)).2 hu1
          omega
      | succ k ih =>
        intro y hy hk
        have hyq := (h.spi.2.2.1 y hy).1 (by omega)
        rcases h.pre y hyq with h1 | ⟨u, hu1, hu2, hu3⟩
        · rw [h1, h.zero] at hk; omega
        · exact .step (ih u (h.spi.2.1.2 u hu1) (by omega)) hu2
    exact key _ y hy (by omega)
  · have key : y ∈ q ∧ rdI (bfsD lists m x) y ≤ k := by
      induction hw with
      | base => exact ⟨h.xin, by rw [h.zero]; exact Int.le_refl _⟩
      | @step k y z _ hz ih =>
        obtain ⟨i, hi, rfl⟩ := List.getElem_of_mem ih.1
        have := h.clo i hi z (by rw [rdI_n hi]; exact hz)
        rw [rdI_n hi] at this
        exact ⟨this.1, by omega⟩
    exact ⟨h.spi.2.1.2 y key.1, (h.spi.2.2.1 y (h.spi.2.1.2 y key.1)).2 key.1, key.2⟩
theorem l2Spread_bfs {N : Nat} {lists : List (List Int)} {m : Nat} {x : Int} (hl : okLists lists m) (hm : m ≤ 1048575) (hx : InN m x) (hN : 1048577 ≤ N) : Zq107 N lists x = some ((bfsD lists m x, ()), ()) := by
  have go : ∀ (d n K : Nat) (o q : List Int), n + d = m → d < K → n ≤ q.length → Bfs lists m x n o q →
      Zq107_l1 N (fun o1 => some ((o1, ()), ())) K lists n o q = some ((bfsR lists d n o q, ()), ()) := by
    intro d
    induction d with
    | zero =>
      intro n K o q hd hK hn hs
      obtain ⟨k, rfl⟩ := succ_of hK
      have hqm := inM_len hs.spi.2.1
      simp only [Zq107_l1, ilt_lenf (show ¬ n < q.length by omega), br_f]
      rfl
    | succ d ih =>
      intro n K o q hd hK hn hs
      obtain ⟨k, rfl⟩ := succ_of hK
      have hqm := inM_len hs.spi.2.1
      unfold bfsR
      by_cases hnq : n < q.length
      · have huq : rdI q n ∈ q := by rw [rdI_n hnq]; exact List.getElem_mem hnq
        have hum := hs.spi.2.1.2 _ huq
        obtain ⟨hr1, hr2⟩ := okL_row hl (show InN m (rdI q n) from hum)
        simp only [Zq107_l1, ilt_len hnq, br_t, inb_n hnq, chk_t]
        rw [inb_i hum.1 (by rw [hl.1]; exact hum.2), chk_t, if_pos hnq]
        have key := loop_list (xs := rdL lists (rdI q n)) (L := fun K' i (s : List Int × List Int) => Zq107_l1_0 N (fun x4 x5 o3 o4 => Zq107_l1 N (fun o1 => some ((o1, ()), ())) k x4 (IntKind.i64.wrap (x5 + 1)) o3 o4) K' lists n (rdL lists (rdI q n)) i s.1 s.2)
          (k := fun s => Zq107_l1 N (fun o1 => some ((o1, ()), ())) k lists (IntKind.i64.wrap ((n : Int) + 1)) s.1 s.2) (spF (rdI q n)) (fun i s => Bfs lists m x n s.1 s.2 ∧ ∃ t, s.2 = q ++ t) (fun K' i s hi _ => ?_) (fun K' i s hi hI => ?_) (fun i s hi hI => ?_) (s := (o, q)) (K := N) (by omega) ⟨hs, [], by simp⟩
        · simp only [Int.natCast_zero] at key
          rw [key.1, wrap_succ (by omega)]
          obtain ⟨h1, t, h2⟩ := bfs_next hl hs hnq
          exact ih (n + 1) k _ _ (by omega) (by omega) (by rw [h2]; simp; omega) h1
        · simp only [Zq107_l1_0, ilt_lenf hi, br_f]
        · obtain ⟨hI1, ⟨t, ht⟩⟩ := hI
          have hz := hr2 _ (List.getElem_mem hi)
          have hsl := inM_len hI1.spi.2.1
          have hns : n < s.2.length := by rw [ht]; simp; omega
          have hrn : rdI s.2 n = rdI q n := by rw [ht, rdI_n (by simp; omega), rdI_n hnq, List.getElem_append_left hnq]
          have hus : rdI q n ∈ s.2 := by rw [ht]; exact List.mem_append_left _ huq
          have hval := (hI1.spi.2.2.1 _ hum).2 hus
          have hval2 := hI1.spi.2.2.2.1 _ hum
          have hlen := hI1.spi.1
          simp only [Zq107_l1_0, ilt_len hi, br_t, inb_n hi, chk_t, rdI_n hi]
          rw [inb_i hz.1 (by have := hz.2; omega), chk_t]
          unfold spF
          by_cases hcc : rdI s.1 (rdL lists (rdI q n))[i] < 0
          · rw [ilt_t hcc, br_t, if_pos hcc, inb_n hns, chk_t, hrn, inb_i hum.1 (by rw [hlen]; exact hum.2), chk_t, chk_t, room_ok (by simp; omega), chk_t, wrap_succ (by omega), wrap_ok (by omega) (by omega), tApp_d]
          · rw [ilt_f hcc, br_f, if_neg hcc, wrap_succ (by omega)]
        · obtain ⟨hI1, ⟨t, ht⟩⟩ := hI
          have hns : n < s.2.length := by rw [ht]; simp; omega
          have hrn : rdI s.2 n = rdI q n := by rw [ht, rdI_n (by simp; omega), rdI_n hnq, List.getElem_append_left hnq]
          have := bfs_step hI1 hns (hr2 _ (List.getElem_mem hi)) (by rw [hrn]; exact List.getElem_mem hi)
          rw [hrn] at this
          obtain ⟨g1, ⟨t', g2⟩, _⟩ := this
          exact ⟨g1, t ++ t', by rw [g2, ht, List.append_assoc]⟩
      · simp only [Zq107_l1, ilt_lenf hnq, br_f]
        rw [if_neg hnq]
  have fill : ∀ (d n K : Nat) (k0 : List (List Int) → Int → List Int → Option ((List Int × Unit) × Unit)), n + d = m → d < K →
      Zq107_l0 N k0 K lists x n (List.replicate n (-1) ++ List.replicate d 0) = k0 lists x (List.replicate m (-1)) := by
    intro d
    induction d with
    | zero =>
      intro n K k0 hd hK
      obtain ⟨k, rfl⟩ := succ_of hK
      have hln : (List.replicate n (-1 : Int) ++ List.replicate 0 0).length = n := by simp
      simp only [Zq107_l0, ilt_lenf (show ¬ n < (List.replicate n (-1 : Int) ++ List.replicate 0 0).length by omega), br_f]
      have : n = m := by omega
      subst this
      simp
    | succ d ih =>
      intro n K k0 hd hK
      obtain ⟨k, rfl⟩ := succ_of hK
      have hn : n < (List.replicate n (-1 : Int) ++ List.replicate (d + 1) 0).length := by simp
      simp only [Zq107_l0, ilt_len hn, br_t, inb_n hn, chk_t]
      rw [wrap_succ (by omega), ← ih (n + 1) k k0 (by omega) (by omega), tSet_n]
      congr 1
      rw [List.replicate_succ' (n := n), List.replicate_succ, List.set_append_right _ _ (by simp)]
      simp
  unfold Zq107
  rw [tLen_n, hl.1, ile_t (by omega), ile_t (Int.le_refl _), fits_ok (by omega)]
  simp only [Bool.and_self, chk_t]
  have hf := fill m 0 N (fun x x1 o => (chk (inb o x1) (Zq107_l1 N (fun o1 => some ((o1, ()), ())) N x 0 (tSet o x1 0) [x1]))) (by omega) (by omega)
  rw [tRep_n]
  simp only [Int.natCast_zero, List.replicate_zero, List.nil_append] at hf
  rw [hf, inb_i hx.1 (by simp; exact hx.2), chk_t]
  exact go m 0 N _ _ (by omega) (by omega) (by simp) (bfs_init hx)
theorem shr32 {n : Nat} (h : n < 4294967296) : shrI .u64 (n : Int) 32 = 0 := by
  unfold shrI
  have : (n : Int).fdiv (2 ^ (min (32 : Int).toNat IntKind.u64.bits)) = (n : Int).fdiv 4294967296 := rfl
  rw [this, Int.fdiv_eq_ediv_of_nonneg _ (by omega)]
  omega
theorem and32 {n : Nat} (h : n < 4294967296) : bitop .and .u64 (n : Int) 4294967295 = n := by
  have := andN (a := n) (b := 4294967295) h (by omega)
  rw [show ((4294967295 : Nat) : Int) = 4294967295 from rfl] at this
  rw [this, show (4294967295 : Nat) = 2 ^ 32 - 1 from rfl, Nat.and_two_pow_sub_one_eq_mod]
  omega
theorem mul64_one {N m : Nat} (h : m < 4294967296) : Zq52 N 1 (m : Int) = some ((0, (m : Int), ()), ()) := by
  have e1 : shrI .u64 1 32 = 0 := by have := shr32 (n := 1) (by omega); exact this
  have e2 : bitop .and .u64 1 4294967295 = 1 := by have := and32 (n := 1) (by omega); exact this
  have w0 : IntKind.u64.wrap 0 = 0 := by have := wrap64 (n := 0) (by omega); exact this
  have e3 : shrI .u64 0 32 = 0 := by have := shr32 (n := 0) (by omega); exact this
  have e4 : bitop .and .u64 0 4294967295 = 0 := by have := and32 (n := 0) (by omega); exact this
  unfold Zq52 Zq53
  simp only [e1, e2, shr32 h, and32 h, Int.zero_mul, Int.mul_zero, Int.one_mul, wrap64 (show m < 18446744073709551616 by omega), w0, Int.zero_add, Int.add_zero, e3, e4, bind_some']
theorem tMin_n (a b : Nat) : tMin (a : Int) (b : Int) = ((min a b : Nat) : Int) := by
  unfold tMin
  by_cases h : a ≤ b
  · rw [ile_t (by omega), Nat.min_eq_left h]; rfl
  · rw [ile_f (by omega), Nat.min_eq_right (by omega)]; rfl
theorem tPut_n {α : Type} (xs ys : List α) (l : Nat) : tPut xs (l : Int) ys = xs.take l ++ ys ++ xs.drop (l + ys.length) := by simp [tPut]
theorem Repeat_eq {N m : Nat} {v : Int} (hm : m ≤ 1048576) (hN : 1048577 ≤ N) : Zq70 N [v] (m : Int) = some ((List.replicate m v, ()), ()) := by
  have go : ∀ (d n K : Nat), n + d = m → d < K → (0 < n ∨ m = 0) → Zq70_l0 N (fun o => some ((o, ()), ())) K n (List.replicate n v ++ List.replicate d 0) = some ((List.replicate m v, ()), ()) := by
    intro d
    induction d using Nat.strongRecOn with
    | _ d ih =>
      intro n K hd hK hn
      obtain ⟨k, rfl⟩ := succ_of hK
      have hlen : (List.replicate n v ++ List.replicate d 0).length = m := by simp; omega
      simp only [Zq70_l0]
      rw [tLen_n, hlen]
      by_cases h0 : d = 0
      · subst h0
        have : n = m := by omega
        subst this
        rw [ilt_nf (Nat.lt_irrefl n), br_f]
        simp
      · have hc0 : tCut (List.replicate n v ++ List.replicate d 0) 0 (n : Int) = List.replicate n v := by
          rw [show (0 : Int) = ((0 : Nat) : Int) from rfl, tCut_n]
          simp
        have hmin : tMin ((m : Int) - (n : Int)) (tLen (List.replicate n v)) = ((min d n : Nat) : Int) := by
          rw [tLen_n, List.length_replicate, show (m : Int) - (n : Int) = (d : Int) by omega, tMin_n]
        have hc1 : tCut (List.replicate n v) 0 ((min d n : Nat) : Int) = List.replicate (min d n) v := by
          rw [show (0 : Int) = ((0 : Nat) : Int) from rfl, tCut_n, List.take_replicate, List.drop_zero]
          congr 1
          omega
        rw [ilt_n (show n < m by omega), br_t, ile_t (show (0 : Int) ≤ (n : Int) by omega), ile_t (show (n : Int) ≤ (m : Int) by omega), ile_t (Int.le_refl (m : Int)), ile_t (Int.le_refl (0 : Int))]
        simp only [Bool.and_self, chk_t]
        rw [hc0, hmin, hc1]
        have hput : tPut (List.replicate n v ++ List.replicate d 0) (n : Int) (List.replicate (min d n) v) = List.replicate (n + min d n) v ++ List.replicate (d - min d n) 0 := by
          rw [tPut_n, List.take_left' (by simp), List.drop_append, List.length_replicate, List.length_replicate]
          rw [List.drop_of_length_le (by simp), List.nil_append, List.drop_replicate, List.replicate_append_replicate]
          congr 2
          omega
        rw [hput, wrap_ok (by omega) (by omega), show (n : Int) + ((min d n : Nat) : Int) = ((n + min d n : Nat) : Int) by omega]
        exact ih (d - min d n) (by omega) (n + min d n) k (by omega) (by omega) (.inl (by omega))
  unfold Zq70
  rw [ilt_f (by omega), br_f, show tLen [v] = ((1 : Nat) : Int) from rfl, wrap64 (by omega), wrap64 (by omega), show (((1 : Nat) : Int)) = 1 from rfl, mul64_one (by omega)]
  simp only [bind_some']
  rw [ilt_f (Int.lt_irrefl 0), br_f, ilt_f (by omega), br_f, wrap_ok (by omega) (by omega), ile_t (by omega), ile_t (Int.le_refl _), fits_ok (by omega)]
  simp only [Bool.and_self, chk_t]
  rw [tRep_n, tLen_n, List.length_replicate, show (1 : Int) = ((1 : Nat) : Int) from rfl, tMin_n]
  have hc : tCut [v] 0 ((min m 1 : Nat) : Int) = List.replicate (min m 1) v := by
    rw [show (0 : Int) = ((0 : Nat) : Int) from rfl, tCut_n]
    by_cases h0 : m = 0
    · subst h0; rfl
    · rw [show min m 1 = 1 by omega]; rfl
  have hp : tPut (List.replicate m (0 : Int)) 0 (List.replicate (min m 1) v) = List.replicate (min m 1) v ++ List.replicate (m - min m 1) 0 := by
    rw [show (0 : Int) = ((0 : Nat) : Int) from rfl, tPut_n]
    simp
  rw [hc, hp]
  exact go (m - min m 1) (min m 1) N (by omega) (by omega) (by omega)
theorem tCut_drop {xs : List Int} {a b : Nat} (h : b ≤ xs.length) (hab : a ≤ b) {n : Nat} {q : List Int} (hc : tCut xs (a : Int) (b : Int) = q.drop n) (hn : n ≤ q.length) : b - a = q.length - n := by
  have := congrArg List.length hc
  rw [tCut_n, List.length_drop, List.length_take, List.length_drop] at this
  omega
theorem spread_in_eq {R : Type} {N : Nat} (k0 : List (List Int) → Int → Int → List Int → List Int → Option R) {lists : List (List Int)} {m n : Nat} {x : Int} {row : List Int} (hN : 1048577 ≤ N) (hm : m ≤ 1048575) (hrl : row.length ≤ 1048576) (hrow : ∀ z ∈ row, InN m z) :
    ∀ (d i K : Nat) (lo hi : Nat) (o1 : List Int) (s : List Int × List Int) (u : Int), i + d = row.length → d < K → lo ≤ hi → hi ≤ o1.length → tCut o1 (lo : Int) (hi : Int) = s.2.drop (n + 1) → Bfs lists m x n s.1 s.2 → n < s.2.length → u = rdI s.2 n → (∀ z ∈ row, z ∈ rdL lists u) →
      ∃ (lo' hi' : Nat) (o1' : List Int), lo' ≤ hi' ∧ hi' ≤ o1'.length ∧ tCut o1' (lo' : Int) (hi' : Int) = ((row.drop i).foldl (spF u) s).2.drop (n + 1) ∧
        Zq45_l0_0 N k0 K lists lo hi u row (row.length : Int) i s.1 o1 = k0 lists lo' hi' ((row.drop i).foldl (spF u) s).1 o1' := by
  intro d
  induction d with
  | zero =>
    intro i K lo hi o1 s u hd hK hlh hho hc hb hn hu hr
    obtain ⟨k, rfl⟩ := succ_of hK
    simp only [Zq45_l0_0, ilt_nf (show ¬ i < row.length by omega), br_f]
    rw [List.drop_of_length_le (show row.length ≤ i by omega)]
    exact ⟨lo, hi, o1, hlh, hho, hc, rfl⟩
  | succ d ih =>
    intro i K lo hi o1 s u hd hK hlh hho hc hb hn hu hr
    obtain ⟨k, rfl⟩ := succ_of hK
    have hi' : i < row.length := by omega
    have hz := hrow _ (List.getElem_mem hi')
    have hus : u ∈ s.2 := by rw [hu, rdI_n hn]; exact List.getElem_mem hn
    have hum := hb.spi.2.1.2 u hus
    have hu0 := (hb.spi.2.2.1 u hum).2 hus
    have hu1 := hb.spi.2.2.2.1 u hum
    have hsl := inM_len hb.spi.2.1
    have hlen := hb.spi.1
    have hwin := tCut_drop hho hlh hc (by omega)
    have hstep := bfs_step hb hn hz (by rw [← hu]; exact hr _ (List.getElem_mem hi'))
    rw [← hu] at hstep
    obtain ⟨g1, ⟨t, g2⟩, _⟩ := hstep
    have hg3 : rdI (spF u s row[i]).2 n = u := by rw [g2, rdI_n (by simp; omega), List.getElem_append_left hn, ← rdI_n hn, hu]
    have hg4 : n < (spF u s row[i]).2.length := by rw [g2]; simp; omega
    have hdr : (row.drop i).foldl (spF u) s = (row.drop (i + 1)).foldl (spF u) (spF u s row[i]) := by rw [drop_cons hi', List.foldl_cons]
    rw [hdr]
    simp only [Zq45_l0_0, ilt_n hi', br_t, inb_n hi', chk_t, rdI_n hi']
    rw [inb_i hz.1 (by rw [hlen]; exact hz.2), chk_t, wrap_succ (by omega)]
    by_cases hcc : rdI s.1 row[i] < 0
    · have e : spF u s row[i] = (tSet s.1 row[i] (rdI s.1 u + 1), s.2 ++ [row[i]]) := by unfold spF; rw [if_pos hcc]
      rw [ilt_t hcc, br_t, inb_i hum.1 (by rw [hlen]; exact hum.2), chk_t, chk_t]
      have hcl : (tCut o1 (lo : Int) (hi : Int)).length = s.2.length - (n + 1) := by rw [hc, List.length_drop]
      rw [room_ok (by simp only [List.length_singleton]; omega), chk_t, wrap_ok (by omega) (by omega)]
      have key := ih (i + 1) k 0 (tApp (tCut o1 (lo : Int) (hi : Int)) [row[i]]).length (tApp (tCut o1 (lo : Int) (hi : Int)) [row[i]]) (spF u s row[i]) u (by omega) (by omega) (Nat.zero_le _) (Nat.le_refl _) (by
        rw [tCut_n, tApp_d, hc, e]
        simp only [List.take_length, List.drop_zero]
        rw [List.drop_append_of_le_length (by omega)]) g1 hg4 hg3.symm hr
      obtain ⟨lo', hi2, o2, k1, k2, k3, k4⟩ := key
      refine ⟨lo', hi2, o2, k1, k2, k3, ?_⟩
      rw [← k4, e]
      rfl
    · have e : spF u s row[i] = s := by unfold spF; rw [if_neg hcc]
      rw [ilt_f hcc, br_f]
      rw [e] at g1 hg3 hg4 ⊢
      exact ih (i + 1) k lo hi o1 s u (by omega) (by omega) hlh hho hc g1 hg4 hg3.symm hr
theorem spread_eq {N : Nat} {lists : List (List Int)} {m : Nat} {x : Int} (hl : okLists lists m) (hm : m ≤ 1048575) (hx : InN m x) (hN : 1048577 ≤ N) : Zq45 N lists x = some ((bfsD lists m x, ()), ()) := by
  have go : ∀ (d n K : Nat) (lo hi : Nat) (o o1 q : List Int), n + d = m → d < K → n ≤ q.length → lo ≤ hi → hi ≤ o1.length → tCut o1 (lo : Int) (hi : Int) = q.drop n → Bfs lists m x n o q →
      Zq45_l0 N (fun o1 => some ((o1, ()), ())) K lists lo hi o o1 = some ((bfsR lists d n o q, ()), ()) := by
    intro d
    induction d with
    | zero =>
      intro n K lo hi o o1 q hd hK hn hlh hho hc hb
      obtain ⟨k, rfl⟩ := succ_of hK
      have hqm := inM_len hb.spi.2.1
      have hwin := tCut_drop hho hlh hc hn
      simp only [Zq45_l0]
      rw [ilt_f (by omega), br_f]
      rfl
    | succ d ih =>
      intro n K lo hi o o1 q hd hK hn hlh hho hc hb
      obtain ⟨k, rfl⟩ := succ_of hK
      have hqm := inM_len hb.spi.2.1
      have hwin := tCut_drop hho hlh hc hn
      simp only [Zq45_l0]
      unfold bfsR
      by_cases hnq : n < q.length
      · have hhead : rdI o1 ((lo : Int) + 0) = rdI q n := by
          rw [Int.add_zero, rdI_n (by omega), rdI_n hnq]
          have h1 : (tCut o1 (lo : Int) (hi : Int))[0]? = (q.drop n)[0]? := by rw [hc]
          rw [tCut_n, List.getElem?_drop, List.getElem?_take, if_pos (by omega), List.getElem?_drop, Nat.add_zero, Nat.add_zero, List.getElem?_eq_getElem (by omega), List.getElem?_eq_getElem hnq] at h1
          injection h1
        have huq : rdI q n ∈ q := by rw [rdI_n hnq]; exact List.getElem_mem hnq
        have hum := hb.spi.2.1.2 _ huq
        obtain ⟨hr1, hr2⟩ := okL_row hl (show InN m (rdI q n) from hum)
        rw [ilt_t (show (0 : Int) < (hi : Int) - (lo : Int) by omega), br_t, ile_t (Int.le_refl 0), ile_t (show (0 : Int) ≤ 1 by omega), ile_t (show (1 : Int) ≤ (hi : Int) - (lo : Int) by omega), ile_t (Int.le_refl ((hi : Int) - (lo : Int)))]
        simp only [Bool.and_self, chk_t]
        rw [hhead, inb_i hum.1 (by rw [hl.1]; exact hum.2), chk_t, tLen_n, if_pos hnq]
        have hc' : tCut o1 ((lo + 1 : Nat) : Int) (hi : Int) = q.drop (n + 1) := by
          rw [tCut_n] at hc ⊢
          rw [← List.drop_drop, hc, List.drop_drop]
        obtain ⟨lo', hi', o1', g1, g2, g3, g4⟩ := spread_in_eq (N := N) (fun roads2 queue2 queue3 o2 o3 => Zq45_l0 N (fun o1 => some ((o1, ()), ())) k roads2 queue2 queue3 o2 o3) hN hm hr1 hr2 (rdL lists (rdI q n)).length 0 N (lo + 1) hi o1 (o, q) (rdI q n) (by omega) (by omega) (by omega) hho hc' hb hnq rfl (fun _ h => h)
        simp only [Int.natCast_zero, List.drop_zero] at g3 g4
        rw [show (lo : Int) + 1 = ((lo + 1 : Nat) : Int) by omega, show (lo : Int) + ((hi : Int) - (lo : Int)) = (hi : Int) by omega, g4]
        obtain ⟨h1, t, h2⟩ := bfs_next hl hb hnq
        exact ih (n + 1) k lo' hi' _ o1' _ (by omega) (by omega) (by rw [h2]; simp; omega) g1 g2 g3 h1
      · rw [ilt_f (by omega), br_f, if_neg hnq]
  unfold Zq45
  rw [tLen_n, hl.1, Repeat_eq (by omega) hN]
  simp only [bind_some']
  rw [inb_i hx.1 (by simp; exact hx.2), chk_t]
  exact go m 0 N 0 1 _ [x] [x] (by omega) (by omega) (by simp) (by omega) (by simp) (by rw [tCut_n]; rfl) (bfs_init hx)
noncomputable def nextW (L : List (List Int)) (F : List Int) (x : Int) : List Int := (rdL L x).filter fun y => decide (rdI F y = rdI F x - 1)
theorem sum_le {α : Type} {f : α → Nat} {b : Nat} : ∀ {xs : List α}, (∀ x ∈ xs, f x ≤ b) → (xs.map f).sum ≤ xs.length * b := by
  intro xs
  induction xs with
  | nil => intro _; simp
  | cons x xs ih =>
    intro h
    have h1 := h x (List.mem_cons_self ..)
    have h2 := ih fun y hy => h y (List.mem_cons_of_mem _ hy)
    rw [List.map_cons, List.sum_cons, List.length_cons, Nat.add_mul]
    omega
def lexC : List Int → List Int → Int
  | [], [] => 0
  | [], _ :: _ => -1
  | _ :: _, [] => 1
  | x :: a, y :: b => if x < y then -1 else if y < x then 1 else lexC a b
theorem lexC_anti : ∀ (a b : List Int), lexC b a = - lexC a b := by
  intro a
  induction a with
  | nil => intro b; cases b <;> rfl
  | cons x a ih =>
    intro b
    cases b with
    | nil => rfl
    | cons y b =>
      simp only [lexC]
      by_cases h1 : x < y
      · simp [h1, show ¬ y < x by omega]
      · by_cases h2 : y < x
        · simp [h1, h2]
        · simp [h1, h2, ih]
theorem lexC_self (a : List Int) : lexC a a = 0 := by have := lexC_anti a a; omega
theorem Compare_lex {N : Nat} {a b : List Int} (ha : a.length ≤ 1048576) (hb : b.length ≤ 1048576) (hN : 1048577 ≤ N) : Zq58 N a b = some ((lexC a b, ()), ()) := by
  unfold Zq58
  have go : ∀ (d n K : Nat), n + d = a.length → d < K → n ≤ b.length → lexC a b = lexC (a.drop n) (b.drop n) → Zq58_l0 N (fun x => some ((x, ()), ())) (fun s11 s21 => (br (ilt (tLen s11) (tLen s21)) (some (((-1), ()), ())) (some ((0, ()), ())))) K a b a (a.length : Int) n = some ((lexC a b, ()), ()) := by
    intro d
    induction d with
    | zero =>
      intro n K hd hK hn h
      obtain ⟨k, rfl⟩ := succ_of hK
      simp only [Zq58_l0, ilt_nf (show ¬ n < a.length by omega), br_f]
      rw [tLen_n, tLen_n, h, List.drop_of_length_le (show a.length ≤ n by omega)]
      by_cases hlt : a.length < b.length
      · rw [ilt_n hlt, br_t, drop_cons (show n < b.length by omega)]; rfl
      · rw [ilt_nf hlt, br_f, List.drop_of_length_le (show b.length ≤ n by omega)]; rfl
    | succ d ih =>
      intro n K hd hK hn h
      obtain ⟨k, rfl⟩ := succ_of hK
      have hna : n < a.length := by omega
      simp only [Zq58_l0, ilt_n hna, br_t, inb_n hna, chk_t]
      rw [drop_cons hna] at h
      by_cases hnb : n < b.length
      · rw [tLen_n, ile_f (by omega), br_f, inb_n hnb, chk_t, compare_eq, bind_some', rdI_n hna, rdI_n hnb]
        rw [drop_cons hnb] at h
        simp only [lexC] at h
        simp only []
        by_cases h1 : a[n] < b[n]
        · rw [if_pos h1] at h ⊢
          rw [ine_t (by omega), br_t, h]
        · rw [if_neg h1] at h ⊢
          by_cases h2 : b[n] < a[n]
          · rw [if_pos h2] at h ⊢
            rw [ine_t (by omega), br_t, h]
          · rw [if_neg h2] at h ⊢
            rw [ine_f rfl, br_f, wrap_succ (by omega)]
            exact ih (n + 1) k (by omega) (by omega) (by omega) h
      · rw [tLen_n, ile_t (by omega), br_t, h, List.drop_of_length_le (show b.length ≤ n by omega)]
        rfl
  exact go a.length 0 N (by omega) (by omega) (Nat.zero_le _) rfl
def lexSorted (xs : List (List Int)) : Prop := xs.Pairwise fun a b => lexC a b < 0
theorem lexC_trans : ∀ {a b c : List Int}, lexC a b < 0 → lexC b c < 0 → lexC a c < 0 := by
  intro a
  induction a with
  | nil =>
    intro b c h1 h2
    cases b with
    | nil => simp [lexC] at h1
    | cons y b =>
      cases c with
      | nil => simp [lexC] at h2
      | cons z c => simp [lexC]
  | cons x a ih =>
    intro b c h1 h2
    cases b with
    | nil => simp [lexC] at h1
    | cons y b =>
      cases c with
      | nil => simp [lexC] at h2
      | cons z c =>
        simp only [lexC] at h1 h2 ⊢
        by_cases p1 : x < y
        · by_cases p2 : y < z
          · rw [if_pos (show x < z by omega)]; decide
          · rw [if_neg p2] at h2
            by_cases p3 : z < y
            · rw [if_pos p3] at h2; omega
            · rw [if_pos (show x < z by omega)]; decide
        · rw [if_neg p1] at h1
          by_cases p2 : y < x
          · rw [if_pos p2] at h1; omega
          · rw [if_neg p2] at h1
            have e : x = y := by omega
            subst e
            by_cases p3 : x < z
            · rw [if_pos p3]; decide
            · rw [if_neg p3] at h2 ⊢
              by_cases p4 : z < x
              · rw [if_pos p4] at h2; omega
              · rw [if_neg p4] at h2 ⊢
                exact ih h1 h2
theorem lexC_eq : ∀ {a b : List Int}, lexC a b = 0 → a = b := by
  intro a
  induction a with
  | nil => intro b h; cases b with
    | nil => rfl
    | cons y b => simp [lexC] at h
  | cons x a ih =>
    intro b h
    cases b with
    | nil => simp [lexC] at h
    | cons y b =>
      simp only [lexC] at h
      by_cases p1 : x < y
      · rw [if_pos p1] at h; omega
      · rw [if_neg p1] at h
        by_cases p2 : y < x
        · rw [if_pos p2] at h; omega
        · rw [if_neg p2] at h
          rw [ih h, show x = y by omega]
theorem lexC_flip {a b : List Int} (h1 : ¬ lexC a b < 0) (h2 : a ≠ b) : lexC b a < 0 := by
  have := lexC_anti a b
  have h3 : lexC a b ≠ 0 := fun e => h2 (lexC_eq e)
  omega
theorem lex_nodup {xs : List (List Int)} (h : lexSorted xs) : xs.Nodup := h.imp fun hab e => by rw [e, lexC_self] at hab; omega
theorem SortFunc_rows {N : Nat} {xs ys : List (List Int)} (hx : xs.length ≤ 1048576) (hl : ∀ x ∈ xs, x.length ≤ 1048576) (hn : xs.Nodup) (hs : lexSorted ys) (hm : ∀ s, s ∈ ys ↔ s ∈ xs) (hN : 1048577 ≤ N) :
    Zq71 N xs () = some ((), (ys, ())) := by
  have hc : ∀ a ∈ xs, ∀ b ∈ xs, (Zq58 N a b).map (fun z => z.1.1) = some (lexC a b) := fun a ha b hb => by rw [Compare_lex (hl a ha) (hl b hb) hN]; rfl
  have hv : ∀ a ∈ xs, ∀ b ∈ xs, cmpV (fun a b => (Zq58 N a b).map fun z => z.1.1) a b = lexC a b := fun a ha b hb => by
    show ((Zq58 N a b).map fun z => z.1.1).getD 0 = _
    rw [hc a ha b hb]
    rfl
  unfold Zq71
  refine sortF_eq ⟨⟨by omega, fun a ha b hb => ⟨_, hc a ha b hb⟩, fun a ha => ?_, fun a ha b hb c hc' h1 h2 => ?_, fun a ha b hb c hc' h1 h2 => ?_, fun a ha b hb h1 h2 => ?_⟩, (List.perm_ext_iff_of_nodup (lex_nodup hs) hn).2 hm, ?_⟩
  · rw [hv a ha a ha, lexC_self]; decide
  · rw [hv a ha b hb] at h1
    rw [hv b hb c hc'] at h2
    rw [hv a ha c hc']
    exact lexC_trans h1 h2
  · rw [hv a ha b hb] at h1
    rw [hv b hb c hc'] at h2
    rw [hv a ha c hc']
    intro h3
    by_cases e : a = b
    · exact h2 (e ▸ h3)
    · exact h2 (lexC_trans (lexC_flip h1 e) h3)
  · rw [hv a ha b hb] at h1
    rw [hv b hb a ha] at h2
    have := lexC_anti a b
    exact lexC_eq (by omega)
  · refine hs.imp_of_mem fun {a b} ha hb hab => ?_
    rw [hv b ((hm b).1 hb) a ((hm a).1 ha)]
    have := lexC_anti a b
    omega
noncomputable def rowSteps (p : List Int → List Int → Bool) (xs : List (List Int)) (i : Nat) : List (Int × Int) := ((List.range' (i + 1) (xs.length - (i + 1))).filter fun j : Nat => p (rdL xs (i : Int)) (rdL xs (j : Int))).map fun j : Nat => ((i : Int), (j : Int))
noncomputable def stepsL (p : List Int → List Int → Bool) (xs : List (List Int)) : List (Int × Int) := (List.range' 0 xs.length).flatMap (rowSteps p xs)
theorem rowSteps_len (p : List Int → List Int → Bool) (xs : List (List Int)) (i : Nat) : (rowSteps p xs i).length ≤ xs.length := by
  unfold rowSteps
  rw [List.length_map]
  exact Nat.le_trans (List.length_filter_le ..) (by simp)
noncomputable def apartL (a b : List Int) : List Int := ((List.range' 0 a.length).filter fun i : Nat => decide (rdI a (i : Int) ≠ rdI b (i : Int))).map fun i : Nat => (i : Int)
noncomputable def isCh (a b : List Int) : Bool := decide ((apartL a b).length = 1)
theorem places_ap {N : Nat} {a b : List Int} (ha : a.length ≤ 1048576) (hab : a.length ≤ b.length) (hN : 1048577 ≤ N) : Zq43 N a b = some ((apartL a b, ()), ()) := by
  unfold Zq43
  rw [tLen_n]
  refine (loop_iter (L := fun K n o => Zq43_l0 N (fun o => some ((o, ()), ())) K b a (a.length : Int) n o) (k := fun o => some ((o, ()), ())) (Inv := fun n o => o.length ≤ n) (step := fun n o => if rdI a (n : Int) ≠ rdI b (n : Int) then o ++ [(n : Int)] else o) (fun K n s hn _ => ?_) (fun K n s hn hs => ?_) (fun n s hn h => ?_) (s := []) (m := a.length) (K := N) (by omega) (Nat.zero_le _)).trans ?_
  · simp only [Zq43_l0, ilt_nf hn, br_f]
  · simp only [Zq43_l0, ilt_n hn, br_t, inb_n hn, inb_n (show n < b.length by omega), chk_t]
    rw [wrap_succ (by omega), room_ok (by simp; omega), chk_t, tApp_d]
    by_cases h : rdI a (n : Int) = rdI b (n : Int)
    · rw [ine_f h.symm, br_f, if_neg (not_not_intro h)]
    · rw [ine_t (fun e => h e.symm), br_t, if_pos h]
  · by_cases hc : rdI a (n : Int) = rdI b (n : Int)
    · rw [if_neg (not_not_intro hc)]; omega
    · rw [if_pos hc]; simp; omega
  · rw [iter_app, List.nil_append]
    rfl
theorem isChange_eq {N : Nat} {a b : List Int} (ha : a.length ≤ 1048576) (hab : a.length ≤ b.length) (hN : 1048577 ≤ N) : Zq34 N a b = some ((isCh a b, ()), ()) := by
  unfold Zq34 isCh
  rw [places_ap ha hab hN, bind_some', tLen_n]
  congr 3
  by_cases h : (apartL a b).length = 1
  · rw [ieq_t (show ((apartL a b).length : Int) = 1 by omega), decide_eq_true h]
  · rw [ieq_f (show ((apartL a b).length : Int) ≠ 1 by omega), decide_eq_false h]
theorem spaceOf_g {N : Nat} {xs0 xs : List (List Int)} {is : List Int → List Int → Option Bool} {p : List Int → List Int → Bool} (hsort : Zq71 N xs0 () = some ((), (xs, ()))) (hs : lexSorted xs) (hx : xs.length < 1024) (hp : ∀ a ∈ xs, ∀ b ∈ xs, a ≠ b → is a b = some (p a b)) (hN : 1048577 ≤ N) :
    Zq44 N xs0 is = some (((xs, stepsL p xs), ()), ()) := by
  unfold Zq44
  rw [hsort, bind_some']
  simp only []
  rw [tLen_n]
  have hrd : ∀ j : Nat, j < xs.length → rdL xs (j : Int) ∈ xs := fun j hj => by rw [rdL_n hj]; exact List.getElem_mem hj
  have hne : ∀ i j : Nat, i < j → j < xs.length → rdL xs (i : Int) ≠ rdL xs (j : Int) := fun i j hij hj e => by
    have := List.pairwise_iff_getElem.1 hs i j (by omega) hj hij
    rw [rdL_n (show i < xs.length by omega), rdL_n hj] at e
    rw [e, lexC_self] at this
    omega
  have inner : ∀ (d i j K : Nat) (o : List (Int × Int)) (k0 : (List Int → List Int → Option Bool) → Int → Int → List (List Int) → List (Int × Int) → Option (((List (List Int) × List (Int × Int)) × Unit) × Unit)), i < xs.length → j + d = xs.length - (i + 1) → d < K → o.length + d ≤ 1099511627776 →
      Zq44_l0_0 N k0 K is (i : Int) (i : Int) (xs.length : Int) (i : Int) ((i + 1 : Nat) : Int) (xs.length : Int) ((xs.length - (i + 1) : Nat) : Int) (j : Int) xs o = k0 is (xs.length : Int) (i : Int) xs (o ++ ((List.range' (i + 1 + j) d).filter fun j : Nat => p (rdL xs (i : Int)) (rdL xs (j : Int))).map fun j : Nat => ((i : Int), (j : Int))) := by
    intro d
    induction d with
    | zero =>
      intro i j K o k0 hi hj hK ho
      obtain ⟨k, rfl⟩ := succ_of hK
      simp only [Zq44_l0_0, ilt_nf (show ¬ j < xs.length - (i + 1) by omega), br_f]
      simp
    | succ d ih =>
      intro i j K o k0 hi hj hK ho
      obtain ⟨k, rfl⟩ := succ_of hK
      have hj' : i + 1 + j < xs.length := by omega
      simp only [Zq44_l0_0, ilt_n (show j < xs.length - (i + 1) by omega), br_t]
      rw [ile_t (by omega), ilt_t (show (j : Int) < (xs.length : Int) - ((i + 1 : Nat) : Int) by omega)]
      simp only [Bool.and_self, chk_t]
      rw [show ((i + 1 : Nat) : Int) + (j : Int) = ((i + 1 + j : Nat) : Int) by omega, hp _ (hrd i hi) _ (hrd _ hj') (hne i _ (by omega) hj'), bind_some', wrap_succ (show i < 4611686018427387904 by omega), show ((i + 1 : Nat) : Int) + (j : Int) = ((i + 1 + j : Nat) : Int) by omega, wrap_ok (n := ((i + 1 + j : Nat) : Int)) (by omega) (by omega), room_ok (by simp; omega), chk_t, wrap_succ (by omega), tApp_d, List.range'_succ]
      cases hb : p (rdL xs (i : Int)) (rdL xs ((i + 1 + j : Nat) : Int)) with
      | true =>
        rw [br_t, ih i (j + 1) k _ k0 hi (by omega) (by omega) (by simp; omega), List.filter_cons_of_pos (by exact hb), List.append_assoc]
        rfl
      | false =>
        rw [br_f, ih i (j + 1) k _ k0 hi (by omega) (by omega) (by omega), List.filter_cons_of_neg (by rw [hb]; simp)]
        rfl
  have go : ∀ (d i K : Nat) (o : List (Int × Int)), i + d = xs.length → d < K → o.length ≤ i * xs.length →
      Zq44_l0 N (fun o o1 => some (((o, o1), ()), ())) K is (xs.length : Int) (i : Int) xs o = some (((xs, o ++ (List.range' i d).flatMap (rowSteps p xs)), ()), ()) := by
    intro d
    induction d with
    | zero =>
      intro i K o hd hK ho
      obtain ⟨k, rfl⟩ := succ_of hK
      simp only [Zq44_l0, ilt_nf (show ¬ i < xs.length by omega), br_f]
      simp
    | succ d ih =>
      intro i K o hd hK ho
      obtain ⟨k, rfl⟩ := succ_of hK
      have hi : i < xs.length := by omega
      have hmul : i * xs.length ≤ 1024 * 1024 := Nat.mul_le_mul (by omega) (by omega)
      simp only [Zq44_l0, ilt_n hi, br_t, inb_n hi, chk_t]
      rw [wrap_succ (by omega), tLen_n, ile_t (by omega), ile_t (by omega), ile_t (Int.le_refl _)]
      simp only [Bool.and_self, chk_t]
      rw [show (xs.length : Int) - ((i + 1 : Nat) : Int) = ((xs.length - (i + 1) : Nat) : Int) by omega]
      have h1 := inner (xs.length - (i + 1)) i 0 N o (fun isStep2 x2 x3 o2 o3 => Zq44_l0 N (fun o o1 => some (((o, o1), ()), ())) k isStep2 x2 (IntKind.i64.wrap (x3 + 1)) o2 o3) hi (by omega) (by omega) (by omega)
      simp only [Int.natCast_zero] at h1
      rw [h1, Nat.add_zero, wrap_succ (by omega)]
      have h2 := rowSteps_len p xs i
      have h3 := ih (i + 1) k (o ++ rowSteps p xs i) (by omega) (by omega) (by rw [List.length_append, Nat.add_mul, Nat.one_mul]; omega)
      rw [List.append_assoc] at h3
      rw [List.range'_succ, List.flatMap_cons]
      exact h3
  have := go xs.length 0 N [] (by omega) (by omega) (Nat.zero_le _)
  exact this
theorem spaceOf_ne {N : Nat} {xs : List (List Int)} {is : List Int → List Int → Option Bool} {p : List Int → List Int → Bool} (hs : lexSorted xs) (hl : ∀ x ∈ xs, x.length ≤ 1048576) (hx : xs.length < 1024) (hp : ∀ a ∈ xs, ∀ b ∈ xs, a ≠ b → is a b = some (p a b)) (hN : 1048577 ≤ N) :
    Zq44 N xs is = some (((xs, stepsL p xs), ()), ()) :=
  spaceOf_g (SortFunc_rows (by omega) hl (lex_nodup hs) hs (fun _ => Iff.rfl) hN) hs hx hp hN
theorem spaceOf_eq {N : Nat} {xs : List (List Int)} {is : List Int → List Int → Option Bool} {p : List Int → List Int → Bool} (hs : lexSorted xs) (hl : ∀ x ∈ xs, x.length ≤ 1048576) (hx : xs.length < 1024) (hp : ∀ a ∈ xs, ∀ b ∈ xs, is a b = some (p a b)) (hN : 1048577 ≤ N) :
    Zq44 N xs is = some (((xs, stepsL p xs), ()), ()) := spaceOf_ne hs hl hx (fun a ha b hb _ => hp a ha b hb) hN
theorem lexC_pre : ∀ (b u v : List Int), lexC (b ++ u) (b ++ v) = lexC u v := by
  intro b
  induction b with
  | nil => intro u v; rfl
  | cons x b ih => intro u v; simp [lexC, ih]
def BefC (d : Nat) (b : List Int) (l : List (List Int)) : Prop := lexSorted l ∧ ∀ x ∈ l, ∀ s : List Int, s.length = d → lexC x (b ++ s) < 0
theorem moreC_sorted {k : Nat} {es : List (Int × Int)} : ∀ (d : Nat) (b : List Int) (l : List (List Int)), BefC d b l → ∃ t, moreC k es d b l = l ++ t ∧ lexSorted (l ++ t) ∧ ∀ x ∈ t, ∃ s : List Int, s.length = d ∧ x = b ++ s ∧ ∀ z ∈ s, 0 ≤ z ∧ z < (k : Int) := by
  intro d
  induction d with
  | zero =>
    intro b l h
    refine ⟨[b], rfl, ?_, fun x hx => ?_⟩
    · refine List.pairwise_append.2 ⟨h.1, List.pairwise_singleton .., fun x hx y hy => ?_⟩
      simp at hy
      subst hy
      have := h.2 x hx [] rfl
      rwa [List.append_nil] at this
    · simp at hx
      subst hx
      exact ⟨[], rfl, by simp, by simp⟩
  | succ d ih =>
    intro b l h
    have go : ∀ (r c : Nat) (t : List (List Int)), c + r = k → lexSorted (l ++ t) → (∀ x ∈ t, ∃ (c' : Nat) (s : List Int), c' < c ∧ s.length = d ∧ x = b ++ (c' : Int) :: s ∧ ∀ z ∈ s, 0 ≤ z ∧ z < (k : Int)) →
        ∃ t', stepsC (fun c l => if freeC es b (c : Int) then moreC k es d (b ++ [(c : Int)]) l else l) r c (l ++ t) = l ++ t' ∧ lexSorted (l ++ t') ∧ ∀ x ∈ t', ∃ (c' : Nat) (s : List Int), c' < k ∧ s.length = d ∧ x = b ++ (c' : Int) :: s ∧ ∀ z ∈ s, 0 ≤ z ∧ z < (k : Int) := by
      intro r
      induction r with
      | zero =>
        intro c t hc ht hx
        refine ⟨t, rfl, ht, fun x hx' => ?_⟩
        obtain ⟨c', s, h1, h2⟩ := hx x hx'
        exact ⟨c', s, by omega, h2⟩
      | succ r ihr =>
        intro c t hc ht hx
        unfold stepsC
        by_cases h3 : (l ++ t).length ≤ 300
        · rw [if_pos h3]
          by_cases hf : freeC es b (c : Int)
          · rw [if_pos hf]
            obtain ⟨t2, e1, e2, e3⟩ := ih (b ++ [(c : Int)]) (l ++ t) ⟨ht, fun x hx' s hs => by
              rcases List.mem_append.1 hx' with hx' | hx'
              · have := h.2 x hx' ((c : Int) :: s) (by simp [hs])
                rw [List.append_assoc]
                exact this
              · obtain ⟨c', s', h1, h2, rfl, _⟩ := hx x hx'
                rw [List.append_assoc, lexC_pre]
                simp only [List.singleton_append, lexC]
                rw [if_pos (by omega)]
                decide⟩
            rw [e1, List.append_assoc]
            rw [List.append_assoc] at e2
            refine ihr (c + 1) (t ++ t2) (by omega) e2 fun x hx' => ?_
            rcases List.mem_append.1 hx' with hx' | hx'
            · obtain ⟨c', s', h1, h2⟩ := hx x hx'
              exact ⟨c', s', by omega, h2⟩
            · obtain ⟨s, g1, g2, g3⟩ := e3 x hx'
              exact ⟨c, s, by omega, g1, by rw [g2, List.append_assoc]; rfl, g3⟩
          · rw [if_neg hf]
            refine ihr (c + 1) t (by omega) ht fun x hx' => ?_
            obtain ⟨c', s', h1, h2⟩ := hx x hx'
            exact ⟨c', s', by omega, h2⟩
        · rw [if_neg h3]
          refine ⟨t, rfl, ht, fun x hx' => ?_⟩
          obtain ⟨c', s, h1, h2⟩ := hx x hx'
          exact ⟨c', s, by omega, h2⟩
    unfold moreC
    obtain ⟨t', e1, e2, e3⟩ := go k 0 [] (by omega) (by simpa using h.1) (by simp)
    rw [List.append_nil] at e1
    refine ⟨t', e1, e2, fun x hx => ?_⟩
    obtain ⟨c', s, h1, h2, h3, h4⟩ := e3 x hx
    refine ⟨(c' : Int) :: s, by simp [h2], h3, fun z hz => ?_⟩
    rcases List.mem_cons.1 hz with rfl | hz
    · omega
    · exact h4 z hz
theorem allC_sorted (g : Int × List (Int × Int)) (k : Int) : lexSorted (allC g k) ∧ ∀ x ∈ allC g k, ∀ z ∈ x, 0 ≤ z ∧ z < (k.toNat : Int) := by
  obtain ⟨t, e1, e2, e3⟩ := moreC_sorted (k := k.toNat) (es := g.2) g.1.toNat [] [] ⟨List.Pairwise.nil, by simp⟩
  unfold allC
  rw [e1]
  refine ⟨e2, fun x hx z hz => ?_⟩
  rw [List.nil_append] at hx
  obtain ⟨s, _, h2, h3⟩ := e3 x hx
  rw [h2, List.nil_append] at hz
  exact h3 z hz
theorem nodup_leL : ∀ {a b : List (List Int)}, a.Nodup → (∀ x ∈ a, x ∈ b) → a.length ≤ b.length := by
  intro a
  induction a with
  | nil => intro b _ _; exact Nat.zero_le _
  | cons x a ih =>
    intro b hn hs
    obtain ⟨h1, h2⟩ := List.nodup_cons.1 hn
    have hx := hs x (List.mem_cons_self ..)
    have := ih (b := b.erase x) h2 fun y hy => (List.mem_erase_of_ne (fun (e : y = x) => h1 (e ▸ hy))).2 (hs y (List.mem_cons_of_mem _ hy))
    rw [List.length_erase_of_mem hx] at this
    have := List.length_pos_of_mem hx
    rw [List.length_cons]
    omega
def numP (q : Nat → Bool) (s d : Nat) : Nat := ((List.range' s d).filter q).length
theorem numP_succ (q : Nat → Bool) (s d : Nat) : numP q s (d + 1) = numP q s d + if q (s + d) = true then 1 else 0 := by
  unfold numP
  rw [List.range'_1_concat, List.filter_append, List.length_append]
  congr 1
  by_cases h : q (s + d) = true <;> simp [h]
theorem numP_split (q : Nat → Bool) : ∀ (d s e : Nat), numP q s (d + e) = numP q s d + numP q (s + d) e := by
  intro d s e
  unfold numP
  rw [← List.range'_append_1, List.filter_append, List.length_append]
theorem sum_up (p : Nat → Nat → Bool) (hp : ∀ i j, p i j = p j i) : ∀ n, ((List.range' 0 n).map fun i : Nat => numP (p i) (i + 1) (n - (i + 1))).sum = ((List.range' 0 n).map fun i : Nat => numP (p i) 0 i).sum := by
  intro n
  induction n with
  | zero => rfl
  | succ n ih =>
    rw [List.range'_1_concat, List.map_append, List.sum_append, List.map_append, List.sum_append, ← ih]
    simp only [Nat.zero_add, List.map_cons, List.map_nil, List.sum_cons, List.sum_nil, Nat.add_zero]
    have e0 : numP (p n) (n + 1) (n + 1 - (n + 1)) = 0 := by rw [Nat.sub_self]; rfl
    rw [e0, Nat.add_zero]
    have key : ∀ m, m ≤ n → ((List.range' 0 m).map fun i : Nat => numP (p i) (i + 1) (n + 1 - (i + 1))).sum = ((List.range' 0 m).map fun i : Nat => numP (p i) (i + 1) (n - (i + 1))).sum + numP (p n) 0 m := by
      intro m
      induction m with
      | zero => intro _; rfl
      | succ m ihm =>
        intro hm
        rw [List.range'_1_concat, List.map_append, List.sum_append, List.map_append, List.sum_append, ihm (by omega), numP_succ (p n) 0 m]
        simp only [Nat.zero_add, List.map_cons, List.map_nil, List.sum_cons, List.sum_nil, Nat.add_zero]
        have := numP_succ (p m) (m + 1) (n - (m + 1))
        rw [show n - (m + 1) + 1 = n + 1 - (m + 1) by omega, show m + 1 + (n - (m + 1)) = n by omega] at this
        rw [this, hp m n]
        omega
    exact key n (Nat.le_refl n)
theorem sum_add {f g h : Nat → Nat} : ∀ (xs : List Nat), (∀ i ∈ xs, f i + g i ≤ h i) → (xs.map f).sum + (xs.map g).sum ≤ (xs.map h).sum := by
  intro xs
  induction xs with
  | nil => intro _; simp
  | cons x xs ih =>
    intro hh
    have h1 := hh x (List.mem_cons_self ..)
    have h2 := ih fun i hi => hh i (List.mem_cons_of_mem _ hi)
    simp only [List.map_cons, List.sum_cons]
    omega
theorem steps_half {p : List Int → List Int → Bool} {xs : List (List Int)} {B : Nat} (hsym : ∀ a ∈ xs, ∀ b ∈ xs, p a b = p b a) (hB : ∀ i, i < xs.length → numP (fun j : Nat => p (rdL xs (i : Int)) (rdL xs (j : Int))) 0 xs.length ≤ B) : 2 * (stepsL p xs).length ≤ xs.length * B := by
  have hrd : ∀ j : Nat, j < xs.length → rdL xs (j : Int) ∈ xs := fun j hj => by rw [rdL_n hj]; exact List.getElem_mem hj
  have e : (stepsL p xs).length = ((List.range' 0 xs.length).map fun i : Nat => numP (fun j : Nat => p (rdL xs (i : Int)) (rdL xs (j : Int))) (i + 1) (xs.length - (i + 1))).sum := by
    unfold stepsL
    rw [List.length_flatMap]
    congr 1
    refine List.map_congr_left fun i _ => ?_
    unfold rowSteps numP
    rw [List.length_map]
  have hp' := sum_up (fun i j : Nat => p (rdL xs (i : Int)) (rdL xs (j : Int)) && decide (i < xs.length) && decide (j < xs.length)) (fun i j => by
    by_cases hi : i < xs.length <;> by_cases hj : j < xs.length
    · rw [hsym _ (hrd i hi) _ (hrd j hj)]; simp [hi, hj]
    · simp [hi, hj]
    · simp [hi, hj]
    · simp [hi, hj]) xs.length
  have c1 : ∀ i, i < xs.length → ∀ s d, s + d ≤ xs.length → numP (fun j : Nat => p (rdL xs (i : Int)) (rdL xs (j : Int)) && decide (i < xs.length) && decide (j < xs.length)) s d = numP (fun j : Nat => p (rdL xs (i : Int)) (rdL xs (j : Int))) s d := by
    intro i hi s d hd
    unfold numP
    congr 1
    refine List.filter_congr fun j hj => ?_
    have := List.mem_range'_1.1 hj
    simp [hi, show j < xs.length by omega]
  have m1 : ((List.range' 0 xs.length).map fun i : Nat => numP (fun j : Nat => p (rdL xs (i : Int)) (rdL xs (j : Int)) && decide (i < xs.length) && decide (j < xs.length)) (i + 1) (xs.length - (i + 1))) = (List.range' 0 xs.length).map fun i : Nat => numP (fun j : Nat => p (rdL xs (i : Int)) (rdL xs (j : Int))) (i + 1) (xs.length - (i + 1)) :=
    List.map_congr_left fun i hi => by have := List.mem_range'_1.1 hi; exact c1 i (by omega) _ _ (by omega)
  have m2 : ((List.range' 0 xs.length).map fun i : Nat => numP (fun j : Nat => p (rdL xs (i : Int)) (rdL xs (j : Int)) && decide (i < xs.length) && decide (j < xs.length)) 0 i) = (List.range' 0 xs.length).map fun i : Nat => numP (fun j : Nat => p (rdL xs (i : Int)) (rdL xs (j : Int))) 0 i :=
    List.map_congr_left fun i hi => by have := List.mem_range'_1.1 hi; exact c1 i (by omega) _ _ (by omega)
  rw [m1, m2] at hp'
  have h3 := sum_add (f := fun i : Nat => numP (fun j : Nat => p (rdL xs (i : Int)) (rdL xs (j : Int))) 0 i) (g := fun i : Nat => numP (fun j : Nat => p (rdL xs (i : Int)) (rdL xs (j : Int))) (i + 1) (xs.length - (i + 1))) (h := fun i : Nat => numP (fun j : Nat => p (rdL xs (i : Int)) (rdL xs (j : Int))) 0 xs.length) (List.range' 0 xs.length) fun i hi => by
    have hi := List.mem_range'_1.1 hi
    have h1 := numP_split (fun j : Nat => p (rdL xs (i : Int)) (rdL xs (j : Int))) (i + 1) 0 (xs.length - (i + 1))
    rw [show i + 1 + (xs.length - (i + 1)) = xs.length by omega, Nat.zero_add] at h1
    have h2 := numP_succ (fun j : Nat => p (rdL xs (i : Int)) (rdL xs (j : Int))) 0 i
    rw [h1, h2]
    omega
  have h4 := sum_le (f := fun i : Nat => numP (fun j : Nat => p (rdL xs (i : Int)) (rdL xs (j : Int))) 0 xs.length) (b := B) (xs := List.range' 0 xs.length) fun i hi => hB i (by have := List.mem_range'_1.1 hi; omega)
  rw [List.length_range'] at h4
  rw [e]
  omega
theorem numP_le {p : List Int → Bool} {xs L : List (List Int)} (hs : xs.Nodup) (h : ∀ b ∈ xs, p b = true → b ∈ L) : numP (fun j : Nat => p (rdL xs (j : Int))) 0 xs.length ≤ L.length := by
  have e : numP (fun j : Nat => p (rdL xs (j : Int))) 0 xs.length = (xs.filter p).length := by
    have go : ∀ (ys zs : List (List Int)), numP (fun j : Nat => p (rdL (zs ++ ys) (j : Int))) zs.length ys.length = (ys.filter p).length := by
      intro ys
      induction ys with
      | nil => intro zs; rfl
      | cons y ys ih =>
        intro zs
        have h1 := ih (zs ++ [y])
        rw [List.append_assoc, List.singleton_append, List.length_append, List.length_singleton] at h1
        have h2 := numP_split (fun j : Nat => p (rdL (zs ++ y :: ys) (j : Int))) 1 zs.length ys.length
        rw [List.length_cons, Nat.add_comm ys.length 1, h2, h1]
        have h3 : rdL (zs ++ y :: ys) (zs.length : Int) = y := by rw [rdL_n (by simp)]; simp
        have h4 : numP (fun j : Nat => p (rdL (zs ++ y :: ys) (j : Int))) zs.length 1 = if p y = true then 1 else 0 := by
          unfold numP
          rw [List.range'_one]
          by_cases hy : p y = true <;> simp [hy, h3]
        rw [h4, List.filter_cons]
        by_cases hy : p y = true
        · rw [if_pos hy, if_pos hy, List.length_cons]; omega
        · rw [if_neg hy, if_neg hy]; omega
    exact go xs []
  rw [e]
  exact nodup_leL (List.Pairwise.filter _ hs) fun x hx => h x (List.mem_filter.1 hx).1 (List.mem_filter.1 hx).2
end Go.Proofs.YtkffaahlpdlkoaaGreat
