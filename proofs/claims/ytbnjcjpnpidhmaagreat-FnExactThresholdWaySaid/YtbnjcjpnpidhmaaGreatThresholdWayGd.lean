/- Statements on data alone. -/
import Derived.Test.YtbnjcjpnpidhmaaGreatPvPure
import Derived.Test.YtbnjcjpnpidhmaaGreatThresholdWayGc
set_option linter.all false
set_option linter.all false
namespace Go.Proofs.YtbnjcjpnpidhmaaGreat
open Go Go.PV Classical
theorem mem_masksL {m : Nat} {p : List Int → Bool} {s : List Int} : s ∈ masksL m p ↔ (∃ a : Nat, a < 2 ^ m ∧ s = setOf m a) ∧ p s = true := by
  unfold masksL
  rw [List.mem_map]
  constructor
  · rintro ⟨a, ha, rfl⟩
    obtain ⟨h1, h2⟩ := List.mem_filter.1 ha
    exact ⟨⟨a, by have := List.mem_range'_1.1 h1; omega, rfl⟩, h2⟩
  · rintro ⟨⟨a, h1, rfl⟩, h2⟩
    exact ⟨a, List.mem_filter.2 ⟨List.mem_range'_1.2 (by omega), h2⟩, rfl⟩
theorem masksL_len (m : Nat) (p : List Int → Bool) : (masksL m p).length ≤ 2 ^ m := by
  unfold masksL
  rw [List.length_map]
  exact Nat.le_trans (List.length_filter_le ..) (by simp)
theorem masksL_nodup (m : Nat) (p : List Int → Bool) : (masksL m p).Nodup := by
  unfold masksL
  refine List.pairwise_map.2 (List.Pairwise.imp_of_mem (R := fun a b => a ≠ b) ?_ (List.Pairwise.filter _ ((List.pairwise_lt_range' (step := 1) (by omega)).imp fun {a b} h => by omega)))
  intro a b ha hb hab e
  have h1 := List.mem_range'_1.1 (List.mem_filter.1 ha).1
  have h2 := List.mem_range'_1.1 (List.mem_filter.1 hb).1
  exact hab (setOf_inj (by omega) (by omega) e)
theorem sets_eq {N m : Nat} {es : List (Int × Int)} {is : Int → Option Bool} {p : List Int → Bool} {ys : List (List Int)} (hm : m ≤ 8) (hp : ∀ a : Nat, a < 2 ^ m → is (a : Int) = some (p (setOf m a))) (hs : lexSorted ys) (hy : ∀ s, s ∈ ys ↔ (∃ a : Nat, a < 2 ^ m ∧ s = setOf m a) ∧ p s = true) (hN : 1048577 ≤ N) :
    impl_Graph_sets N ((m : Int), es) is = some ((ys, ()), ()) := by
  have h256 := pow256 hm
  have hpos : 0 < 2 ^ m := Nat.pow_pos (by omega)
  have go := loop_iter (L := fun K n o => impl_Graph_sets_l0 N (fun o => ((slices_SortFunc_LLI_LI_kslices_Compare_LI_int N o ()).bind fun r => some ((r.2.1, ()), ()))) K is (n : Int) (m : Int) es o) (k := fun o => ((slices_SortFunc_LLI_LI_kslices_Compare_LI_int N o ()).bind fun r => some ((r.2.1, ()), ()))) (Inv := fun n o => o.length ≤ n) (step := fun n o => if p (setOf m n) = true then o ++ [setOf m n] else o) (m := 2 ^ m) (fun K n o hn ho => ?_) (fun K n o hn ho => ?_) (fun n o hn ho => ?_) (K := N) (s := []) (by omega) (Nat.zero_le _)
  · simp only [Int.natCast_zero] at go
    unfold impl_Graph_sets
    simp only []
    rw [go, iter_map (f := setOf m) (p := fun n => p (setOf m n)), List.nil_append]
    have := masksL_len m p
    have := SortFunc_rows (N := N) (xs := masksL m p) (ys := ys) (by omega) (fun x hx => by
      obtain ⟨⟨a, _, rfl⟩, _⟩ := mem_masksL.1 hx
      have := setOf_len m a
      omega) (masksL_nodup m p) hs (fun s => by rw [hy s, mem_masksL]) hN
    unfold masksL at this
    rw [this]
    rfl
  · simp only [impl_Graph_sets_l0, impl_Graph_all]
    have e : ile (n : Int) ((2 ^ m - 1 : Nat) : Int) = false := ile_f (by omega)
    rw [ile_t (by omega), chk_t, all8 m hm, bind_some']
    simp only [e, br_f]
  · simp only [impl_Graph_sets_l0, impl_Graph_all]
    have e : ile (n : Int) ((2 ^ m - 1 : Nat) : Int) = true := ile_t (by omega)
    have ew : IntKind.u64.wrap ((n : Int) + 1) = ((n + 1 : Nat) : Int) := by
      have := wrap64 (n := n + 1) (by omega)
      rwa [show ((n + 1 : Nat) : Int) = (n : Int) + 1 by omega] at this ⊢
    rw [ile_t (by omega), chk_t, all8 m hm, bind_some']
    simp only [e, br_t]
    rw [hp n hn, bind_some', bag_list_eq hm hn hN, bind_some', room_ok (by simp; omega), chk_t, ew, tApp_d]
    cases p (setOf m n) <;> rfl
  · by_cases h : p (setOf m n) = true
    · rw [if_pos h]; simp; omega
    · rw [if_neg h]; omega
def sizeLt (a b : List Int) : Prop := a.length < b.length ∨ (a.length = b.length ∧ lexC a b < 0)
theorem l4Sets_in {R : Type} {N m : Nat} {es : List (Int × Int)} {kind : Int} {size : Nat} {o12 : List (List Int)} {k0 : Int → Int → Int → List (Int × Int) → List (List Int) → List (List Int) → Option R} (hm : m ≤ 8) (hx : es.length ≤ 1048576) (hN : 1048577 ≤ N) :
    spec_l4Sets_l0_0 N k0 N kind (size : Int) 0 (m : Int) es o12 [] = k0 kind (size : Int) (m : Int) es o12 (masksL m fun s => decide (s.length = size ∧ hasK m es kind s)) := by
  have h256 := pow256 hm
  have hpos : 0 < 2 ^ m := Nat.pow_pos (by omega)
  have hsh := shl8i m (by omega)
  have go := loop_iter (L := fun K n o => spec_l4Sets_l0_0 N k0 K kind (size : Int) (n : Int) (m : Int) es o12 o) (k := fun o => k0 kind (size : Int) (m : Int) es o12 o) (Inv := fun n o => o.length ≤ n) (step := fun n o => if decide ((setOf m n).length = size ∧ hasK m es kind (setOf m n)) = true then o ++ [setOf m n] else o) (m := 2 ^ m) (fun K n o hn ho => ?_) (fun K n o hn ho => ?_) (fun n o hn ho => ?_) (K := N) (s := []) (by omega) (Nat.zero_le _)
  · simp only [Int.natCast_zero] at go
    rw [go, iter_map (f := setOf m) (p := fun n => decide ((setOf m n).length = size ∧ hasK m es kind (setOf m n))), List.nil_append]
    rfl
  · simp only [spec_l4Sets_l0_0]
    rw [ile_t (by omega), chk_t, hsh, ilt_nf hn, br_f]
  · have hsl := setOf_len m n
    simp only [spec_l4Sets_l0_0]
    rw [ile_t (by omega), chk_t, hsh, ilt_n hn, br_t, l2Bits_set hm (by omega) hN, bind_some']
    simp only [tLen_n]
    by_cases h1 : (setOf m n).length = size
    · rw [ieq_t (by omega), br_t, l4Has_eq hm hx (by omega) hN, bind_some', wrap_succ (by omega)]
      simp only []
      by_cases h2 : hasK m es kind (setOf m n)
      · rw [decide_eq_true h2, br_t, room_ok (by simp; omega), chk_t, if_pos (decide_eq_true ⟨h1, h2⟩), tApp_d]
      · rw [decide_eq_false h2, br_f, if_neg (by simp [h2])]
    · rw [ieq_f (by omega), br_f, wrap_succ (by omega), if_neg (by simp [h1])]
  · by_cases h : decide ((setOf m n).length = size ∧ hasK m es kind (setOf m n)) = true
    · rw [if_pos h]; simp; omega
    · rw [if_neg h]; omega
theorem l4Sets_eq {N m : Nat} {es : List (Int × Int)} {kind : Int} (hm : m ≤ 8) (hx : es.length ≤ 1048576) (hN : 1048577 ≤ N) :
    ∃ L, spec_l4Sets N ((m : Int), es) kind = some ((L, ()), ()) ∧ L.Pairwise sizeLt ∧ L.length ≤ 2304 ∧ ∀ s, s ∈ L ↔ (∃ a : Nat, a < 2 ^ m ∧ s = setOf m a) ∧ hasK m es kind s := by
  have h256 := pow256 hm
  have go : ∀ (d k K : Nat) (o : List (List Int)), k + d = m + 1 → d < K → o.length ≤ 256 * k → o.Pairwise sizeLt → (∀ s, s ∈ o ↔ ((∃ a : Nat, a < 2 ^ m ∧ s = setOf m a) ∧ hasK m es kind s) ∧ s.length < k) →
      ∃ L, spec_l4Sets_l0 N (fun o7 => some ((o7, ()), ())) K kind (k : Int) (m : Int) es o = some ((L, ()), ()) ∧ L.Pairwise sizeLt ∧ L.length ≤ 2304 ∧ ∀ s, s ∈ L ↔ (∃ a : Nat, a < 2 ^ m ∧ s = setOf m a) ∧ hasK m es kind s := by
    intro d
    induction d with
    | zero =>
      intro k K o hd hK hl hp hm'
      obtain ⟨K, rfl⟩ := succ_of hK
      simp only [spec_l4Sets_l0]
      rw [ile_f (by omega), br_f]
      refine ⟨o, rfl, hp, by omega, fun s => ?_⟩
      rw [hm' s]
      refine ⟨fun h => h.1, fun h => ⟨h, ?_⟩⟩
      obtain ⟨⟨a, _, rfl⟩, _⟩ := h
      have := setOf_len m a
      omega
    | succ d ih =>
      intro k K o hd hK hl hp hm'
      obtain ⟨K, rfl⟩ := succ_of hK
      simp only [spec_l4Sets_l0]
      rw [ile_t (by omega), br_t, l4Sets_in hm hx hN]
      have h1 := masksL_len m fun s => decide (s.length = k ∧ hasK m es kind s)
      obtain ⟨ys, y1, y2, y3⟩ := l2Sorted_eq (N := N) (xs := masksL m fun s => decide (s.length = k ∧ hasK m es kind s)) (by omega) (fun x hx => by
        obtain ⟨⟨a, _, rfl⟩, _⟩ := mem_masksL.1 hx
        have := setOf_len m a
        omega) hN
      have y4 : ∀ s, s ∈ ys ↔ ((∃ a : Nat, a < 2 ^ m ∧ s = setOf m a) ∧ hasK m es kind s) ∧ s.length = k := fun s => by
        rw [y3 s, mem_masksL, decide_eq_true_eq]
        exact ⟨fun ⟨h1, h2, h3⟩ => ⟨⟨h1, h3⟩, h2⟩, fun ⟨⟨h1, h2⟩, h3⟩ => ⟨h1, h3, h2⟩⟩
      have yl : ys.length ≤ 2 ^ m := Nat.le_trans (nodup_leL (lex_nodup y2) fun x hx => (y3 x).1 hx) h1
      rw [y1, bind_some']
      simp only []
      rw [room_ok (by omega), chk_t, wrap_succ (by omega), tApp_d]
      refine ih (k + 1) K (o ++ ys) (by omega) (by omega) (by simp; omega) (List.pairwise_append.2 ⟨hp, y2.imp_of_mem fun {a b} ha hb hab => .inr ⟨by rw [((y4 a).1 ha).2, ((y4 b).1 hb).2], hab⟩, fun a ha b hb => .inl ?_⟩) fun s => ?_
      · have q1 := ((hm' a).1 ha).2
        have q2 := ((y4 b).1 hb).2
        omega
      · rw [List.mem_append, hm' s, y4 s]
        constructor
        · rintro (⟨h1, h2⟩ | ⟨h1, h2⟩)
          · exact ⟨h1, by omega⟩
          · exact ⟨h1, by omega⟩
        · rintro ⟨h1, h2⟩
          by_cases h : s.length = k
          · exact .inr ⟨h1, h⟩
          · exact .inl ⟨h1, by omega⟩
  have := go (m + 1) 0 N [] (by omega) (by omega) (by simp) List.Pairwise.nil (by simp)
  exact this
/-! ### What differs -/
noncomputable def loneL (a b : List Int) : List Int := a.filter fun z => decide (z ∉ b)
theorem asc_ext {a b : List Int} (ha : a.Pairwise (· < ·)) (hb : b.Pairwise (· < ·)) (h : ∀ z, z ∈ a ↔ z ∈ b) : a = b := by
  have na : a.Nodup := ha.imp fun h e => by omega
  have nb : b.Nodup := hb.imp fun h e => by omega
  have hp := (List.perm_ext_iff_of_nodup na nb).2 h
  clear h na nb
  induction a generalizing b with
  | nil => exact (List.nil_perm.1 hp).symm
  | cons x a ih =>
    cases b with
    | nil => exact absurd (List.perm_nil.1 hp) (by simp)
    | cons y b =>
      obtain ⟨a1, a2⟩ := List.pairwise_cons.1 ha
      obtain ⟨b1, b2⟩ := List.pairwise_cons.1 hb
      have e : x = y := by
        have h1 : x ∈ y :: b := hp.mem_iff.1 (List.mem_cons_self ..)
        have h2 : y ∈ x :: a := hp.mem_iff.2 (List.mem_cons_self ..)
        rcases List.mem_cons.1 h1 with h1 | h1
        · exact h1
        · rcases List.mem_cons.1 h2 with h2 | h2
          · exact h2.symm
          · have := a1 y h2
            have := b1 x h1
            omega
      subst e
      rw [ih a2 b2 (List.Perm.cons_inv hp)]
theorem bagOf_set {N m A : Nat} (hm : m ≤ 8) (hA : A < 2 ^ m) (hN : 1048577 ≤ N) : impl_bagOf N (setOf m A) = some (((A : Int), ()), ()) := by
  have h256 := pow256 hm
  have hsl := setOf_len m A
  obtain ⟨q, q1, q2, q3⟩ := bagOf_eq (N := N) (xs := setOf m A) (fun y hy => by obtain ⟨i, hi, _, rfl⟩ := mem_setOf.1 hy; omega) (by omega) hN
  have : q = A := by
    refine Nat.eq_of_testBit_eq fun i => ?_
    have h1 := q3 i
    rw [mem_setN] at h1
    by_cases hi : i < m
    · cases h2 : q.testBit i <;> cases h3 : A.testBit i <;> simp_all
    · rw [bit_out hA (by omega)]
      cases h2 : q.testBit i with
      | false => rfl
      | true => have := (h1.1 h2).1; omega
  rw [q1, this]
theorem less_set {m A B : Nat} (hm : m ≤ 8) (hA : A < 2 ^ m) (hB : B < 2 ^ m) : ∃ c : Nat, bitop .andNot .u64 (A : Int) (B : Int) = (c : Int) ∧ c < 2 ^ m ∧ setOf m c = loneL (setOf m A) (setOf m B) := by
  have h256 := pow256 hm
  obtain ⟨c, c1, c2, c3⟩ := lessN (a := A) (b := B) (by omega) (by omega)
  have hc : c < 2 ^ m := Nat.lt_pow_two_of_testBit _ fun i hi => by rw [c3 i, bit_out hA hi]; rfl
  refine ⟨c, c1, hc, asc_ext (setOf_strict m c) ((setOf_strict m A).filter _) fun z => ?_⟩
  unfold loneL
  rw [List.mem_filter, decide_eq_true_eq]
  constructor
  · intro hz
    obtain ⟨i, h1, h2, rfl⟩ := mem_setOf.1 hz
    rw [c3 i, Bool.and_eq_true] at h2
    refine ⟨mem_setN.2 ⟨h1, h2.1⟩, fun h => ?_⟩
    have := (mem_setN.1 h).2
    rw [this] at h2
    exact absurd h2.2 (by simp)
  · rintro ⟨h1, h2⟩
    obtain ⟨i, h3, h4, rfl⟩ := mem_setOf.1 h1
    refine mem_setN.2 ⟨h3, ?_⟩
    rw [c3 i, h4]
    cases h5 : B.testBit i with
    | false => rfl
    | true => exact absurd (mem_setN.2 ⟨h3, h5⟩) h2
theorem moves_eq {N m A B : Nat} (hm : m ≤ 8) (hA : A < 2 ^ m) (hB : B < 2 ^ m) (hN : 1048577 ≤ N) : ∃ x y : Nat, impl_moves N (setOf m A) (setOf m B) = some (((x : Int), (y : Int), ()), ()) ∧ x < 2 ^ m ∧ y < 2 ^ m ∧ setOf m x = loneL (setOf m A) (setOf m B) ∧ setOf m y = loneL (setOf m B) (setOf m A) := by
  obtain ⟨x, x1, x2, x3⟩ := less_set hm hA hB
  obtain ⟨y, y1, y2, y3⟩ := less_set hm hB hA
  refine ⟨x, y, ?_, x2, y2, x3, y3⟩
  unfold impl_moves
  rw [bagOf_set hm hA hN, bagOf_set hm hB hN, bind_some', bind_some']
  simp only []
  rw [x1, y1]
theorem lex_small {m : Nat} {ys : List (List Int)} (hs : lexSorted ys) (h : ∀ s ∈ ys, ∃ a : Nat, a < 2 ^ m ∧ s = setOf m a) : ys.length ≤ 2 ^ m := by
  have := nodup_leL (lex_nodup hs) (b := masksL m fun _ => true) fun x hx => mem_masksL.2 ⟨h x hx, rfl⟩
  exact Nat.le_trans this (masksL_len ..)
theorem l1Put_ro {N : Nat} {o : List Int} {n : Int} (ho : o.length ≤ 1048576) (hN : 1048577 ≤ N) : spec_l1Put_ro0_ro N o n = some ((putI n o, ()), ()) := by
  have go : ∀ (q p : List Int) (K : Nat), q.length < K → (p ++ q).length ≤ 1048576 → spec_l1Put_ro0_ro_l0 N (fun o n1 kv => (br (ilt kv (tLen o))
    ((chk (inb o kv)
      (br (ieq (rdI o kv) n1)
      (some ((o, ()), ()))
      ((chk (ile 0 0 && ile 0 kv && ile kv (tLen o))
        (chk (room (α := Int) (β := Int) [] (tCut o 0 kv))
        (chk (room (tApp [] (tCut o 0 kv)) [n1])
        (chk (ile 0 kv && ile kv (tLen o) && ile (tLen o) (tLen o))
        (chk (room (tApp (tApp [] (tCut o 0 kv)) [n1]) (tCut o kv (tLen o)))
        (some (((tApp (tApp (tApp [] (tCut o 0 kv)) [n1]) (tCut o kv (tLen o))), ()), ())))))))))))
    ((chk (ile 0 0 && ile 0 kv && ile kv (tLen o))
      (chk (room (α := Int) (β := Int) [] (tCut o 0 kv))
      (chk (room (tApp [] (tCut o 0 kv)) [n1])
      (chk (ile 0 kv && ile kv (tLen o) && ile (tLen o) (tLen o))
      (chk (room (tApp (tApp [] (tCut o 0 kv)) [n1]) (tCut o kv (tLen o)))
      (some (((tApp (tApp (tApp [] (tCut o 0 kv)) [n1]) (tCut o kv (tLen o))), ()), ())))))))))) K (p ++ q) n ((p.length : Nat) : Int) = some ((p ++ putI n q, ()), ()) := by
    intro q
    have cuts : ∀ p q : List Int, tCut (p ++ q) 0 ((p.length : Nat) : Int) = p ∧ tCut (p ++ q) ((p.length : Nat) : Int) (tLen (p ++ q)) = q := fun p q => ⟨by simp [tCut], by rw [tLen_n, tCut_n, List.take_length, List.drop_left]⟩
    have c1 : ∀ p q : List Int, (ile 0 0 && ile 0 ((p.length : Nat) : Int) && ile ((p.length : Nat) : Int) (tLen (p ++ q))) = true := fun p q => by
      rw [ile_t (Int.le_refl 0), ile_t (by omega), ile_t (by simp [tLen]; omega)]; rfl
    have c2 : ∀ p q : List Int, (ile 0 ((p.length : Nat) : Int) && ile ((p.length : Nat) : Int) (tLen (p ++ q)) && ile (tLen (p ++ q)) (tLen (p ++ q))) = true := fun p q => by
      rw [ile_t (Int.le_refl (tLen _)), ile_t (by omega), ile_t (by simp [tLen]; omega)]; rfl
    induction q with
    | nil =>
      intro p K hK hl
      obtain ⟨k, rfl⟩ := succ_of hK
      have hlt : ¬ p.length < (p ++ ([] : List Int)).length := by simp
      simp only [spec_l1Put_ro0_ro_l0, ilt_lenf hlt, br_f, (cuts p []).1, (cuts p []).2, c1, c2, chk_t]
      rw [room_ok (by simp at hl ⊢; omega), room_ok (by simp [tApp] at hl ⊢; omega), room_ok (by simp [tApp] at hl ⊢; omega), chk_t, chk_t, chk_t]
      simp [tApp, putI]
    | cons y q ih =>
      intro p K hK hl
      obtain ⟨k, rfl⟩ := succ_of hK
      have hlt : p.length < (p ++ y :: q).length := by simp
      simp only [spec_l1Put_ro0_ro_l0, ilt_len hlt, br_t, inb_n hlt, chk_t, rdI_mid]
      by_cases hy : y < n
      · have := ih (p ++ [y]) k (by simp at hK; omega) (by simpa using hl)
        rw [ilt_t hy, br_t, wrap_succ (by simp at hl; omega)]
        simp only [List.append_assoc, List.singleton_append, List.length_append, List.length_singleton] at this
        rw [this]
        simp [putI, hy]
      · rw [ilt_f hy, br_f]
        by_cases hyn : y = n
        · rw [ieq_t hyn, br_t]
          simp [putI, hy, hyn]
        · rw [ieq_f hyn, br_f, c1, chk_t, c2, chk_t, (cuts p (y :: q)).1, (cuts p (y :: q)).2]
          rw [room_ok (by simp at hl ⊢; omega), room_ok (by simp [tApp] at hl ⊢; omega), room_ok (by simp [tApp] at hl ⊢; omega), chk_t, chk_t, chk_t]
          simp [tApp, putI, hy, hyn]
  unfold spec_l1Put_ro0_ro
  exact go o [] N (by omega) (by simpa using ho)
theorem index_out {N : Nat} {xs : List (List Int)} {st : List (Int × Int)} {a : List Int} (hx : xs.length ≤ 1048576) (hl : ∀ x ∈ xs, x.length ≤ 1048576) (ha : a ∉ xs) (hN : 1048577 ≤ N) :
    spec_l2Index N (xs, st) a = some (((-1), ()), ()) := by
  unfold spec_l2Index
  simp only []
  have go : ∀ (d n K : Nat), n + d = xs.length → d < K → spec_l2Index_l0 N (fun x1 => some ((x1, ()), ())) (fun (_ : Unit) => some (((-1), ()), ())) K a (n : Int) xs st = some (((-1), ()), ()) := by
    intro d
    induction d with
    | zero =>
      intro n K hd hK
      obtain ⟨k, rfl⟩ := succ_of hK
      simp only [spec_l2Index_l0, ilt_lenf (show ¬ n < xs.length by omega), br_f]
    | succ d ih =>
      intro n K hd hK
      obtain ⟨k, rfl⟩ := succ_of hK
      have hn : n < xs.length := by omega
      have hne : ¬ rdL xs (n : Int) = a := by rw [rdL_n hn]; intro e; exact ha (e ▸ List.getElem_mem hn)
      simp only [spec_l2Index_l0, ilt_len hn, br_t, inb_n hn, chk_t]
      rw [l1Same_eq (hl _ (by rw [rdL_n hn]; exact List.getElem_mem hn)) hN, bind_some', decide_eq_false hne, br_f, wrap_succ (by omega)]
      exact ih (n + 1) k (by omega) (by omega)
  exact go xs.length 0 N (by omega) (by omega)
theorem l4Without_eq {N : Nat} {a : List Int} {x : Int} (ha : a.length ≤ 1048576) (hN : 1048577 ≤ N) : spec_l4Without N a x = some ((a.filter (fun z => decide (z ≠ x)), ()), ()) := by
  unfold spec_l4Without
  have key := loop_list (xs := a) (L := fun K n o => spec_l4Without_l0 N (fun o => some ((o, ()), ())) K a x (n : Int) o) (k := fun o => some ((o, ()), ())) (fun (o : List Int) z => if decide (z ≠ x) = true then o ++ [z] else o) (fun n o => o = (a.take n).filter fun z => decide (z ≠ x)) (fun K n o hn ho => ?_) (fun K n o hn ho => ?_) (fun n o hn ho => ?_) (s := []) (K := N) (by omega) (by simp)
  · obtain ⟨h1, h2⟩ := key
    simp only [Int.natCast_zero] at h1
    rw [h1, h2, List.take_length]
  · simp only [spec_l4Without_l0, ilt_lenf hn, br_f]
  · have hol : o.length ≤ n := by
      rw [ho]
      exact Nat.le_trans (List.length_filter_le ..) (by simp; omega)
    simp only [spec_l4Without_l0, ilt_len hn, br_t, inb_n hn, chk_t, rdI_n hn]
    rw [wrap_succ (by omega)]
    by_cases h : a[n] = x
    · rw [ine_f h, br_f, if_neg (by simp [h])]
    · rw [ine_t h, br_t, room_ok (by simp; omega), chk_t, tApp_d, if_pos (by simp [h])]
  · rw [List.take_add_one, List.getElem?_eq_getElem hn, Option.toList_some, List.filter_append, ← ho]
    by_cases h : a[n] = x
    · rw [if_neg (by simp [h]), List.filter_cons_of_neg (by simp [h])]; simp
    · rw [if_pos (by simp [h]), List.filter_cons_of_pos (by simp [h])]; rfl
theorem xor_bit {A x i : Nat} : (A ^^^ 2 ^ x).testBit i = (A.testBit i ^^ decide (x = i)) := by rw [Nat.testBit_xor, Nat.testBit_two_pow]
theorem xor_lt {m A x : Nat} (hA : A < 2 ^ m) (hx : x < m) : A ^^^ 2 ^ x < 2 ^ m := Nat.xor_lt_two_pow hA (Nat.pow_lt_pow_right (by omega) hx)
theorem l4Turned_eq {N m A x : Nat} (hm : m ≤ 8) (hA : A < 2 ^ m) (hx : x < m) (hN : 1048577 ≤ N) : spec_l4Turned N (setOf m A) (x : Int) = some ((setOf m (A ^^^ 2 ^ x), ()), ()) := by
  have hsl := setOf_len m A
  have hl : (setOf m A).length ≤ 1048576 := by omega
  unfold spec_l4Turned
  rw [l1Has_eq hl hN, bind_some']
  simp only []
  by_cases h : (x : Int) ∈ setOf m A
  · rw [decide_eq_true h, br_t, l4Without_eq hl hN, bind_some']
    have hb := (mem_setN.1 h).2
    congr 3
    refine asc_ext ((setOf_strict m A).filter _) (setOf_strict m _) fun z => ?_
    rw [List.mem_filter, decide_eq_true_eq]
    constructor
    · rintro ⟨h1, h2⟩
      obtain ⟨i, h3, h4, rfl⟩ := mem_setOf.1 h1
      have : x ≠ i := fun e => h2 (by rw [e])
      exact mem_setN.2 ⟨h3, by rw [xor_bit, h4]; simp [this]⟩
    · intro h1
      obtain ⟨i, h3, h4, rfl⟩ := mem_setOf.1 h1
      rw [xor_bit] at h4
      by_cases e : x = i
      · subst e; rw [hb] at h4; simp at h4
      · simp [e] at h4
        exact ⟨mem_setN.2 ⟨h3, h4⟩, by omega⟩
  · rw [decide_eq_false h, br_f, l1Put_ro hl hN, bind_some']
    have hb : A.testBit x = false := Bool.eq_false_iff.2 fun h' => h (mem_setN.2 ⟨hx, h'⟩)
    congr 3
    refine asc_ext (putI_strict (setOf_strict m A)) (setOf_strict m _) fun z => ?_
    rw [putI_mem]
    constructor
    · rintro (rfl | h1)
      · exact mem_setN.2 ⟨hx, by rw [xor_bit, hb]; simp⟩
      · obtain ⟨i, h3, h4, rfl⟩ := mem_setOf.1 h1
        have : x ≠ i := fun e => by subst e; rw [hb] at h4; cases h4
        exact mem_setN.2 ⟨h3, by rw [xor_bit, h4]; simp [this]⟩
    · intro h1
      obtain ⟨i, h3, h4, rfl⟩ := mem_setOf.1 h1
      rw [xor_bit] at h4
      by_cases e : x = i
      · subst e; exact .inl rfl
      · simp [e] at h4
        exact .inr (mem_setN.2 ⟨h3, h4⟩)
/-! ### Pairs put in order -/
def pairsUp (o : List (Int × Int)) : Prop := o.Pairwise edgeLt
theorem edgeLt_trans {a b c : Int × Int} (h1 : edgeLt a b) (h2 : edgeLt b c) : edgeLt a c := by unfold edgeLt at *; omega
theorem edgeLt_irr (a : Int × Int) : ¬ edgeLt a a := by unfold edgeLt; omega
theorem edgeLt_tot {a b : Int × Int} (h : ¬ edgeLt a b) (hne : a ≠ b) : edgeLt b a := by
  unfold edgeLt at *
  by_cases h1 : a.1 = b.1
  · by_cases h2 : a.2 = b.2
    · exact absurd (Prod.ext h1 h2) hne
    · omega
  · omega
theorem pairs_ext {a b : List (Int × Int)} (ha : pairsUp a) (hb : pairsUp b) (h : ∀ e, e ∈ a ↔ e ∈ b) : a = b := by
  unfold pairsUp at ha hb
  have na : a.Nodup := ha.imp fun {x y} h e => by subst e; exact edgeLt_irr _ h
  have nb : b.Nodup := hb.imp fun {x y} h e => by subst e; exact edgeLt_irr _ h
  have hp := (List.perm_ext_iff_of_nodup na nb).2 h
  clear h na nb
  induction a generalizing b with
  | nil => exact (List.nil_perm.1 hp).symm
  | cons x a ih =>
    cases b with
    | nil => exact absurd (List.perm_nil.1 hp) (by simp)
    | cons y b =>
      obtain ⟨a1, a2⟩ := List.pairwise_cons.1 ha
      obtain ⟨b1, b2⟩ := List.pairwise_cons.1 hb
      have e : x = y := by
        have h1 : x ∈ y :: b := hp.mem_iff.1 (List.mem_cons_self ..)
        have h2 : y ∈ x :: a := hp.mem_iff.2 (List.mem_cons_self ..)
        rcases List.mem_cons.1 h1 with h1 | h1
        · exact h1
        · rcases List.mem_cons.1 h2 with h2 | h2
          · exact h2.symm
          · exact absurd (edgeLt_trans (a1 y h2) (b1 x h1)) (edgeLt_irr x)
      subst e
      rw [ih a2 b2 (List.Perm.cons_inv hp)]
theorem putPair_eq {N : Nat} {o : List (Int × Int)} {e : Int × Int} (ho : pairsUp o) (hl : o.length ≤ 1048576) (hN : 1048577 ≤ N) : ∃ o', spec_l2PutPair N o e = some ((o', ()), ()) ∧ pairsUp o' ∧ (∀ f, f ∈ o' ↔ f ∈ o ∨ f = e) ∧ o'.length ≤ o.length + 1 := by
  unfold pairsUp at ho
  have find : ∀ (k K : Nat) (k0 : Int → List (Int × Int) → Int → Int → Option ((List (Int × Int) × Unit) × Unit)), k < K → k ≤ o.length → (∀ j (h : j < o.length), k ≤ j → edgeLt e o[j]) →
      ∃ k2 : Nat, k2 ≤ o.length ∧ (∀ j (h : j < o.length), j < k2 → ¬ edgeLt e o[j]) ∧ (∀ j (h : j < o.length), k2 ≤ j → edgeLt e o[j]) ∧ spec_l2PutPair_l0 N k0 K (k : Int) o e.1 e.2 = k0 (k2 : Int) o e.1 e.2 := by
    intro k
    induction k with
    | zero =>
      intro K k0 hK hk h
      obtain ⟨K, rfl⟩ := succ_of hK
      refine ⟨0, hk, fun j h1 h2 => absurd h2 (Nat.not_lt_zero j), h, ?_⟩
      simp only [spec_l2PutPair_l0, Int.natCast_zero]
      rw [ilt_f (by decide), br_f]
    | succ k ih =>
      intro K k0 hK hk h
      obtain ⟨K, rfl⟩ := succ_of hK
      have hko : k < o.length := by omega
      simp only [spec_l2PutPair_l0]
      rw [ilt_t (by omega), br_t, wrap_pred (by omega) (by omega), show k + 1 - 1 = k by omega, inb_n hko, chk_t, rdP_n hko, l2Edge_eq, bind_some']
      simp only [show ((e.1, e.2) : Int × Int) = e from rfl]
      by_cases hc : edgeLt e o[k]
      · rw [decide_eq_true hc, br_t]
        exact ih K k0 (by omega) (by omega) fun j hj hkj => by
          by_cases he : j = k
          · subst he; exact hc
          · exact h j hj (by omega)
      · rw [decide_eq_false hc, br_f]
        refine ⟨k + 1, hk, fun j hj hjk => ?_, h, rfl⟩
        by_cases he : j = k
        · subst he; exact hc
        · have := List.pairwise_iff_getElem.1 ho j k hj hko (by omega)
          exact fun h2 => hc (edgeLt_trans h2 this)
  unfold spec_l2PutPair
  obtain ⟨k, k1, k2, k3, k4⟩ := find o.length N (fun kv o o1 o2 => (br (ilt 0 kv)
    ((chk (inb o (IntKind.i64.wrap (kv - 1)))
      (br (ieq ((rdP o (IntKind.i64.wrap (kv - 1))).1) o1 && ieq ((rdP o (IntKind.i64.wrap (kv - 1))).2) o2)
      (some ((o, ()), ()))
      ((chk (ile 0 0 && ile 0 kv && ile kv (tLen o))
        (chk (room (α := (Int × Int)) (β := (Int × Int)) [] (tCut o 0 kv))
        (chk (room (tApp [] (tCut o 0 kv)) [(o1, o2)])
        (chk (ile 0 kv && ile kv (tLen o) && ile (tLen o) (tLen o))
        (chk (room (tApp (tApp [] (tCut o 0 kv)) [(o1, o2)]) (tCut o kv (tLen o)))
        (some (((tApp (tApp (tApp [] (tCut o 0 kv)) [(o1, o2)]) (tCut o kv (tLen o))), ()), ())))))))))))
    ((chk (ile 0 0 && ile 0 kv && ile kv (tLen o))
      (chk (room (α := (Int × Int)) (β := (Int × Int)) [] (tCut o 0 kv))
      (chk (room (tApp [] (tCut o 0 kv)) [(o1, o2)])
      (chk (ile 0 kv && ile kv (tLen o) && ile (tLen o) (tLen o))
      (chk (room (tApp (tApp [] (tCut o 0 kv)) [(o1, o2)]) (tCut o kv (tLen o)))
      (some (((tApp (tApp (tApp [] (tCut o 0 kv)) [(o1, o2)]) (tCut o kv (tLen o))), ()), ())))))))))) (by omega) (Nat.le_refl _) (fun j hj h => by omega)
  rw [tLen_n, k4]
  have hcut0 : tCut o 0 (k : Int) = o.take k := by have := tCut_n o 0 k; simpa using this
  have hcutk : tCut o (k : Int) (tLen o) = o.drop k := by rw [tLen_n, tCut_n, List.take_of_length_le (Nat.le_refl _)]
  have h1 : (ile 0 0 && ile 0 (k : Int) && ile (k : Int) (tLen o)) = true := by rw [ile_t (Int.le_refl _), ile_t (by omega), tLen_n, ile_t (by omega)]; rfl
  have h2 : (ile 0 (k : Int) && ile (k : Int) (tLen o) && ile (tLen o) (tLen o)) = true := by rw [ile_t (by omega), tLen_n, ile_t (by omega), ile_t (Int.le_refl _)]; rfl
  have r1 : room (α := Int × Int) (β := Int × Int) [] (o.take k) = true := room_ok (by rw [List.length_take, List.length_nil]; omega)
  have r2 : room (tApp [] (o.take k)) [(e.1, e.2)] = true := room_ok (by simp only [tApp, List.nil_append, List.length_take, List.length_singleton]; omega)
  have r3 : room (tApp (tApp [] (o.take k)) [(e.1, e.2)]) (o.drop k) = true := room_ok (by simp only [tApp, List.nil_append, List.length_append, List.length_take, List.length_drop, List.length_singleton]; omega)
  have ee : tApp (tApp (tApp [] (o.take k)) [(e.1, e.2)]) (o.drop k) = o.take k ++ e :: o.drop k := by simp [tApp]
  have hput : (∀ j (h : j < o.length), j < k → o[j] ≠ e) → pairsUp (o.take k ++ e :: o.drop k) ∧ (∀ f, f ∈ o.take k ++ e :: o.drop k ↔ f ∈ o ∨ f = e) ∧ (o.take k ++ e :: o.drop k).length ≤ o.length + 1 := by
    intro hne
    refine ⟨List.pairwise_append.2 ⟨ho.sublist (List.take_sublist ..), List.pairwise_cons.2 ⟨fun y hy => ?_, ho.sublist (List.drop_sublist ..)⟩, fun a ha b hb => ?_⟩, fun s => ?_, by simp; omega⟩
    · obtain ⟨j, hj, rfl⟩ := List.getElem_of_mem hy
      rw [List.getElem_drop]
      exact k3 _ (by simp at hj; omega) (by omega)
    · obtain ⟨j, hj, rfl⟩ := List.getElem_of_mem ha
      have hj' : j < k ∧ j < o.length := by simp at hj; omega
      rw [List.getElem_take]
      have hax : edgeLt o[j] e := edgeLt_tot (k2 j hj'.2 hj'.1) (fun q => hne j hj'.2 hj'.1 q.symm)
      rcases List.mem_cons.1 hb with rfl | hb
      · exact hax
      · obtain ⟨l, hl', rfl⟩ := List.getElem_of_mem hb
        rw [List.getElem_drop]
        exact List.pairwise_iff_getElem.1 ho _ _ hj'.2 (by simp at hl'; omega) (by omega)
    · rw [List.mem_append, List.mem_cons]
      have := List.take_append_drop k o
      constructor
      · rintro (h | h | h)
        · exact .inl (List.mem_of_mem_take h)
        · exact .inr h
        · exact .inl (List.mem_of_mem_drop h)
      · rintro (h | h)
        · rw [← this, List.mem_append] at h
          rcases h with h | h
          · exact .inl h
          · exact .inr (.inr h)
        · exact .inr (.inl h)
  by_cases hk0 : k = 0
  · subst hk0
    have e0 : ilt 0 ((0 : Nat) : Int) = false := rfl
    rw [e0, br_f, h1, chk_t, hcut0, r1, chk_t, r2, chk_t, h2, chk_t, hcutk, r3, chk_t, ee]
    exact ⟨_, rfl, hput fun j h h0 => absurd h0 (Nat.not_lt_zero j)⟩
  · have hk' : k - 1 < o.length := by omega
    rw [ilt_t (by omega), br_t, wrap_pred (by omega) (by omega), inb_n hk', chk_t, rdP_n hk']
    by_cases he : o[k - 1] = e
    · rw [he, ieq_t rfl, ieq_t rfl]
      simp only [Bool.and_self, br_t]
      refine ⟨o, rfl, ho, fun f => ⟨.inl, ?_⟩, by omega⟩
      rintro (h | h)
      · exact h
      · rw [h, ← he]; exact List.getElem_mem hk'
    · have hb : (ieq o[k - 1].1 e.1 && ieq o[k - 1].2 e.2) = false := by
        by_cases q1 : o[k - 1].1 = e.1
        · by_cases q2 : o[k - 1].2 = e.2
          · exact absurd (Prod.ext q1 q2) he
          · rw [ieq_f q2, Bool.and_false]
        · rw [ieq_f q1]; rfl
      rw [hb, br_f, h1, chk_t, hcut0, r1, chk_t, r2, chk_t, h2, chk_t, hcutk, r3, chk_t, ee]
      refine ⟨_, rfl, hput fun j h hj q => ?_⟩
      by_cases hj1 : j = k - 1
      · subst hj1; exact he q
      · have := List.pairwise_iff_getElem.1 ho j (k - 1) h hk' (by omega)
        rw [q] at this
        exact k2 (k - 1) hk' (by omega) this
theorem mem_stepsL {p : List Int → List Int → Bool} {xs : List (List Int)} {e : Int × Int} : e ∈ stepsL p xs ↔ ∃ i j : Nat, e = ((i : Int), (j : Int)) ∧ i < j ∧ j < xs.length ∧ p (rdL xs (i : Int)) (rdL xs (j : Int)) = true := by
  unfold stepsL rowSteps
  rw [List.mem_flatMap]
  constructor
  · rintro ⟨i, hi, he⟩
    obtain ⟨j, hj, rfl⟩ := List.mem_map.1 he
    obtain ⟨h1, h2⟩ := List.mem_filter.1 hj
    have := List.mem_range'_1.1 h1
    exact ⟨i, j, rfl, by omega, by omega, h2⟩
  · rintro ⟨i, j, rfl, h1, h2, h3⟩
    exact ⟨i, List.mem_range'_1.2 (by omega), List.mem_map.2 ⟨j, List.mem_filter.2 ⟨List.mem_range'_1.2 (by omega), h3⟩, rfl⟩⟩
/-! ### A node added or taken away -/
noncomputable def addP (a b : List Int) : Bool := decide ((loneL a b).length + (loneL b a).length = 1)
theorem mem_lone {a b : List Int} {z : Int} : z ∈ loneL a b ↔ z ∈ a ∧ z ∉ b := by
  unfold loneL
  rw [List.mem_filter, decide_eq_true_eq]
theorem addP_iff {m A B : Nat} (hA : A < 2 ^ m) (hB : B < 2 ^ m) : addP (setOf m A) (setOf m B) = true ↔ ∃ x, x < m ∧ B = A ^^^ 2 ^ x := by
  unfold addP
  rw [decide_eq_true_eq]
  have one : ∀ {C D : Nat}, C < 2 ^ m → D < 2 ^ m → (loneL (setOf m C) (setOf m D)).length = 1 → (loneL (setOf m D) (setOf m C)).length = 0 → ∃ x, x < m ∧ D = C ^^^ 2 ^ x := by
    intro C D hC hD h1 h2
    obtain ⟨z, hz⟩ := List.length_eq_one_iff.1 h1
    have h2 := List.eq_nil_of_length_eq_zero h2
    have hzm : z ∈ setOf m C ∧ z ∉ setOf m D := mem_lone.1 (by rw [hz]; simp)
    obtain ⟨x, hx, hxb, rfl⟩ := mem_setOf.1 hzm.1
    refine ⟨x, hx, Nat.eq_of_testBit_eq fun i => ?_⟩
    rw [xor_bit]
    by_cases hi : i < m
    · by_cases e : x = i
      · subst e
        rw [hxb]
        have : D.testBit x = false := Bool.eq_false_iff.2 fun h => hzm.2 (mem_setN.2 ⟨hx, h⟩)
        rw [this]
        simp
      · have q1 : D.testBit i = true → C.testBit i = true := fun h => by
          by_cases hc : (i : Int) ∈ setOf m C
          · exact (mem_setN.1 hc).2
          · have : (i : Int) ∈ loneL (setOf m D) (setOf m C) := mem_lone.2 ⟨mem_setN.2 ⟨hi, h⟩, hc⟩
            rw [h2] at this
            cases this
        have q2 : C.testBit i = true → D.testBit i = true := fun h => by
          by_cases hd : (i : Int) ∈ setOf m D
          · exact (mem_setN.1 hd).2
          · have : (i : Int) ∈ loneL (setOf m C) (setOf m D) := mem_lone.2 ⟨mem_setN.2 ⟨hi, h⟩, hd⟩
            rw [hz] at this
            simp at this
            omega
        cases h3 : C.testBit i <;> cases h4 : D.testBit i <;> simp_all
    · rw [bit_out hD (by omega), bit_out hC (by omega)]
      simp
      omega
  have back : ∀ {C : Nat} {x : Nat}, C < 2 ^ m → x < m → C.testBit x = true → (loneL (setOf m C) (setOf m (C ^^^ 2 ^ x))).length = 1 ∧ (loneL (setOf m (C ^^^ 2 ^ x)) (setOf m C)).length = 0 := by
    intro C x hC hx hb
    constructor
    · have : loneL (setOf m C) (setOf m (C ^^^ 2 ^ x)) = [(x : Int)] := by
        refine asc_ext ((setOf_strict m C).filter _) (List.pairwise_singleton ..) fun z => ?_
        refine (mem_lone (a := setOf m C) (b := setOf m (C ^^^ 2 ^ x)) (z := z)).trans ?_
        rw [List.mem_singleton]
        constructor
        · rintro ⟨h1, h2⟩
          obtain ⟨i, h3, h4, rfl⟩ := mem_setOf.1 h1
          by_cases e : x = i
          · rw [e]
          · exact absurd (mem_setN.2 ⟨h3, by rw [xor_bit, h4]; simp [e]⟩) h2
        · rintro rfl
          refine ⟨mem_setN.2 ⟨hx, hb⟩, fun h => ?_⟩
          have := (mem_setN.1 h).2
          rw [xor_bit, hb] at this
          simp at this
      rw [this]
      rfl
    · have : loneL (setOf m (C ^^^ 2 ^ x)) (setOf m C) = [] := by
        refine List.eq_nil_iff_forall_not_mem.2 fun z hz => ?_
        obtain ⟨h1, h2⟩ := mem_lone.1 hz
        obtain ⟨i, h3, h4, rfl⟩ := mem_setOf.1 h1
        rw [xor_bit] at h4
        by_cases e : x = i
        · subst e; rw [hb] at h4; simp at h4
        · simp [e] at h4
          exact h2 (mem_setN.2 ⟨h3, h4⟩)
      rw [this]
      rfl
  have xx : ∀ (C x : Nat), (C ^^^ 2 ^ x) ^^^ 2 ^ x = C := fun C x => by rw [Nat.xor_assoc, Nat.xor_self, Nat.xor_zero]
  constructor
  · intro h
    by_cases h1 : (loneL (setOf m A) (setOf m B)).length = 1
    · exact one hA hB h1 (by omega)
    · obtain ⟨x, hx, hxe⟩ := one hB hA (by omega) (by omega)
      exact ⟨x, hx, by rw [hxe, xx]⟩
  · rintro ⟨x, hx, rfl⟩
    cases hb : A.testBit x with
    | true =>
      obtain ⟨h1, h2⟩ := back hA hx hb
      omega
    | false =>
      obtain ⟨h1, h2⟩ := back hB hx (by rw [xor_bit, hb]; simp)
      rw [xx] at h1 h2
      omega
theorem isAdding_eq {N m A B : Nat} (hm : m ≤ 8) (hA : A < 2 ^ m) (hB : B < 2 ^ m) (hN : 1048577 ≤ N) : impl_isAdding N (setOf m A) (setOf m B) = some ((addP (setOf m A) (setOf m B), ()), ()) := by
  obtain ⟨x, y, h1, x1, y1, x2, y2⟩ := moves_eq hm hA hB hN
  have l1 := setOf_len m x
  have l2 := setOf_len m y
  unfold impl_isAdding addP
  rw [h1, bind_some']
  simp only []
  rw [bag_size_eq hm x1, bag_size_eq hm y1, bind_some', bind_some']
  simp only []
  rw [wrap_ok (by omega) (by omega), x2, y2]
  congr 3
  by_cases h : (loneL (setOf m A) (setOf m B)).length + (loneL (setOf m B) (setOf m A)).length = 1
  · rw [ieq_t (by omega), decide_eq_true h]
  · rw [ieq_f (by omega), decide_eq_false h]
def fitsP (kind : Int) (size : Nat) (k : Int) : Prop := if kind = 2 then k ≤ (size : Int) else (size : Int) ≤ k
theorem l4Fits_eq {N : Nat} {kind k : Int} {size : Nat} : spec_l4Fits N kind (size : Int) k = some ((decide (fitsP kind size k), ()), ()) := by
  unfold spec_l4Fits fitsP
  by_cases h : kind = 2
  · rw [ieq_t h, br_t]
    simp only [if_pos h]
    by_cases q : k ≤ (size : Int)
    · rw [ile_t q, decide_eq_true q]
    · rw [ile_f q, decide_eq_false q]
  · rw [ieq_f h, br_f]
    simp only [if_neg h]
    by_cases q : (size : Int) ≤ k
    · rw [ile_t q, decide_eq_true q]
    · rw [ile_f q, decide_eq_false q]
def ThSt (m : Nat) (es : List (Int × Int)) (kind k : Int) (ys : List (List Int)) : Prop := lexSorted ys ∧ ∀ s, s ∈ ys ↔ (∃ a : Nat, a < 2 ^ m ∧ s = setOf m a) ∧ hasK m es kind s ∧ fitsP kind s.length k
theorem filt_thr {R : Type} {N : Nat} {L : List (List Int)} {kind k : Int} {m : Int} {es : List (Int × Int)} {k0 : Int → List (Int × Int) → List (List Int) → Option R} (hL : L.length ≤ 1048576) (hN : 1048577 ≤ N) :
    spec_l4Threshold_l0 N k0 N kind k L 0 m es [] = k0 m es (L.filter fun s => decide (fitsP kind s.length k)) := by
  have key := loop_list (xs := L) (L := fun K n o => spec_l4Threshold_l0 N k0 K kind k L (n : Int) m es o) (k := fun o => k0 m es o) (fun (o : List (List Int)) z => if decide (fitsP kind z.length k) = true then o ++ [z] else o) (fun n o => o = (L.take n).filter fun s => decide (fitsP kind s.length k)) (fun K n o hn ho => ?_) (fun K n o hn ho => ?_) (fun n o hn ho => ?_) (s := []) (K := N) (by omega) (by simp)
  · obtain ⟨h1, h2⟩ := key
    simp only [Int.natCast_zero] at h1
    rw [h1, h2, List.take_length]
  · simp only [spec_l4Threshold_l0, ilt_lenf hn, br_f]
  · have hol : o.length ≤ n := by
      rw [ho]
      exact Nat.le_trans (List.length_filter_le ..) (by simp; omega)
    simp only [spec_l4Threshold_l0, ilt_len hn, br_t, inb_n hn, chk_t, rdL_n hn]
    rw [tLen_n, l4Fits_eq, bind_some', wrap_succ (by omega)]
    simp only []
    by_cases h : fitsP kind L[n].length k
    · rw [decide_eq_true h, br_t, room_ok (by simp; omega), chk_t, tApp_d, if_pos rfl]
    · rw [decide_eq_false h, br_f, if_neg (by simp)]
  · rw [List.take_add_one, List.getElem?_eq_getElem hn, Option.toList_some, List.filter_append, ← ho]
    by_cases h : fitsP kind L[n].length k
    · rw [if_pos (decide_eq_true h), List.filter_cons_of_pos (by simp [h])]; rfl
    · rw [if_neg (by simp [h]), List.filter_cons_of_neg (by simp [h])]; simp
theorem thr_in {R : Type} {N m i : Nat} {es : List (Int × Int)} {xs : List (List Int)} {k0 : Int → Int → List (Int × Int) → List (List Int) → List (Int × Int) → Option R} (hm : m ≤ 8) (hs : lexSorted xs) (hin : ∀ s ∈ xs, ∃ a : Nat, a < 2 ^ m ∧ s = setOf m a) (hi : i < xs.length) (hx : xs.length < 1024) (hN : 1048577 ≤ N) :
    ∀ (d x K : Nat) (o : List (Int × Int)), x + d = m → d < K → pairsUp o → o.length + d ≤ 1048576 →
      ∃ o', spec_l4Threshold_l1_0 N k0 K (i : Int) (x : Int) (m : Int) es xs o = k0 (i : Int) (m : Int) es xs o' ∧ pairsUp o' ∧ o'.length ≤ o.length + d ∧ ∀ f, f ∈ o' ↔ f ∈ o ∨ ∃ (j y A : Nat), f = ((i : Int), (j : Int)) ∧ i < j ∧ j < xs.length ∧ x ≤ y ∧ y < m ∧ A < 2 ^ m ∧ rdL xs (i : Int) = setOf m A ∧ rdL xs (j : Int) = setOf m (A ^^^ 2 ^ y) := by
  have hrows : ∀ s ∈ xs, s.length ≤ 1048576 := fun s h => by obtain ⟨a, _, rfl⟩ := hin s h; have := setOf_len m a; omega
  obtain ⟨A, hA, hAe⟩ := hin _ (show rdL xs (i : Int) ∈ xs by rw [rdL_n hi]; exact List.getElem_mem hi)
  intro d
  induction d with
  | zero =>
    intro x K o hd hK ho hl
    obtain ⟨K, rfl⟩ := succ_of hK
    refine ⟨o, ?_, ho, by omega, fun f => ⟨.inl, ?_⟩⟩
    · simp only [spec_l4Threshold_l1_0, ilt_nf (show ¬ x < m by omega), br_f]
    · rintro (h | ⟨j, y, B, _, _, _, h1, h2, _⟩)
      · exact h
      · omega
  | succ d ih =>
    intro x K o hd hK ho hl
    obtain ⟨K, rfl⟩ := succ_of hK
    have hxm : x < m := by omega
    simp only [spec_l4Threshold_l1_0, ilt_n hxm, br_t, inb_n hi, chk_t]
    have hT : spec_l4Turned N (rdL xs (i : Int)) (x : Int) = some ((setOf m (A ^^^ 2 ^ x), ()), ()) := by rw [hAe]; exact l4Turned_eq hm hA hxm hN
    rw [hT, bind_some']
    simp only []
    by_cases hmem : setOf m (A ^^^ 2 ^ x) ∈ xs
    · rw [index_in (by omega) hrows hmem hN, bind_some']
      simp only []
      have hj := idx_lt hmem
      have hjr := idx_rd hmem
      by_cases hij : i < xs.idxOf (setOf m (A ^^^ 2 ^ x))
      · rw [ilt_n hij, br_t]
        obtain ⟨o1, p1, p2, p3, p4⟩ := putPair_eq (N := N) (e := ((i : Int), ((xs.idxOf (setOf m (A ^^^ 2 ^ x)) : Nat) : Int))) ho (by omega) hN
        rw [p1, bind_some']
        simp only []
        rw [wrap_succ (by omega)]
        obtain ⟨o', q1, q2, q3, q4⟩ := ih (x + 1) K o1 (by omega) (by omega) p2 (by omega)
        refine ⟨o', q1, q2, by omega, fun f => ?_⟩
        rw [q4 f, p3 f]
        constructor
        · rintro ((h | h) | ⟨j, y, B, h1, h2, h3, h4, h5, h6, h7, h8⟩)
          · exact .inl h
          · exact .inr ⟨_, x, A, h, hij, hj, Nat.le_refl _, hxm, hA, hAe, hjr⟩
          · exact .inr ⟨j, y, B, h1, h2, h3, by omega, h5, h6, h7, h8⟩
        · rintro (h | ⟨j, y, B, h1, h2, h3, h4, h5, h6, h7, h8⟩)
          · exact .inl (.inl h)
          · by_cases hy : y = x
            · subst hy
              have hBA : B = A := setOf_inj h6 hA (by rw [← h7, hAe])
              subst hBA
              refine .inl (.inr ?_)
              have : j = xs.idxOf (setOf m (B ^^^ 2 ^ y)) := by
                rw [rdL_n h3] at h8
                rw [rdL_n hj] at hjr
                exact (List.getElem_inj (lex_nodup hs)).1 (h8.trans hjr.symm)
              rw [h1, this]
            · exact .inr ⟨j, y, B, h1, h2, h3, by omega, h5, h6, h7, h8⟩
      · rw [ilt_nf hij, br_f, wrap_succ (by omega)]
        obtain ⟨o', q1, q2, q3, q4⟩ := ih (x + 1) K o (by omega) (by omega) ho (by omega)
        refine ⟨o', q1, q2, by omega, fun f => ?_⟩
        rw [q4 f]
        constructor
        · rintro (h | ⟨j, y, B, h1, h2, h3, h4, h5⟩)
          · exact .inl h
          · exact .inr ⟨j, y, B, h1, h2, h3, by omega, h5⟩
        · rintro (h | ⟨j, y, B, h1, h2, h3, h4, h5, h6, h7, h8⟩)
          · exact .inl h
          · by_cases hy : y = x
            · subst hy
              have hBA : B = A := setOf_inj h6 hA (by rw [← h7, hAe])
              subst hBA
              have : j = xs.idxOf (setOf m (B ^^^ 2 ^ y)) := by
                rw [rdL_n h3] at h8
                rw [rdL_n hj] at hjr
                exact (List.getElem_inj (lex_nodup hs)).1 (h8.trans hjr.symm)
              omega
            · exact .inr ⟨j, y, B, h1, h2, h3, by omega, h5, h6, h7, h8⟩
    · rw [index_out (by omega) hrows hmem hN, bind_some']
      simp only []
      rw [ilt_f (by omega), br_f, wrap_succ (by omega)]
      obtain ⟨o', q1, q2, q3, q4⟩ := ih (x + 1) K o (by omega) (by omega) ho (by omega)
      refine ⟨o', q1, q2, by omega, fun f => ?_⟩
      rw [q4 f]
      constructor
      · rintro (h | ⟨j, y, B, h1, h2, h3, h4, h5⟩)
        · exact .inl h
        · exact .inr ⟨j, y, B, h1, h2, h3, by omega, h5⟩
      · rintro (h | ⟨j, y, B, h1, h2, h3, h4, h5, h6, h7, h8⟩)
        · exact .inl h
        · by_cases hy : y = x
          · subst hy
            have hBA : B = A := setOf_inj h6 hA (by rw [← h7, hAe])
            subst hBA
            exact absurd (by rw [← h8, rdL_n h3]; exact List.getElem_mem h3) hmem
          · exact .inr ⟨j, y, B, h1, h2, h3, by omega, h5, h6, h7, h8⟩
theorem thr_loop {N m : Nat} {es : List (Int × Int)} {xs : List (List Int)} (hm : m ≤ 8) (hs : lexSorted xs) (hin : ∀ s ∈ xs, ∃ a : Nat, a < 2 ^ m ∧ s = setOf m a) (hx : xs.length < 1024) (hN : 1048577 ≤ N) :
    spec_l4Threshold_l1 N (fun o6 o7 => some (((o6, o7), ()), ())) N 0 (m : Int) es xs [] = some (((xs, stepsL addP xs), ()), ()) := by
  have go : ∀ (d i K : Nat) (o : List (Int × Int)), i + d = xs.length → d < K → pairsUp o → o.length ≤ 8 * i → (∀ f, f ∈ o ↔ ∃ (k j y A : Nat), f = ((k : Int), (j : Int)) ∧ k < i ∧ k < j ∧ j < xs.length ∧ y < m ∧ A < 2 ^ m ∧ rdL xs (k : Int) = setOf m A ∧ rdL xs (j : Int) = setOf m (A ^^^ 2 ^ y)) →
      ∃ o', spec_l4Threshold_l1 N (fun o6 o7 => some (((o6, o7), ()), ())) K (i : Int) (m : Int) es xs o = some (((xs, o'), ()), ()) ∧ pairsUp o' ∧ ∀ f, f ∈ o' ↔ ∃ (k j y A : Nat), f = ((k : Int), (j : Int)) ∧ k < xs.length ∧ k < j ∧ j < xs.length ∧ y < m ∧ A < 2 ^ m ∧ rdL xs (k : Int) = setOf m A ∧ rdL xs (j : Int) = setOf m (A ^^^ 2 ^ y) := by
    intro d
    induction d with
    | zero =>
      intro i K o hd hK ho hl hf
      obtain ⟨K, rfl⟩ := succ_of hK
      have e : i = xs.length := by omega
      subst e
      refine ⟨o, ?_, ho, hf⟩
      simp only [spec_l4Threshold_l1, ilt_lenf (Nat.lt_irrefl _), br_f]
    | succ d ih =>
      intro i K o hd hK ho hl hf
      obtain ⟨K, rfl⟩ := succ_of hK
      have hi : i < xs.length := by omega
      simp only [spec_l4Threshold_l1, ilt_len hi, br_t]
      obtain ⟨o1, p1, p2, p3, p4⟩ := thr_in (R := ((List (List Int) × List (Int × Int)) × Unit) × Unit) (es := es) (k0 := fun x5 o10 o11 o12 o13 => spec_l4Threshold_l1 N (fun o6 o7 => some (((o6, o7), ()), ())) K (IntKind.i64.wrap (x5 + 1)) o10 o11 o12 o13) hm hs hin hi hx hN m 0 N o (by omega) (by omega) ho (by omega)
      simp only [Int.natCast_zero] at p1
      rw [p1, wrap_succ (by omega)]
      refine ih (i + 1) K o1 (by omega) (by omega) p2 (by omega) fun f => ?_
      rw [p4 f, hf f]
      constructor
      · rintro (⟨k, j, y, A, h1, h2, h3⟩ | ⟨j, y, A, h1, h2, h3, h4, h5, h6⟩)
        · exact ⟨k, j, y, A, h1, by omega, h3⟩
        · exact ⟨i, j, y, A, h1, by omega, h2, h3, h5, h6⟩
      · rintro ⟨k, j, y, A, h1, h2, h3, h4, h5, h6⟩
        by_cases hk : k = i
        · subst hk
          exact .inr ⟨j, y, A, h1, h3, h4, Nat.zero_le _, h5, h6⟩
        · exact .inl ⟨k, j, y, A, h1, by omega, h3, h4, h5, h6⟩
  obtain ⟨o, h1, h2, h3⟩ := go xs.length 0 N [] (by omega) (by omega) List.Pairwise.nil (by simp) (fun f => by simp)
  simp only [Int.natCast_zero] at h1
  rw [h1]
  have : o = stepsL addP xs := by
    refine pairs_ext h2 ((stepsL_ok (p := addP) (xs := xs)).1) fun f => ?_
    rw [h3 f, mem_stepsL]
    constructor
    · rintro ⟨k, j, y, A, e1, e2, e3, e4, e5, e6, e7, e8⟩
      exact ⟨k, j, e1, e3, e4, by rw [e7, e8]; exact (addP_iff e6 (xor_lt e6 e5)).2 ⟨y, e5, rfl⟩⟩
    · rintro ⟨k, j, e1, e3, e4, e5⟩
      obtain ⟨A, hA, hAe⟩ := hin _ (show rdL xs (k : Int) ∈ xs by rw [rdL_n (by omega)]; exact List.getElem_mem _)
      obtain ⟨B, hB, hBe⟩ := hin _ (show rdL xs (j : Int) ∈ xs by rw [rdL_n e4]; exact List.getElem_mem _)
      rw [hAe, hBe] at e5
      obtain ⟨x, hx', hxe⟩ := (addP_iff hA hB).1 e5
      exact ⟨k, j, x, A, e1, by omega, e3, e4, hx', hA, hAe, by rw [hBe, hxe]⟩
  rw [this]
theorem l4Thr_eq {N m : Nat} {es : List (Int × Int)} {kind k : Int} (hm : m ≤ 8) (hx : es.length ≤ 1048576) (hN : 1048577 ≤ N) : ∃ ys, ThSt m es kind k ys ∧ spec_l4Threshold N ((m : Int), es) kind k = some (((ys, stepsL addP ys), ()), ()) := by
  have h256 := pow256 hm
  obtain ⟨L, l1, l2, l3, l4⟩ := l4Sets_eq (kind := kind) hm hx hN
  have hLr : ∀ x ∈ L.filter (fun s => decide (fitsP kind s.length k)), x.length ≤ 1048576 := fun x hx => by
    obtain ⟨⟨a, _, rfl⟩, _⟩ := (l4 x).1 (List.mem_filter.1 hx).1
    have := setOf_len m a
    omega
  have hLl := List.length_filter_le (fun s : List Int => decide (fitsP kind s.length k)) L
  obtain ⟨ys, y1, y2, y3⟩ := l2Sorted_eq (N := N) (xs := L.filter fun s => decide (fitsP kind s.length k)) (by omega) hLr hN
  have hst : ThSt m es kind k ys := ⟨y2, fun s => by rw [y3 s, List.mem_filter, l4 s, decide_eq_true_eq, and_assoc]⟩
  have hin : ∀ s ∈ ys, ∃ a : Nat, a < 2 ^ m ∧ s = setOf m a := fun s hs => ((hst.2 s).1 hs).1
  have hsm := lex_small y2 hin
  refine ⟨ys, hst, ?_⟩
  unfold spec_l4Threshold
  simp only []
  rw [l1, bind_some']
  simp only []
  rw [filt_thr (by omega) hN, y1, bind_some']
  simp only []
  exact thr_loop hm y2 hin (by omega) hN
theorem threshold_eq {N m : Nat} {es : List (Int × Int)} {kind k : Int} {ys : List (List Int)} (hm : m ≤ 8) (hg : goodG ((m : Int), es)) (hx : es.length ≤ 1048576) (hst : ThSt m es kind k ys) (hN : 1048577 ≤ N) : impl_Graph_threshold N ((m : Int), es) kind k = some (((ys, stepsL addP ys), ()), ()) := by
  have hin : ∀ s ∈ ys, ∃ a : Nat, a < 2 ^ m ∧ s = setOf m a := fun s hs => ((hst.2 s).1 hs).1
  have hsm := lex_small hst.1 hin
  have h256 := pow256 hm
  unfold impl_Graph_threshold
  simp only []
  rw [sets_eq (p := fun s => decide (hasK m es kind s ∧ fitsP kind s.length k)) hm (fun a ha => ?_) hst.1 (fun s => by rw [hst.2 s, decide_eq_true_eq]) hN, bind_some']
  · simp only []
    rw [spaceOf_g (xs := ys) (p := addP) (SortFunc_rows (by omega) (fun x hx => by obtain ⟨a, _, rfl⟩ := hin x hx; have := setOf_len m a; omega) (lex_nodup hst.1) hst.1 (fun _ => Iff.rfl) hN) hst.1 (by omega) (fun a ha b hb _ => ?_) hN, bind_some']
    obtain ⟨A, hA, rfl⟩ := hin a ha
    obtain ⟨B, hB, rfl⟩ := hin b hb
    show (impl_isAdding N _ _).bind _ = _
    rw [isAdding_eq hm hA hB hN]
    rfl
  · unfold impl_Graph_threshold_c1
    simp only [bag_size_eq hm ha, hasKind_eq hm ha hg hx hN, bind_some']
    by_cases h2 : kind = 2
    · have hf : fitsP kind (setOf m a).length k ↔ k ≤ ((setOf m a).length : Int) := by unfold fitsP; rw [if_pos h2]
      rw [ieq_t h2, br_t, ine_f h2, br_f]
      by_cases h3 : k ≤ ((setOf m a).length : Int)
      · rw [ilt_f (by omega), br_f, bind_some']
        congr 1
        exact decide_eq_decide.2 ⟨fun h => ⟨h, hf.2 h3⟩, fun h => h.1⟩
      · rw [ilt_t (by omega), br_t, bind_some', decide_eq_false (fun h => h3 (hf.1 h.2))]
    · have hf : fitsP kind (setOf m a).length k ↔ ((setOf m a).length : Int) ≤ k := by unfold fitsP; rw [if_neg h2]
      rw [ieq_f h2, br_f, ine_t h2, br_t]
      by_cases h3 : ((setOf m a).length : Int) ≤ k
      · rw [ilt_f (by omega), br_f, bind_some']
        congr 1
        exact decide_eq_decide.2 ⟨fun h => ⟨h, hf.2 h3⟩, fun h => h.1⟩
      · rw [ilt_t (by omega), br_t, bind_some', decide_eq_false (fun h => h3 (hf.1 h.2))]
theorem risingP {m : Nat} {s : List Int} (h : rising 0 ((m : Int) - 1) s) : s.Pairwise (· < ·) := rising_strict h
theorem risingN {m : Nat} {s : List Int} (h : rising 0 ((m : Int) - 1) s) : ∀ z ∈ s, InN m z := fun z hz => by
  have := rising_in h z hz
  exact ⟨this.1, by omega⟩
theorem rising_set {m : Nat} {s : List Int} (hm : m ≤ 8) (h : rising 0 ((m : Int) - 1) s) : ∃ A : Nat, A < 2 ^ m ∧ s = setOf m A := by
  have hin := risingN h
  have hnd : s.Nodup := (risingP h).imp fun h e => by omega
  have hl : s.length ≤ m := by
    have := nodup_le hnd (b := (List.range' 0 m).map fun i : Nat => (i : Int)) fun z hz => by
      obtain ⟨k, hk, rfl⟩ := nat_of (hin z hz)
      exact List.mem_map.2 ⟨k, List.mem_range'_1.2 (by omega), rfl⟩
    simpa using this
  obtain ⟨q, q1, q2, q3⟩ := bagOf_eq (N := 1048577) (xs := s) (fun y hy => by have := hin y hy; unfold InN at this; omega) (by omega) (Nat.le_refl _)
  have hq : ∀ i, m ≤ i → q.testBit i = false := fun i hi => by
    refine Bool.eq_false_iff.2 fun h => ?_
    have := hin _ ((q3 i).1 h)
    unfold InN at this
    omega
  have hq2 : q < 2 ^ m := Nat.lt_pow_two_of_testBit q hq
  refine ⟨q, hq2, asc_ext (risingP h) (setOf_strict m q) fun z => ?_⟩
  constructor
  · intro hz
    obtain ⟨k, hk, rfl⟩ := nat_of (hin z hz)
    exact mem_setN.2 ⟨hk, (q3 k).2 hz⟩
  · intro hz
    obtain ⟨k, hk, hb, rfl⟩ := mem_setOf.1 hz
    exact (q3 k).1 hb
def ofK (g : Int × List (Int × Int)) (kind : Int) (s : List Int) : Prop := (goodG g ∧ 1 ≤ kind ∧ kind ≤ 3) ∧ rising 0 (g.1 - 1) s ∧ hasK g.1.toNat g.2 kind s
theorem l4Good_eq {N : Nat} {g : Int × List (Int × Int)} {kind : Int} (hx : g.2.length ≤ 1048576) (hN : 1048577 ≤ N) : spec_l4Good N g kind = some ((decide (goodG g ∧ 1 ≤ kind ∧ kind ≤ 3), ()), ()) := by
  unfold spec_l4Good spec_l4Kind
  simp only [show ((g.1, g.2) : Int × List (Int × Int)) = g from rfl, l2Good_eq hx hN, l1In_eq, bind_some']
  by_cases h : goodG g
  · rw [decide_eq_true h, br_t]; simp [h]
  · rw [decide_eq_false h, br_f]; simp [h]
theorem l4One_eq {N : Nat} {g : Int × List (Int × Int)} {kind : Int} {s : List Int} (hx : g.2.length ≤ 1048576) (hs : s.length ≤ 1048576) (hN : 1048577 ≤ N) : spec_l4One N g kind s = some ((decide (ofK g kind s), ()), ()) := by
  unfold spec_l4One spec_HasKind spec_l2Set
  simp only [show ((g.1, g.2) : Int × List (Int × Int)) = g from rfl]
  rw [l4Good_eq hx hN, bind_some']
  by_cases h : goodG g ∧ 1 ≤ kind ∧ kind ≤ 3
  · have hg1 := h.1.1
    rw [decide_eq_true h]
    simp only [Bool.not_true, br_f]
    rw [wrap_ok (by omega) (by omega), l1Rising_eq hs hN, bind_some', bind_some']
    by_cases h2 : rising 0 (g.1 - 1) s
    · rw [decide_eq_true h2]
      simp only [Bool.not_true, br_f]
      obtain ⟨m, hm⟩ : ∃ m : Nat, g.1 = (m : Int) := ⟨g.1.toNat, by omega⟩
      obtain ⟨g1, es⟩ := g
      simp only [] at hm hx hg1 ⊢
      subst hm
      rw [l4Has_eq (by omega) hx hs hN, bind_some', bind_some']
      by_cases h3 : hasK m es kind s
      · rw [decide_eq_true h3, br_t, decide_eq_true (show ofK ((m : Int), es) kind s from ⟨h, h2, h3⟩)]
      · rw [decide_eq_false h3, br_f, decide_eq_false (fun q : ofK ((m : Int), es) kind s => h3 q.2.2)]
    · rw [decide_eq_false h2, decide_eq_false (fun q : ofK g kind s => h2 q.2.1)]
      rfl
  · rw [decide_eq_false h, decide_eq_false (fun q : ofK g kind s => h q.1)]
    rfl
theorem isOfKind_eq {N : Nat} {g : Int × List (Int × Int)} {kind : Int} {s : List Int} (hx : g.2.length ≤ 1048576) (hs : s.length ≤ 1048576) (hN : 1048577 ≤ N) : impl_isOfKind N g kind s = some ((decide (ofK g kind s), ()), ()) := by
  unfold impl_isOfKind impl_HasKind impl_isSetCase impl_isKind
  simp only [show ((g.1, g.2) : Int × List (Int × Int)) = g from rfl]
  rw [IsGraph_eq hx hN, bind_some']
  by_cases h : goodG g
  · have hg1 := h.1
    rw [decide_eq_true h, br_t]
    simp only [between_eq, bind_some']
    by_cases hk : 1 ≤ kind ∧ kind ≤ 3
    · rw [decide_eq_true hk, br_t, isRising_eq hs (by omega) hN, bind_some', bind_some']
      by_cases h2 : rising 0 (g.1 - 1) s
      · rw [decide_eq_true h2]
        simp only [Bool.not_true, br_f]
        obtain ⟨m, hm⟩ : ∃ m : Nat, g.1 = (m : Int) := ⟨g.1.toNat, by omega⟩
        obtain ⟨g1, es⟩ := g
        simp only [] at hm hx hg1 ⊢
        subst hm
        obtain ⟨A, hA, rfl⟩ := rising_set (by omega) h2
        rw [bagOf_set (by omega) hA hN, bind_some']
        simp only []
        rw [hasKind_eq (by omega) hA h hx hN, bind_some', bind_some']
        congr 3
        exact decide_eq_decide.2 ⟨fun q => ⟨⟨h, hk⟩, h2, q⟩, fun q => q.2.2⟩
      · rw [decide_eq_false h2, decide_eq_false (fun q : ofK g kind s => h2 q.2.1)]
        rfl
    · rw [decide_eq_false hk, decide_eq_false (fun q : ofK g kind s => hk q.1.2)]
      rfl
  · rw [decide_eq_false h, decide_eq_false (fun q : ofK g kind s => h q.1.1)]
    rfl
theorem Wk_in {L : List (List Int)} {m : Nat} {x y : Int} (hl : okLists L m) (hx : InN m x) (h : Wk L x y) : InN m y := by
  induction h with
  | base => exact hx
  | step _ hz ih => exact (okL_row hl ih).2 _ hz
theorem Wk_trans {L : List (List Int)} {x y z : Int} (h1 : Wk L x y) (h2 : Wk L y z) : Wk L x z := by
  induction h2 with
  | base => exact h1
  | step _ h ih => exact .step ih h
def symL (L : List (List Int)) (m : Nat) : Prop := ∀ y z, InN m y → InN m z → z ∈ rdL L y → y ∈ rdL L z
theorem Wk_symm {L : List (List Int)} {m : Nat} {x y : Int} (hl : okLists L m) (hs : symL L m) (hx : InN m x) (h : Wk L x y) : Wk L y x := by
  induction h with
  | base => exact .base
  | step h1 hz ih =>
    have hy := Wk_in hl hx h1
    have hz' := (okL_row hl hy).2 _ hz
    exact Wk_trans (.step .base (hs _ _ hy hz' hz)) ih
theorem clique_mem {s : List Int} (hs : s.Pairwise (· < ·)) {p : Int → Int → Prop} : (∀ i j : Nat, i < s.length → j < i → p (rdI s (i : Int)) (rdI s (j : Int))) ↔ ∀ x ∈ s, ∀ y ∈ s, y < x → p x y := by
  constructor
  · intro h x hx y hy hxy
    obtain ⟨i, hi, rfl⟩ := List.getElem_of_mem hx
    obtain ⟨j, hj, rfl⟩ := List.getElem_of_mem hy
    have hji : j < i := by
      refine Nat.lt_of_not_le fun hle => ?_
      by_cases e : i = j
      · subst e; omega
      · have := List.pairwise_iff_getElem.1 hs i j hi hj (by omega)
        omega
    have := h i j hi hji
    rwa [rdI_n hi, rdI_n hj] at this
  · intro h i j hi hj
    rw [rdI_n hi, rdI_n (show j < s.length by omega)]
    exact h _ (List.getElem_mem hi) _ (List.getElem_mem _) (List.pairwise_iff_getElem.1 hs j i (by omega) hi hj)
def toward (T : Nat) : Nat → Nat → Nat
  | 0, A => A
  | x + 1, A => if (toward T x A).testBit x = T.testBit x then toward T x A else toward T x A ^^^ 2 ^ x
theorem toward_bit {T A : Nat} : ∀ (x i : Nat), (toward T x A).testBit i = if i < x then T.testBit i else A.testBit i := by
  intro x
  induction x with
  | zero => intro i; rfl
  | succ x ih =>
    intro i
    unfold toward
    split
    · rename_i h
      rw [ih i]
      by_cases e : i = x
      · subst e
        rw [ih i] at h
        rw [if_neg (Nat.lt_irrefl i)] at h ⊢
        rw [if_pos (by omega), h]
      · by_cases h2 : i < x
        · rw [if_pos h2, if_pos (by omega)]
        · rw [if_neg h2, if_neg (by omega)]
    · rename_i h
      rw [xor_bit, ih i]
      by_cases e : x = i
      · subst e
        rw [ih x] at h
        rw [if_neg (Nat.lt_irrefl x)] at h ⊢
        rw [if_pos (by omega)]
        cases h1 : A.testBit x <;> cases h2 : T.testBit x <;> simp_all
      · by_cases h2 : i < x
        · rw [if_pos h2, if_pos (by omega)]; simp [e]
        · rw [if_neg h2, if_neg (by omega)]; simp [e]
theorem toward_lt {T A m : Nat} (hT : T < 2 ^ m) (hA : A < 2 ^ m) {x : Nat} : toward T x A < 2 ^ m := by
  refine Nat.lt_pow_two_of_testBit _ fun i hi => ?_
  rw [toward_bit]
  split
  · exact bit_out hT hi
  · exact bit_out hA hi
theorem toward_end {T A m : Nat} (hT : T < 2 ^ m) (hA : A < 2 ^ m) : toward T m A = T := by
  refine Nat.eq_of_testBit_eq fun i => ?_
  rw [toward_bit]
  split
  · rfl
  · rename_i h
    rw [bit_out hA (by omega), bit_out hT (by omega)]
theorem addP_symm {a b : List Int} : addP a b = addP b a := by
  unfold addP
  exact decide_eq_decide.2 (by omega)
theorem xor_ne (A x : Nat) : A ^^^ 2 ^ x ≠ A := fun h => by
  have := congrArg (fun n => Nat.testBit n x) h
  simp only [xor_bit] at this
  cases h : A.testBit x <;> simp [h] at this
theorem add_near {m A x : Nat} {ys : List (List Int)} (hA : A < 2 ^ m) (hx : x < m) (h1 : setOf m A ∈ ys) (h2 : setOf m (A ^^^ 2 ^ x) ∈ ys) : ((ys.idxOf (setOf m (A ^^^ 2 ^ x)) : Nat) : Int) ∈ rdL (nbL ys.length (stepsL addP ys)) ((ys.idxOf (setOf m A) : Nat) : Int) := by
  have i1 := idx_lt h1
  have i2 := idx_lt h2
  have r1 := idx_rd h1
  have r2 := idx_rd h2
  rw [nbL_rd (in_nat i1), mem_nbS stepsL_ok]
  have hp : addP (setOf m A) (setOf m (A ^^^ 2 ^ x)) = true := (addP_iff hA (xor_lt hA hx)).2 ⟨x, hx, rfl⟩
  have hne : ys.idxOf (setOf m A) ≠ ys.idxOf (setOf m (A ^^^ 2 ^ x)) := fun e => by
    rw [e, r2] at r1
    exact xor_ne A x (setOf_inj (xor_lt hA hx) hA r1)
  by_cases hlt : ys.idxOf (setOf m A) < ys.idxOf (setOf m (A ^^^ 2 ^ x))
  · exact .inr (mem_stepsL.2 ⟨_, _, rfl, hlt, i2, by rw [r1, r2]; exact hp⟩)
  · exact .inl (mem_stepsL.2 ⟨_, _, rfl, by omega, i1, by rw [r1, r2, addP_symm]; exact hp⟩)
theorem toward_way {m T A : Nat} {ys : List (List Int)} (hT : T < 2 ^ m) (hA : A < 2 ^ m) (h : ∀ x, x ≤ m → setOf m (toward T x A) ∈ ys) : Wk (nbL ys.length (stepsL addP ys)) ((ys.idxOf (setOf m A) : Nat) : Int) ((ys.idxOf (setOf m T) : Nat) : Int) := by
  have key : ∀ x, x ≤ m → Wk (nbL ys.length (stepsL addP ys)) ((ys.idxOf (setOf m A) : Nat) : Int) ((ys.idxOf (setOf m (toward T x A)) : Nat) : Int) := by
    intro x
    induction x with
    | zero => intro _; exact .base
    | succ x ih =>
      intro hx
      have h1 := ih (by omega)
      have h2 := h (x + 1) hx
      unfold toward at h2 ⊢
      split
      · exact h1
      · rename_i hb
        rw [if_neg hb] at h2
        exact .step h1 (add_near (toward_lt hT hA) (by omega) (h x (by omega)) h2)
  have := key m (Nat.le_refl m)
  rwa [toward_end hT hA] at this
theorem wk_wl {L : List (List Int)} {x y : Int} (h : Wk L x y) : ∃ k, Wl L x k y := by
  induction h with
  | base => exact ⟨0, .base⟩
  | step _ hz ih =>
    obtain ⟨k, hk⟩ := ih
    exact ⟨k + 1, .step hk hz⟩
theorem nbL_symL {n : Nat} {st : List (Int × Int)} (h : okSt n st) : symL (nbL n st) n := fun _ _ hy hz hm => nbL_sym h hy hz hm
theorem way_some {xs : List (List Int)} {st : List (Int × Int)} {a b : List Int} (hn : xs.length ≤ 1048576) (h : okSt xs.length st) (ha : a ∈ xs) (hb : b ∈ xs) : wayS xs st a b ≠ [] ↔ Wk (nbL xs.length st) ((xs.idxOf b : Nat) : Int) ((xs.idxOf a : Nat) : Int) := by
  have hl := nbL_ok hn h
  obtain ⟨s1, s2, s3, s4, s5, s6⟩ := bfsD_spec hl (in_nat (idx_lt hb))
  unfold wayS wayI
  by_cases hlt : rdI (bfsD (nbL xs.length st) xs.length ((xs.idxOf b : Nat) : Int)) ((xs.idxOf a : Nat) : Int) < 0
  · rw [if_pos hlt]
    refine ⟨fun h => absurd rfl h, fun hw => ?_⟩
    obtain ⟨k, hk⟩ := wk_wl hw
    have := (s6 _ _ hk).2.1
    omega
  · rw [if_neg hlt]
    refine ⟨fun _ => ?_, fun _ => by simp⟩
    have hw := s5 _ (in_nat (idx_lt ha)) (by omega)
    have key : ∀ {k : Nat} {y : Int}, Wl (nbL xs.length st) ((xs.idxOf b : Nat) : Int) k y → Wk (nbL xs.length st) ((xs.idxOf b : Nat) : Int) y := by
      intro k y hk
      induction hk with
      | base => exact .base
      | step _ hz ih => exact .step ih hz
    exact key hw
theorem hasK_up {m : Nat} {es : List (Int × Int)} {kind : Int} {s t : List Int} (hk : kind ≠ 2) (hst : ∀ x ∈ s, x ∈ t) (h : hasK m es kind s) : hasK m es kind t := by
  unfold hasK at *
  by_cases h1 : kind = 1
  · rw [if_pos h1] at h ⊢
    exact fun e he => (h e he).imp (hst _) (hst _)
  · rw [if_neg h1, if_neg hk] at h ⊢
    exact fun x hx => (h x hx).imp (hst _) fun ⟨y, hy, hn⟩ => ⟨y, hst y hy, hn⟩
theorem hasK_down {m : Nat} {es : List (Int × Int)} {A B : Nat} (hst : ∀ x ∈ setOf m B, x ∈ setOf m A) (h : hasK m es 2 (setOf m A)) : hasK m es 2 (setOf m B) := by
  unfold hasK at *
  rw [if_neg (by decide), if_pos rfl] at h ⊢
  rw [clique_mem (p := fun x y => nearG es x y) (setOf_strict m _)] at h ⊢
  exact fun x hx y hy hxy => h x (hst x hx) y (hst y hy) hxy
end Go.Proofs.YtbnjcjpnpidhmaaGreat
