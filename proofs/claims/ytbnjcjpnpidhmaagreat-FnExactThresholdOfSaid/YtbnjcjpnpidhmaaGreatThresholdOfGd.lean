/- Statements on data alone. -/
import Derived.Test.YtbnjcjpnpidhmaaGreatPvPure
import Derived.Test.YtbnjcjpnpidhmaaGreatThresholdOfGc
set_option linter.all false
set_option linter.all false
namespace Go.Proofs.YtbnjcjpnpidhmaaGreat
open Go Go.PV Classical
theorem index_out {N : Nat} {xs : List (List Int)} {st : List (Int × Int)} {a : List Int} (hx : xs.length ≤ 1048576) (hl : ∀ x ∈ xs, x.length ≤ 1048576) (ha : a ∉ xs) (hN : 1048577 ≤ N) :
    spec_l2Index N (xs, st) a = some (((-1), ()), ()) := by
  unfold spec_l2Index
  simp only []
  have go : ∀ (d n K : Nat), n + d = xs.length → d < K → spec_l2Index_l0 N (fun x1 => some ((x1, ()), ())) (fun (_ : Unit) => some (((-1), ()), ())) K a (n : Int) xs st = some (((-1), ()), ()) := by
    intro d
    induction d with
    | zero =>
      intro n K hd hK
      obtain ⟨k, rfl⟩ := succ_of hK
      simp only [spec_l2Index_l0, ilt_lenf (show ¬ n < xs.length by omega), br_f]
    | succ d ih =>
      intro n K hd hK
      obtain ⟨k, rfl⟩ := succ_of hK
      have hn : n < xs.length := by omega
      have hne : ¬ rdL xs (n : Int) = a := by rw [rdL_n hn]; intro e; exact ha (e ▸ List.getElem_mem hn)
      simp only [spec_l2Index_l0, ilt_len hn, br_t, inb_n hn, chk_t]
      rw [l1Same_eq (hl _ (by rw [rdL_n hn]; exact List.getElem_mem hn)) hN, bind_some', decide_eq_false hne, br_f, wrap_succ (by omega)]
      exact ih (n + 1) k (by omega) (by omega)
  exact go xs.length 0 N (by omega) (by omega)
theorem l4Without_eq {N : Nat} {a : List Int} {x : Int} (ha : a.length ≤ 1048576) (hN : 1048577 ≤ N) : spec_l4Without N a x = some ((a.filter (fun z => decide (z ≠ x)), ()), ()) := by
  unfold spec_l4Without
  have key := loop_list (xs := a) (L := fun K n o => spec_l4Without_l0 N (fun o => some ((o, ()), ())) K a x (n : Int) o) (k := fun o => some ((o, ()), ())) (fun (o : List Int) z => if decide (z ≠ x) = true then o ++ [z] else o) (fun n o => o = (a.take n).filter fun z => decide (z ≠ x)) (fun K n o hn ho => ?_) (fun K n o hn ho => ?_) (fun n o hn ho => ?_) (s := []) (K := N) (by omega) (by simp)
  · obtain ⟨h1, h2⟩ := key
    simp only [Int.natCast_zero] at h1
    rw [h1, h2, List.take_length]
  · simp only [spec_l4Without_l0, ilt_lenf hn, br_f]
  · have hol : o.length ≤ n := by
      rw [ho]
      exact Nat.le_trans (List.length_filter_le ..) (by simp; omega)
    simp only [spec_l4Without_l0, ilt_len hn, br_t, inb_n hn, chk_t, rdI_n hn]
    rw [wrap_succ (by omega)]
    by_cases h : a[n] = x
    · rw [ine_f h, br_f, if_neg (by simp [h])]
    · rw [ine_t h, br_t, room_ok (by simp; omega), chk_t, tApp_d, if_pos (by simp [h])]
  · rw [List.take_add_one, List.getElem?_eq_getElem hn, Option.toList_some, List.filter_append, ← ho]
    by_cases h : a[n] = x
    · rw [if_neg (by simp [h]), List.filter_cons_of_neg (by simp [h])]; simp
    · rw [if_pos (by simp [h]), List.filter_cons_of_pos (by simp [h])]; rfl
theorem xor_bit {A x i : Nat} : (A ^^^ 2 ^ x).testBit i = (A.testBit i ^^ decide (x = i)) := by rw [Nat.testBit_xor, Nat.testBit_two_pow]
theorem xor_lt {m A x : Nat} (hA : A < 2 ^ m) (hx : x < m) : A ^^^ 2 ^ x < 2 ^ m := Nat.xor_lt_two_pow hA (Nat.pow_lt_pow_right (by omega) hx)
theorem l4Turned_eq {N m A x : Nat} (hm : m ≤ 8) (hA : A < 2 ^ m) (hx : x < m) (hN : 1048577 ≤ N) : spec_l4Turned N (setOf m A) (x : Int) = some ((setOf m (A ^^^ 2 ^ x), ()), ()) := by
  have hsl := setOf_len m A
  have hl : (setOf m A).length ≤ 1048576 := by omega
  unfold spec_l4Turned
  rw [l1Has_eq hl hN, bind_some']
  simp only []
  by_cases h : (x : Int) ∈ setOf m A
  · rw [decide_eq_true h, br_t, l4Without_eq hl hN, bind_some']
    have hb := (mem_setN.1 h).2
    congr 3
    refine asc_ext ((setOf_strict m A).filter _) (setOf_strict m _) fun z => ?_
    rw [List.mem_filter, decide_eq_true_eq]
    constructor
    · rintro ⟨h1, h2⟩
      obtain ⟨i, h3, h4, rfl⟩ := mem_setOf.1 h1
      have : x ≠ i := fun e => h2 (by rw [e])
      exact mem_setN.2 ⟨h3, by rw [xor_bit, h4]; simp [this]⟩
    · intro h1
      obtain ⟨i, h3, h4, rfl⟩ := mem_setOf.1 h1
      rw [xor_bit] at h4
      by_cases e : x = i
      · subst e; rw [hb] at h4; simp at h4
      · simp [e] at h4
        exact ⟨mem_setN.2 ⟨h3, h4⟩, by omega⟩
  · rw [decide_eq_false h, br_f, l1Put_ro hl hN, bind_some']
    have hb : A.testBit x = false := Bool.eq_false_iff.2 fun h' => h (mem_setN.2 ⟨hx, h'⟩)
    congr 3
    refine asc_ext (putI_strict (setOf_strict m A)) (setOf_strict m _) fun z => ?_
    rw [putI_mem]
    constructor
    · rintro (rfl | h1)
      · exact mem_setN.2 ⟨hx, by rw [xor_bit, hb]; simp⟩
      · obtain ⟨i, h3, h4, rfl⟩ := mem_setOf.1 h1
        have : x ≠ i := fun e => by subst e; rw [hb] at h4; cases h4
        exact mem_setN.2 ⟨h3, by rw [xor_bit, h4]; simp [this]⟩
    · intro h1
      obtain ⟨i, h3, h4, rfl⟩ := mem_setOf.1 h1
      rw [xor_bit] at h4
      by_cases e : x = i
      · subst e; exact .inl rfl
      · simp [e] at h4
        exact .inr (mem_setN.2 ⟨h3, h4⟩)
/-! ### Pairs put in order -/
def pairsUp (o : List (Int × Int)) : Prop := o.Pairwise edgeLt
theorem edgeLt_trans {a b c : Int × Int} (h1 : edgeLt a b) (h2 : edgeLt b c) : edgeLt a c := by unfold edgeLt at *; omega
theorem edgeLt_irr (a : Int × Int) : ¬ edgeLt a a := by unfold edgeLt; omega
theorem edgeLt_tot {a b : Int × Int} (h : ¬ edgeLt a b) (hne : a ≠ b) : edgeLt b a := by
  unfold edgeLt at *
  by_cases h1 : a.1 = b.1
  · by_cases h2 : a.2 = b.2
    · exact absurd (Prod.ext h1 h2) hne
    · omega
  · omega
theorem pairs_ext {a b : List (Int × Int)} (ha : pairsUp a) (hb : pairsUp b) (h : ∀ e, e ∈ a ↔ e ∈ b) : a = b := by
  unfold pairsUp at ha hb
  have na : a.Nodup := ha.imp fun {x y} h e => by subst e; exact edgeLt_irr _ h
  have nb : b.Nodup := hb.imp fun {x y} h e => by subst e; exact edgeLt_irr _ h
  have hp := (List.perm_ext_iff_of_nodup na nb).2 h
  clear h na nb
  induction a generalizing b with
  | nil => exact (List.nil_perm.1 hp).symm
  | cons x a ih =>
    cases b with
    | nil => exact absurd (List.perm_nil.1 hp) (by simp)
    | cons y b =>
      obtain ⟨a1, a2⟩ := List.pairwise_cons.1 ha
      obtain ⟨b1, b2⟩ := List.pairwise_cons.1 hb
      have e : x = y := by
        have h1 : x ∈ y :: b := hp.mem_iff.1 (List.mem_cons_self ..)
        have h2 : y ∈ x :: a := hp.mem_iff.2 (List.mem_cons_self ..)
        rcases List.mem_cons.1 h1 with h1 | h1
        · exact h1
        · rcases List.mem_cons.1 h2 with h2 | h2
          · exact h2.symm
          · exact absurd (edgeLt_trans (a1 y h2) (b1 x h1)) (edgeLt_irr x)
      subst e
      rw [ih a2 b2 (List.Perm.cons_inv hp)]
theorem putPair_eq {N : Nat} {o : List (Int × Int)} {e : Int × Int} (ho : pairsUp o) (hl : o.length ≤ 1048576) (hN : 1048577 ≤ N) : ∃ o', spec_l2PutPair N o e = some ((o', ()), ()) ∧ pairsUp o' ∧ (∀ f, f ∈ o' ↔ f ∈ o ∨ f = e) ∧ o'.length ≤ o.length + 1 := by
  unfold pairsUp at ho
  have find : ∀ (k K : Nat) (k0 : Int → List (Int × Int) → Int → Int → Option ((List (Int × Int) × Unit) × Unit)), k < K → k ≤ o.length → (∀ j (h : j < o.length), k ≤ j → edgeLt e o[j]) →
      ∃ k2 : Nat, k2 ≤ o.length ∧ (∀ j (h : j < o.length), j < k2 → ¬ edgeLt e o[j]) ∧ (∀ j (h : j < o.length), k2 ≤ j → edgeLt e o[j]) ∧ spec_l2PutPair_l0 N k0 K (k : Int) o e.1 e.2 = k0 (k2 : Int) o e.1 e.2 := by
    intro k
    induction k with
    | zero =>
      intro K k0 hK hk h
      obtain ⟨K, rfl⟩ := succ_of hK
      refine ⟨0, hk, fun j h1 h2 => absurd h2 (Nat.not_lt_zero j), h, ?_⟩
      simp only [spec_l2PutPair_l0, Int.natCast_zero]
      rw [ilt_f (by decide), br_f]
    | succ k ih =>
      intro K k0 hK hk h
      obtain ⟨K, rfl⟩ := succ_of hK
      have hko : k < o.length := by omega
      simp only [spec_l2PutPair_l0]
      rw [ilt_t (by omega), br_t, wrap_pred (by omega) (by omega), show k + 1 - 1 = k by omega, inb_n hko, chk_t, rdP_n hko, l2Edge_eq, bind_some']
      simp only [show ((e.1, e.2) : Int × Int) = e from rfl]
      by_cases hc : edgeLt e o[k]
      · rw [decide_eq_true hc, br_t]
        exact ih K k0 (by omega) (by omega) fun j hj hkj => by
          by_cases he : j = k
          · subst he; exact hc
          · exact h j hj (by omega)
      · rw [decide_eq_false hc, br_f]
        refine ⟨k + 1, hk, fun j hj hjk => ?_, h, rfl⟩
        by_cases he : j = k
        · subst he; exact hc
        · have := List.pairwise_iff_getElem.1 ho j k hj hko (by omega)
          exact fun h2 => hc (edgeLt_trans h2 this)
  unfold spec_l2PutPair
  obtain ⟨k, k1, k2, k3, k4⟩ := find o.length N (fun kv o o1 o2 => (br (ilt 0 kv)
    ((chk (inb o (IntKind.i64.wrap (kv - 1)))
      (br (ieq ((rdP o (IntKind.i64.wrap (kv - 1))).1) o1 && ieq ((rdP o (IntKind.i64.wrap (kv - 1))).2) o2)
      (some ((o, ()), ()))
      ((chk (ile 0 0 && ile 0 kv && ile kv (tLen o))
        (chk (room (α := (Int × Int)) (β := (Int × Int)) [] (tCut o 0 kv))
        (chk (room (tApp [] (tCut o 0 kv)) [(o1, o2)])
        (chk (ile 0 kv && ile kv (tLen o) && ile (tLen o) (tLen o))
        (chk (room (tApp (tApp [] (tCut o 0 kv)) [(o1, o2)]) (tCut o kv (tLen o)))
        (some (((tApp (tApp (tApp [] (tCut o 0 kv)) [(o1, o2)]) (tCut o kv (tLen o))), ()), ())))))))))))
    ((chk (ile 0 0 && ile 0 kv && ile kv (tLen o))
      (chk (room (α := (Int × Int)) (β := (Int × Int)) [] (tCut o 0 kv))
      (chk (room (tApp [] (tCut o 0 kv)) [(o1, o2)])
      (chk (ile 0 kv && ile kv (tLen o) && ile (tLen o) (tLen o))
      (chk (room (tApp (tApp [] (tCut o 0 kv)) [(o1, o2)]) (tCut o kv (tLen o)))
      (some (((tApp (tApp (tApp [] (tCut o 0 kv)) [(o1, o2)]) (tCut o kv (tLen o))), ()), ())))))))))) (by omega) (Nat.le_refl _) (fun j hj h => by omega)
  rw [tLen_n, k4]
  have hcut0 : tCut o 0 (k : Int) = o.take k := by have := tCut_n o 0 k; simpa using this
  have hcutk : tCut o (k : Int) (tLen o) = o.drop k := by rw [tLen_n, tCut_n, List.take_of_length_le (Nat.le_refl _)]
  have h1 : (ile 0 0 && ile 0 (k : Int) && ile (k : Int) (tLen o)) = true := by rw [ile_t (Int.le_refl _), ile_t (by omega), tLen_n, ile_t (by omega)]; rfl
  have h2 : (ile 0 (k : Int) && ile (k : Int) (tLen o) && ile (tLen o) (tLen o)) = true := by rw [ile_t (by omega), tLen_n, ile_t (by omega), ile_t (Int.le_refl _)]; rfl
  have r1 : room (α := Int × Int) (β := Int × Int) [] (o.take k) = true := room_ok (by rw [List.length_take, List.length_nil]; omega)
  have r2 : room (tApp [] (o.take k)) [(e.1, e.2)] = true := room_ok (by simp only [tApp, List.nil_append, List.length_take, List.length_singleton]; omega)
  have r3 : room (tApp (tApp [] (o.take k)) [(e.1, e.2)]) (o.drop k) = true := room_ok (by simp only [tApp, List.nil_append, List.length_append, List.length_take, List.length_drop, List.length_singleton]; omega)
  have ee : tApp (tApp (tApp [] (o.take k)) [(e.1, e.2)]) (o.drop k) = o.take k ++ e :: o.drop k := by simp [tApp]
  have hput : (∀ j (h : j < o.length), j < k → o[j] ≠ e) → pairsUp (o.take k ++ e :: o.drop k) ∧ (∀ f, f ∈ o.take k ++ e :: o.drop k ↔ f ∈ o ∨ f = e) ∧ (o.take k ++ e :: o.drop k).length ≤ o.length + 1 := by
    intro hne
    refine ⟨List.pairwise_append.2 ⟨ho.sublist (List.take_sublist ..), List.pairwise_cons.2 ⟨fun y hy => ?_, ho.sublist (List.drop_sublist ..)⟩, fun a ha b hb => ?_⟩, fun s => ?_, by simp; omega⟩
    · obtain ⟨j, hj, rfl⟩ := List.getElem_of_mem hy
      rw [List.getElem_drop]
      exact k3 _ (by simp at hj; omega) (by omega)
    · obtain ⟨j, hj, rfl⟩ := List.getElem_of_mem ha
      have hj' : j < k ∧ j < o.length := by simp at hj; omega
      rw [List.getElem_take]
      have hax : edgeLt o[j] e := edgeLt_tot (k2 j hj'.2 hj'.1) (fun q => hne j hj'.2 hj'.1 q.symm)
      rcases List.mem_cons.1 hb with rfl | hb
      · exact hax
      · obtain ⟨l, hl', rfl⟩ := List.getElem_of_mem hb
        rw [List.getElem_drop]
        exact List.pairwise_iff_getElem.1 ho _ _ hj'.2 (by simp at hl'; omega) (by omega)
    · rw [List.mem_append, List.mem_cons]
      have := List.take_append_drop k o
      constructor
      · rintro (h | h | h)
        · exact .inl (List.mem_of_mem_take h)
        · exact .inr h
        · exact .inl (List.mem_of_mem_drop h)
      · rintro (h | h)
        · rw [← this, List.mem_append] at h
          rcases h with h | h
          · exact .inl h
          · exact .inr (.inr h)
        · exact .inr (.inl h)
  by_cases hk0 : k = 0
  · subst hk0
    have e0 : ilt 0 ((0 : Nat) : Int) = false := rfl
    rw [e0, br_f, h1, chk_t, hcut0, r1, chk_t, r2, chk_t, h2, chk_t, hcutk, r3, chk_t, ee]
    exact ⟨_, rfl, hput fun j h h0 => absurd h0 (Nat.not_lt_zero j)⟩
  · have hk' : k - 1 < o.length := by omega
    rw [ilt_t (by omega), br_t, wrap_pred (by omega) (by omega), inb_n hk', chk_t, rdP_n hk']
    by_cases he : o[k - 1] = e
    · rw [he, ieq_t rfl, ieq_t rfl]
      simp only [Bool.and_self, br_t]
      refine ⟨o, rfl, ho, fun f => ⟨.inl, ?_⟩, by omega⟩
      rintro (h | h)
      · exact h
      · rw [h, ← he]; exact List.getElem_mem hk'
    · have hb : (ieq o[k - 1].1 e.1 && ieq o[k - 1].2 e.2) = false := by
        by_cases q1 : o[k - 1].1 = e.1
        · by_cases q2 : o[k - 1].2 = e.2
          · exact absurd (Prod.ext q1 q2) he
          · rw [ieq_f q2, Bool.and_false]
        · rw [ieq_f q1]; rfl
      rw [hb, br_f, h1, chk_t, hcut0, r1, chk_t, r2, chk_t, h2, chk_t, hcutk, r3, chk_t, ee]
      refine ⟨_, rfl, hput fun j h hj q => ?_⟩
      by_cases hj1 : j = k - 1
      · subst hj1; exact he q
      · have := List.pairwise_iff_getElem.1 ho j (k - 1) h hk' (by omega)
        rw [q] at this
        exact k2 (k - 1) hk' (by omega) this
theorem mem_stepsL {p : List Int → List Int → Bool} {xs : List (List Int)} {e : Int × Int} : e ∈ stepsL p xs ↔ ∃ i j : Nat, e = ((i : Int), (j : Int)) ∧ i < j ∧ j < xs.length ∧ p (rdL xs (i : Int)) (rdL xs (j : Int)) = true := by
  unfold stepsL rowSteps
  rw [List.mem_flatMap]
  constructor
  · rintro ⟨i, hi, he⟩
    obtain ⟨j, hj, rfl⟩ := List.mem_map.1 he
    obtain ⟨h1, h2⟩ := List.mem_filter.1 hj
    have := List.mem_range'_1.1 h1
    exact ⟨i, j, rfl, by omega, by omega, h2⟩
  · rintro ⟨i, j, rfl, h1, h2, h3⟩
    exact ⟨i, List.mem_range'_1.2 (by omega), List.mem_map.2 ⟨j, List.mem_filter.2 ⟨List.mem_range'_1.2 (by omega), h3⟩, rfl⟩⟩
/-! ### A node added or taken away -/
noncomputable def addP (a b : List Int) : Bool := decide ((loneL a b).length + (loneL b a).length = 1)
theorem mem_lone {a b : List Int} {z : Int} : z ∈ loneL a b ↔ z ∈ a ∧ z ∉ b := by
  unfold loneL
  rw [List.mem_filter, decide_eq_true_eq]
theorem addP_iff {m A B : Nat} (hA : A < 2 ^ m) (hB : B < 2 ^ m) : addP (setOf m A) (setOf m B) = true ↔ ∃ x, x < m ∧ B = A ^^^ 2 ^ x := by
  unfold addP
  rw [decide_eq_true_eq]
  have one : ∀ {C D : Nat}, C < 2 ^ m → D < 2 ^ m → (loneL (setOf m C) (setOf m D)).length = 1 → (loneL (setOf m D) (setOf m C)).length = 0 → ∃ x, x < m ∧ D = C ^^^ 2 ^ x := by
    intro C D hC hD h1 h2
    obtain ⟨z, hz⟩ := List.length_eq_one_iff.1 h1
    have h2 := List.eq_nil_of_length_eq_zero h2
    have hzm : z ∈ setOf m C ∧ z ∉ setOf m D := mem_lone.1 (by rw [hz]; simp)
    obtain ⟨x, hx, hxb, rfl⟩ := mem_setOf.1 hzm.1
    refine ⟨x, hx, Nat.eq_of_testBit_eq fun i => ?_⟩
    rw [xor_bit]
    by_cases hi : i < m
    · by_cases e : x = i
      · subst e
        rw [hxb]
        have : D.testBit x = false := Bool.eq_false_iff.2 fun h => hzm.2 (mem_setN.2 ⟨hx, h⟩)
        rw [this]
        simp
      · have q1 : D.testBit i = true → C.testBit i = true := fun h => by
          by_cases hc : (i : Int) ∈ setOf m C
          · exact (mem_setN.1 hc).2
          · have : (i : Int) ∈ loneL (setOf m D) (setOf m C) := mem_lone.2 ⟨mem_setN.2 ⟨hi, h⟩, hc⟩
            rw [h2] at this
            cases this
        have q2 : C.testBit i = true → D.testBit i = true := fun h => by
          by_cases hd : (i : Int) ∈ setOf m D
          · exact (mem_setN.1 hd).2
          · have : (i : Int) ∈ loneL (setOf m C) (setOf m D) := mem_lone.2 ⟨mem_setN.2 ⟨hi, h⟩, hd⟩
            rw [hz] at this
            simp at this
            omega
        cases h3 : C.testBit i <;> cases h4 : D.testBit i <;> simp_all
    · rw [bit_out hD (by omega), bit_out hC (by omega)]
      simp
      omega
  have back : ∀ {C : Nat} {x : Nat}, C < 2 ^ m → x < m → C.testBit x = true → (loneL (setOf m C) (setOf m (C ^^^ 2 ^ x))).length = 1 ∧ (loneL (setOf m (C ^^^ 2 ^ x)) (setOf m C)).length = 0 := by
    intro C x hC hx hb
    constructor
    · have : loneL (setOf m C) (setOf m (C ^^^ 2 ^ x)) = [(x : Int)] := by
        refine asc_ext ((setOf_strict m C).filter _) (List.pairwise_singleton ..) fun z => ?_
        refine (mem_lone (a := setOf m C) (b := setOf m (C ^^^ 2 ^ x)) (z := z)).trans ?_
        rw [List.mem_singleton]
        constructor
        · rintro ⟨h1, h2⟩
          obtain ⟨i, h3, h4, rfl⟩ := mem_setOf.1 h1
          by_cases e : x = i
          · rw [e]
          · exact absurd (mem_setN.2 ⟨h3, by rw [xor_bit, h4]; simp [e]⟩) h2
        · rintro rfl
          refine ⟨mem_setN.2 ⟨hx, hb⟩, fun h => ?_⟩
          have := (mem_setN.1 h).2
          rw [xor_bit, hb] at this
          simp at this
      rw [this]
      rfl
    · have : loneL (setOf m (C ^^^ 2 ^ x)) (setOf m C) = [] := by
        refine List.eq_nil_iff_forall_not_mem.2 fun z hz => ?_
        obtain ⟨h1, h2⟩ := mem_lone.1 hz
        obtain ⟨i, h3, h4, rfl⟩ := mem_setOf.1 h1
        rw [xor_bit] at h4
        by_cases e : x = i
        · subst e; rw [hb] at h4; simp at h4
        · simp [e] at h4
          exact h2 (mem_setN.2 ⟨h3, h4⟩)
      rw [this]
      rfl
  have xx : ∀ (C x : Nat), (C ^^^ 2 ^ x) ^^^ 2 ^ x = C := fun C x => by rw [Nat.xor_assoc, Nat.xor_self, Nat.xor_zero]
  constructor
  · intro h
    by_cases h1 : (loneL (setOf m A) (setOf m B)).length = 1
    · exact one hA hB h1 (by omega)
    · obtain ⟨x, hx, hxe⟩ := one hB hA (by omega) (by omega)
      exact ⟨x, hx, by rw [hxe, xx]⟩
  · rintro ⟨x, hx, rfl⟩
    cases hb : A.testBit x with
    | true =>
      obtain ⟨h1, h2⟩ := back hA hx hb
      omega
    | false =>
      obtain ⟨h1, h2⟩ := back hB hx (by rw [xor_bit, hb]; simp)
      rw [xx] at h1 h2
      omega
theorem isAdding_eq {N m A B : Nat} (hm : m ≤ 8) (hA : A < 2 ^ m) (hB : B < 2 ^ m) (hN : 1048577 ≤ N) : impl_isAdding N (setOf m A) (setOf m B) = some ((addP (setOf m A) (setOf m B), ()), ()) := by
  obtain ⟨x, y, h1, x1, y1, x2, y2⟩ := moves_eq hm hA hB hN
  have l1 := setOf_len m x
  have l2 := setOf_len m y
  unfold impl_isAdding addP
  rw [h1, bind_some']
  simp only []
  rw [bag_size_eq hm x1, bag_size_eq hm y1, bind_some', bind_some']
  simp only []
  rw [wrap_ok (by omega) (by omega), x2, y2]
  congr 3
  by_cases h : (loneL (setOf m A) (setOf m B)).length + (loneL (setOf m B) (setOf m A)).length = 1
  · rw [ieq_t (by omega), decide_eq_true h]
  · rw [ieq_f (by omega), decide_eq_false h]
def fitsP (kind : Int) (size : Nat) (k : Int) : Prop := if kind = 2 then k ≤ (size : Int) else (size : Int) ≤ k
theorem l4Fits_eq {N : Nat} {kind k : Int} {size : Nat} : spec_l4Fits N kind (size : Int) k = some ((decide (fitsP kind size k), ()), ()) := by
  unfold spec_l4Fits fitsP
  by_cases h : kind = 2
  · rw [ieq_t h, br_t]
    simp only [if_pos h]
    by_cases q : k ≤ (size : Int)
    · rw [ile_t q, decide_eq_true q]
    · rw [ile_f q, decide_eq_false q]
  · rw [ieq_f h, br_f]
    simp only [if_neg h]
    by_cases q : (size : Int) ≤ k
    · rw [ile_t q, decide_eq_true q]
    · rw [ile_f q, decide_eq_false q]
def ThSt (m : Nat) (es : List (Int × Int)) (kind k : Int) (ys : List (List Int)) : Prop := lexSorted ys ∧ ∀ s, s ∈ ys ↔ (∃ a : Nat, a < 2 ^ m ∧ s = setOf m a) ∧ hasK m es kind s ∧ fitsP kind s.length k
theorem filt_thr {R : Type} {N : Nat} {L : List (List Int)} {kind k : Int} {m : Int} {es : List (Int × Int)} {k0 : Int → List (Int × Int) → List (List Int) → Option R} (hL : L.length ≤ 1048576) (hN : 1048577 ≤ N) :
    spec_l4Threshold_l0 N k0 N kind k L 0 m es [] = k0 m es (L.filter fun s => decide (fitsP kind s.length k)) := by
  have key := loop_list (xs := L) (L := fun K n o => spec_l4Threshold_l0 N k0 K kind k L (n : Int) m es o) (k := fun o => k0 m es o) (fun (o : List (List Int)) z => if decide (fitsP kind z.length k) = true then o ++ [z] else o) (fun n o => o = (L.take n).filter fun s => decide (fitsP kind s.length k)) (fun K n o hn ho => ?_) (fun K n o hn ho => ?_) (fun n o hn ho => ?_) (s := []) (K := N) (by omega) (by simp)
  · obtain ⟨h1, h2⟩ := key
    simp only [Int.natCast_zero] at h1
    rw [h1, h2, List.take_length]
  · simp only [spec_l4Threshold_l0, ilt_lenf hn, br_f]
  · have hol : o.length ≤ n := by
      rw [ho]
      exact Nat.le_trans (List.length_filter_le ..) (by simp; omega)
    simp only [spec_l4Threshold_l0, ilt_len hn, br_t, inb_n hn, chk_t, rdL_n hn]
    rw [tLen_n, l4Fits_eq, bind_some', wrap_succ (by omega)]
    simp only []
    by_cases h : fitsP kind L[n].length k
    · rw [decide_eq_true h, br_t, room_ok (by simp; omega), chk_t, tApp_d, if_pos rfl]
    · rw [decide_eq_false h, br_f, if_neg (by simp)]
  · rw [List.take_add_one, List.getElem?_eq_getElem hn, Option.toList_some, List.filter_append, ← ho]
    by_cases h : fitsP kind L[n].length k
    · rw [if_pos (decide_eq_true h), List.filter_cons_of_pos (by simp [h])]; rfl
    · rw [if_neg (by simp [h]), List.filter_cons_of_neg (by simp [h])]; simp
theorem thr_in {R : Type} {N m i : Nat} {es : List (Int × Int)} {xs : List (List Int)} {k0 : Int → Int → List (Int × Int) → List (List Int) → List (Int × Int) → Option R} (hm : m ≤ 8) (hs : lexSorted xs) (hin : ∀ s ∈ xs, ∃ a : Nat, a < 2 ^ m ∧ s = setOf m a) (hi : i < xs.length) (hx : xs.length < 1024) (hN : 1048577 ≤ N) :
    ∀ (d x K : Nat) (o : List (Int × Int)), x + d = m → d < K → pairsUp o → o.length + d ≤ 1048576 →
      ∃ o', spec_l4Threshold_l1_0 N k0 K (i : Int) (x : Int) (m : Int) es xs o = k0 (i : Int) (m : Int) es xs o' ∧ pairsUp o' ∧ o'.length ≤ o.length + d ∧ ∀ f, f ∈ o' ↔ f ∈ o ∨ ∃ (j y A : Nat), f = ((i : Int), (j : Int)) ∧ i < j ∧ j < xs.length ∧ x ≤ y ∧ y < m ∧ A < 2 ^ m ∧ rdL xs (i : Int) = setOf m A ∧ rdL xs (j : Int) = setOf m (A ^^^ 2 ^ y) := by
  have hrows : ∀ s ∈ xs, s.length ≤ 1048576 := fun s h => by obtain ⟨a, _, rfl⟩ := hin s h; have := setOf_len m a; omega
  obtain ⟨A, hA, hAe⟩ := hin _ (show rdL xs (i : Int) ∈ xs by rw [rdL_n hi]; exact List.getElem_mem hi)
  intro d
  induction d with
  | zero =>
    intro x K o hd hK ho hl
    obtain ⟨K, rfl⟩ := succ_of hK
    refine ⟨o, ?_, ho, by omega, fun f => ⟨.inl, ?_⟩⟩
    · simp only [spec_l4Threshold_l1_0, ilt_nf (show ¬ x < m by omega), br_f]
    · rintro (h | ⟨j, y, B, _, _, _, h1, h2, _⟩)
      · exact h
      · omega
  | succ d ih =>
    intro x K o hd hK ho hl
    obtain ⟨K, rfl⟩ := succ_of hK
    have hxm : x < m := by omega
    simp only [spec_l4Threshold_l1_0, ilt_n hxm, br_t, inb_n hi, chk_t]
    have hT : spec_l4Turned N (rdL xs (i : Int)) (x : Int) = some ((setOf m (A ^^^ 2 ^ x), ()), ()) := by rw [hAe]; exact l4Turned_eq hm hA hxm hN
    rw [hT, bind_some']
    simp only []
    by_cases hmem : setOf m (A ^^^ 2 ^ x) ∈ xs
    · rw [index_in (by omega) hrows hmem hN, bind_some']
      simp only []
      have hj := idx_lt hmem
      have hjr := idx_rd hmem
      by_cases hij : i < xs.idxOf (setOf m (A ^^^ 2 ^ x))
      · rw [ilt_n hij, br_t]
        obtain ⟨o1, p1, p2, p3, p4⟩ := putPair_eq (N := N) (e := ((i : Int), ((xs.idxOf (setOf m (A ^^^ 2 ^ x)) : Nat) : Int))) ho (by omega) hN
        rw [p1, bind_some']
        simp only []
        rw [wrap_succ (by omega)]
        obtain ⟨o', q1, q2, q3, q4⟩ := ih (x + 1) K o1 (by omega) (by omega) p2 (by omega)
        refine ⟨o', q1, q2, by omega, fun f => ?_⟩
        rw [q4 f, p3 f]
        constructor
        · rintro ((h | h) | ⟨j, y, B, h1, h2, h3, h4, h5, h6, h7, h8⟩)
          · exact .inl h
          · exact .inr ⟨_, x, A, h, hij, hj, Nat.le_refl _, hxm, hA, hAe, hjr⟩
          · exact .inr ⟨j, y, B, h1, h2, h3, by omega, h5, h6, h7, h8⟩
        · rintro (h | ⟨j, y, B, h1, h2, h3, h4, h5, h6, h7, h8⟩)
          · exact .inl (.inl h)
          · by_cases hy : y = x
            · subst hy
              have hBA : B = A := setOf_inj h6 hA (by rw [← h7, hAe])
              subst hBA
              refine .inl (.inr ?_)
              have : j = xs.idxOf (setOf m (B ^^^ 2 ^ y)) := by
                rw [rdL_n h3] at h8
                rw [rdL_n hj] at hjr
                exact (List.getElem_inj (lex_nodup hs)).1 (h8.trans hjr.symm)
              rw [h1, this]
            · exact .inr ⟨j, y, B, h1, h2, h3, by omega, h5, h6, h7, h8⟩
      · rw [ilt_nf hij, br_f, wrap_succ (by omega)]
        obtain ⟨o', q1, q2, q3, q4⟩ := ih (x + 1) K o (by omega) (by omega) ho (by omega)
        refine ⟨o', q1, q2, by omega, fun f => ?_⟩
        rw [q4 f]
        constructor
        · rintro (h | ⟨j, y, B, h1, h2, h3, h4, h5⟩)
          · exact .inl h
          · exact .inr ⟨j, y, B, h1, h2, h3, by omega, h5⟩
        · rintro (h | ⟨j, y, B, h1, h2, h3, h4, h5, h6, h7, h8⟩)
          · exact .inl h
          · by_cases hy : y = x
            · subst hy
              have hBA : B = A := setOf_inj h6 hA (by rw [← h7, hAe])
              subst hBA
              have : j = xs.idxOf (setOf m (B ^^^ 2 ^ y)) := by
                rw [rdL_n h3] at h8
                rw [rdL_n hj] at hjr
                exact (List.getElem_inj (lex_nodup hs)).1 (h8.trans hjr.symm)
              omega
            · exact .inr ⟨j, y, B, h1, h2, h3, by omega, h5, h6, h7, h8⟩
    · rw [index_out (by omega) hrows hmem hN, bind_some']
      simp only []
      rw [ilt_f (by omega), br_f, wrap_succ (by omega)]
      obtain ⟨o', q1, q2, q3, q4⟩ := ih (x + 1) K o (by omega) (by omega) ho (by omega)
      refine ⟨o', q1, q2, by omega, fun f => ?_⟩
      rw [q4 f]
      constructor
      · rintro (h | ⟨j, y, B, h1, h2, h3, h4, h5⟩)
        · exact .inl h
        · exact .inr ⟨j, y, B, h1, h2, h3, by omega, h5⟩
      · rintro (h | ⟨j, y, B, h1, h2, h3, h4, h5, h6, h7, h8⟩)
        · exact .inl h
        · by_cases hy : y = x
          · subst hy
            have hBA : B = A := setOf_inj h6 hA (by rw [← h7, hAe])
            subst hBA
            exact absurd (by rw [← h8, rdL_n h3]; exact List.getElem_mem h3) hmem
          · exact .inr ⟨j, y, B, h1, h2, h3, by omega, h5, h6, h7, h8⟩
theorem thr_loop {N m : Nat} {es : List (Int × Int)} {xs : List (List Int)} (hm : m ≤ 8) (hs : lexSorted xs) (hin : ∀ s ∈ xs, ∃ a : Nat, a < 2 ^ m ∧ s = setOf m a) (hx : xs.length < 1024) (hN : 1048577 ≤ N) :
    spec_l4Threshold_l1 N (fun o6 o7 => some (((o6, o7), ()), ())) N 0 (m : Int) es xs [] = some (((xs, stepsL addP xs), ()), ()) := by
  have go : ∀ (d i K : Nat) (o : List (Int × Int)), i + d = xs.length → d < K → pairsUp o → o.length ≤ 8 * i → (∀ f, f ∈ o ↔ ∃ (k j y A : Nat), f = ((k : Int), (j : Int)) ∧ k < i ∧ k < j ∧ j < xs.length ∧ y < m ∧ A < 2 ^ m ∧ rdL xs (k : Int) = setOf m A ∧ rdL xs (j : Int) = setOf m (A ^^^ 2 ^ y)) →
      ∃ o', spec_l4Threshold_l1 N (fun o6 o7 => some (((o6, o7), ()), ())) K (i : Int) (m : Int) es xs o = some (((xs, o'), ()), ()) ∧ pairsUp o' ∧ ∀ f, f ∈ o' ↔ ∃ (k j y A : Nat), f = ((k : Int), (j : Int)) ∧ k < xs.length ∧ k < j ∧ j < xs.length ∧ y < m ∧ A < 2 ^ m ∧ rdL xs (k : Int) = setOf m A ∧ rdL xs (j : Int) = setOf m (A ^^^ 2 ^ y) := by
    intro d
    induction d with
    | zero =>
      intro i K o hd hK ho hl hf
      obtain ⟨K, rfl⟩ := succ_of hK
      have e : i = xs.length := by omega
      subst e
      refine ⟨o, ?_, ho, hf⟩
      simp only [spec_l4Threshold_l1, ilt_lenf (Nat.lt_irrefl _), br_f]
    | succ d ih =>
      intro i K o hd hK ho hl hf
      obtain ⟨K, rfl⟩ := succ_of hK
      have hi : i < xs.length := by omega
      simp only [spec_l4Threshold_l1, ilt_len hi, br_t]
      obtain ⟨o1, p1, p2, p3, p4⟩ := thr_in (R := ((List (List Int) × List (Int × Int)) × Unit) × Unit) (es := es) (k0 := fun x5 o10 o11 o12 o13 => spec_l4Threshold_l1 N (fun o6 o7 => some (((o6, o7), ()), ())) K (IntKind.i64.wrap (x5 + 1)) o10 o11 o12 o13) hm hs hin hi hx hN m 0 N o (by omega) (by omega) ho (by omega)
      simp only [Int.natCast_zero] at p1
      rw [p1, wrap_succ (by omega)]
      refine ih (i + 1) K o1 (by omega) (by omega) p2 (by omega) fun f => ?_
      rw [p4 f, hf f]
      constructor
      · rintro (⟨k, j, y, A, h1, h2, h3⟩ | ⟨j, y, A, h1, h2, h3, h4, h5, h6⟩)
        · exact ⟨k, j, y, A, h1, by omega, h3⟩
        · exact ⟨i, j, y, A, h1, by omega, h2, h3, h5, h6⟩
      · rintro ⟨k, j, y, A, h1, h2, h3, h4, h5, h6⟩
        by_cases hk : k = i
        · subst hk
          exact .inr ⟨j, y, A, h1, h3, h4, Nat.zero_le _, h5, h6⟩
        · exact .inl ⟨k, j, y, A, h1, by omega, h3, h4, h5, h6⟩
  obtain ⟨o, h1, h2, h3⟩ := go xs.length 0 N [] (by omega) (by omega) List.Pairwise.nil (by simp) (fun f => by simp)
  simp only [Int.natCast_zero] at h1
  rw [h1]
  have : o = stepsL addP xs := by
    refine pairs_ext h2 ((stepsL_ok (p := addP) (xs := xs)).1) fun f => ?_
    rw [h3 f, mem_stepsL]
    constructor
    · rintro ⟨k, j, y, A, e1, e2, e3, e4, e5, e6, e7, e8⟩
      exact ⟨k, j, e1, e3, e4, by rw [e7, e8]; exact (addP_iff e6 (xor_lt e6 e5)).2 ⟨y, e5, rfl⟩⟩
    · rintro ⟨k, j, e1, e3, e4, e5⟩
      obtain ⟨A, hA, hAe⟩ := hin _ (show rdL xs (k : Int) ∈ xs by rw [rdL_n (by omega)]; exact List.getElem_mem _)
      obtain ⟨B, hB, hBe⟩ := hin _ (show rdL xs (j : Int) ∈ xs by rw [rdL_n e4]; exact List.getElem_mem _)
      rw [hAe, hBe] at e5
      obtain ⟨x, hx', hxe⟩ := (addP_iff hA hB).1 e5
      exact ⟨k, j, x, A, e1, by omega, e3, e4, hx', hA, hAe, by rw [hBe, hxe]⟩
  rw [this]
theorem l4Thr_eq {N m : Nat} {es : List (Int × Int)} {kind k : Int} (hm : m ≤ 8) (hx : es.length ≤ 1048576) (hN : 1048577 ≤ N) : ∃ ys, ThSt m es kind k ys ∧ spec_l4Threshold N ((m : Int), es) kind k = some (((ys, stepsL addP ys), ()), ()) := by
  have h256 := pow256 hm
  obtain ⟨L, l1, l2, l3, l4⟩ := l4Sets_eq (kind := kind) hm hx hN
  have hLr : ∀ x ∈ L.filter (fun s => decide (fitsP kind s.length k)), x.length ≤ 1048576 := fun x hx => by
    obtain ⟨⟨a, _, rfl⟩, _⟩ := (l4 x).1 (List.mem_filter.1 hx).1
    have := setOf_len m a
    omega
  have hLl := List.length_filter_le (fun s : List Int => decide (fitsP kind s.length k)) L
  obtain ⟨ys, y1, y2, y3⟩ := l2Sorted_eq (N := N) (xs := L.filter fun s => decide (fitsP kind s.length k)) (by omega) hLr hN
  have hst : ThSt m es kind k ys := ⟨y2, fun s => by rw [y3 s, List.mem_filter, l4 s, decide_eq_true_eq, and_assoc]⟩
  have hin : ∀ s ∈ ys, ∃ a : Nat, a < 2 ^ m ∧ s = setOf m a := fun s hs => ((hst.2 s).1 hs).1
  have hsm := lex_small y2 hin
  refine ⟨ys, hst, ?_⟩
  unfold spec_l4Threshold
  simp only []
  rw [l1, bind_some']
  simp only []
  rw [filt_thr (by omega) hN, y1, bind_some']
  simp only []
  exact thr_loop hm y2 hin (by omega) hN
theorem threshold_eq {N m : Nat} {es : List (Int × Int)} {kind k : Int} {ys : List (List Int)} (hm : m ≤ 8) (hg : goodG ((m : Int), es)) (hx : es.length ≤ 1048576) (hst : ThSt m es kind k ys) (hN : 1048577 ≤ N) : impl_Graph_threshold N ((m : Int), es) kind k = some (((ys, stepsL addP ys), ()), ()) := by
  have hin : ∀ s ∈ ys, ∃ a : Nat, a < 2 ^ m ∧ s = setOf m a := fun s hs => ((hst.2 s).1 hs).1
  have hsm := lex_small hst.1 hin
  have h256 := pow256 hm
  unfold impl_Graph_threshold
  simp only []
  rw [sets_eq (p := fun s => decide (hasK m es kind s ∧ fitsP kind s.length k)) hm (fun a ha => ?_) hst.1 (fun s => by rw [hst.2 s, decide_eq_true_eq]) hN, bind_some']
  · simp only []
    rw [spaceOf_g (xs := ys) (p := addP) (SortFunc_rows (by omega) (fun x hx => by obtain ⟨a, _, rfl⟩ := hin x hx; have := setOf_len m a; omega) (lex_nodup hst.1) hst.1 (fun _ => Iff.rfl) hN) hst.1 (by omega) (fun a ha b hb _ => ?_) hN, bind_some']
    obtain ⟨A, hA, rfl⟩ := hin a ha
    obtain ⟨B, hB, rfl⟩ := hin b hb
    show (impl_isAdding N _ _).bind _ = _
    rw [isAdding_eq hm hA hB hN]
    rfl
  · unfold impl_Graph_threshold_c1
    simp only [bag_size_eq hm ha, hasKind_eq hm ha hg hx hN, bind_some']
    by_cases h2 : kind = 2
    · have hf : fitsP kind (setOf m a).length k ↔ k ≤ ((setOf m a).length : Int) := by unfold fitsP; rw [if_pos h2]
      rw [ieq_t h2, br_t, ine_f h2, br_f]
      by_cases h3 : k ≤ ((setOf m a).length : Int)
      · rw [ilt_f (by omega), br_f, bind_some']
        congr 1
        exact decide_eq_decide.2 ⟨fun h => ⟨h, hf.2 h3⟩, fun h => h.1⟩
      · rw [ilt_t (by omega), br_t, bind_some', decide_eq_false (fun h => h3 (hf.1 h.2))]
    · have hf : fitsP kind (setOf m a).length k ↔ ((setOf m a).length : Int) ≤ k := by unfold fitsP; rw [if_neg h2]
      rw [ieq_f h2, br_f, ine_t h2, br_t]
      by_cases h3 : ((setOf m a).length : Int) ≤ k
      · rw [ilt_f (by omega), br_f, bind_some']
        congr 1
        exact decide_eq_decide.2 ⟨fun h => ⟨h, hf.2 h3⟩, fun h => h.1⟩
      · rw [ilt_t (by omega), br_t, bind_some', decide_eq_false (fun h => h3 (hf.1 h.2))]
theorem risingP {m : Nat} {s : List Int} (h : rising 0 ((m : Int) - 1) s) : s.Pairwise (· < ·) := rising_strict h
theorem risingN {m : Nat} {s : List Int} (h : rising 0 ((m : Int) - 1) s) : ∀ z ∈ s, InN m z := fun z hz => by
  have := rising_in h z hz
  exact ⟨this.1, by omega⟩
theorem rising_set {m : Nat} {s : List Int} (hm : m ≤ 8) (h : rising 0 ((m : Int) - 1) s) : ∃ A : Nat, A < 2 ^ m ∧ s = setOf m A := by
  have hin := risingN h
  have hnd : s.Nodup := (risingP h).imp fun h e => by omega
  have hl : s.length ≤ m := by
    have := nodup_le hnd (b := (List.range' 0 m).map fun i : Nat => (i : Int)) fun z hz => by
      obtain ⟨k, hk, rfl⟩ := nat_of (hin z hz)
      exact List.mem_map.2 ⟨k, List.mem_range'_1.2 (by omega), rfl⟩
    simpa using this
  obtain ⟨q, q1, q2, q3⟩ := bagOf_eq (N := 1048577) (xs := s) (fun y hy => by have := hin y hy; unfold InN at this; omega) (by omega) (Nat.le_refl _)
  have hq : ∀ i, m ≤ i → q.testBit i = false := fun i hi => by
    refine Bool.eq_false_iff.2 fun h => ?_
    have := hin _ ((q3 i).1 h)
    unfold InN at this
    omega
  have hq2 : q < 2 ^ m := Nat.lt_pow_two_of_testBit q hq
  refine ⟨q, hq2, asc_ext (risingP h) (setOf_strict m q) fun z => ?_⟩
  constructor
  · intro hz
    obtain ⟨k, hk, rfl⟩ := nat_of (hin z hz)
    exact mem_setN.2 ⟨hk, (q3 k).2 hz⟩
  · intro hz
    obtain ⟨k, hk, hb, rfl⟩ := mem_setOf.1 hz
    exact (q3 k).1 hb
def ofK (g : Int × List (Int × Int)) (kind : Int) (s : List Int) : Prop := (goodG g ∧ 1 ≤ kind ∧ kind ≤ 3) ∧ rising 0 (g.1 - 1) s ∧ hasK g.1.toNat g.2 kind s
theorem l4Good_eq {N : Nat} {g : Int × List (Int × Int)} {kind : Int} (hx : g.2.length ≤ 1048576) (hN : 1048577 ≤ N) : spec_l4Good N g kind = some ((decide (goodG g ∧ 1 ≤ kind ∧ kind ≤ 3), ()), ()) := by
  unfold spec_l4Good spec_l4Kind
  simp only [show ((g.1, g.2) : Int × List (Int × Int)) = g from rfl, l2Good_eq hx hN, l1In_eq, bind_some']
  by_cases h : goodG g
  · rw [decide_eq_true h, br_t]; simp [h]
  · rw [decide_eq_false h, br_f]; simp [h]
theorem l4One_eq {N : Nat} {g : Int × List (Int × Int)} {kind : Int} {s : List Int} (hx : g.2.length ≤ 1048576) (hs : s.length ≤ 1048576) (hN : 1048577 ≤ N) : spec_l4One N g kind s = some ((decide (ofK g kind s), ()), ()) := by
  unfold spec_l4One spec_HasKind spec_l2Set
  simp only [show ((g.1, g.2) : Int × List (Int × Int)) = g from rfl]
  rw [l4Good_eq hx hN, bind_some']
  by_cases h : goodG g ∧ 1 ≤ kind ∧ kind ≤ 3
  · have hg1 := h.1.1
    rw [decide_eq_true h]
    simp only [Bool.not_true, br_f]
    rw [wrap_ok (by omega) (by omega), l1Rising_eq hs hN, bind_some', bind_some']
    by_cases h2 : rising 0 (g.1 - 1) s
    · rw [decide_eq_true h2]
      simp only [Bool.not_true, br_f]
      obtain ⟨m, hm⟩ : ∃ m : Nat, g.1 = (m : Int) := ⟨g.1.toNat, by omega⟩
      obtain ⟨g1, es⟩ := g
      simp only [] at hm hx hg1 ⊢
      subst hm
      rw [l4Has_eq (by omega) hx hs hN, bind_some', bind_some']
      by_cases h3 : hasK m es kind s
      · rw [decide_eq_true h3, br_t, decide_eq_true (show ofK ((m : Int), es) kind s from ⟨h, h2, h3⟩)]
      · rw [decide_eq_false h3, br_f, decide_eq_false (fun q : ofK ((m : Int), es) kind s => h3 q.2.2)]
    · rw [decide_eq_false h2, decide_eq_false (fun q : ofK g kind s => h2 q.2.1)]
      rfl
  · rw [decide_eq_false h, decide_eq_false (fun q : ofK g kind s => h q.1)]
    rfl
theorem isOfKind_eq {N : Nat} {g : Int × List (Int × Int)} {kind : Int} {s : List Int} (hx : g.2.length ≤ 1048576) (hs : s.length ≤ 1048576) (hN : 1048577 ≤ N) : impl_isOfKind N g kind s = some ((decide (ofK g kind s), ()), ()) := by
  unfold impl_isOfKind impl_HasKind impl_isSetCase impl_isKind
  simp only [show ((g.1, g.2) : Int × List (Int × Int)) = g from rfl]
  rw [IsGraph_eq hx hN, bind_some']
  by_cases h : goodG g
  · have hg1 := h.1
    rw [decide_eq_true h, br_t]
    simp only [between_eq, bind_some']
    by_cases hk : 1 ≤ kind ∧ kind ≤ 3
    · rw [decide_eq_true hk, br_t, isRising_eq hs (by omega) hN, bind_some', bind_some']
      by_cases h2 : rising 0 (g.1 - 1) s
      · rw [decide_eq_true h2]
        simp only [Bool.not_true, br_f]
        obtain ⟨m, hm⟩ : ∃ m : Nat, g.1 = (m : Int) := ⟨g.1.toNat, by omega⟩
        obtain ⟨g1, es⟩ := g
        simp only [] at hm hx hg1 ⊢
        subst hm
        obtain ⟨A, hA, rfl⟩ := rising_set (by omega) h2
        rw [bagOf_set (by omega) hA hN, bind_some']
        simp only []
        rw [hasKind_eq (by omega) hA h hx hN, bind_some', bind_some']
        congr 3
        exact decide_eq_decide.2 ⟨fun q => ⟨⟨h, hk⟩, h2, q⟩, fun q => q.2.2⟩
      · rw [decide_eq_false h2, decide_eq_false (fun q : ofK g kind s => h2 q.2.1)]
        rfl
    · rw [decide_eq_false hk, decide_eq_false (fun q : ofK g kind s => hk q.1.2)]
      rfl
  · rw [decide_eq_false h, decide_eq_false (fun q : ofK g kind s => h q.1.1)]
    rfl
theorem Wk_in {L : List (List Int)} {m : Nat} {x y : Int} (hl : okLists L m) (hx : InN m x) (h : Wk L x y) : InN m y := by
  induction h with
  | base => exact hx
  | step _ hz ih => exact (okL_row hl ih).2 _ hz
theorem Wk_trans {L : List (List Int)} {x y z : Int} (h1 : Wk L x y) (h2 : Wk L y z) : Wk L x z := by
  induction h2 with
  | base => exact h1
  | step _ h ih => exact .step ih h
def symL (L : List (List Int)) (m : Nat) : Prop := ∀ y z, InN m y → InN m z → z ∈ rdL L y → y ∈ rdL L z
theorem Wk_symm {L : List (List Int)} {m : Nat} {x y : Int} (hl : okLists L m) (hs : symL L m) (hx : InN m x) (h : Wk L x y) : Wk L y x := by
  induction h with
  | base => exact .base
  | step h1 hz ih =>
    have hy := Wk_in hl hx h1
    have hz' := (okL_row hl hy).2 _ hz
    exact Wk_trans (.step .base (hs _ _ hy hz' hz)) ih
theorem clique_mem {s : List Int} (hs : s.Pairwise (· < ·)) {p : Int → Int → Prop} : (∀ i j : Nat, i < s.length → j < i → p (rdI s (i : Int)) (rdI s (j : Int))) ↔ ∀ x ∈ s, ∀ y ∈ s, y < x → p x y := by
  constructor
  · intro h x hx y hy hxy
    obtain ⟨i, hi, rfl⟩ := List.getElem_of_mem hx
    obtain ⟨j, hj, rfl⟩ := List.getElem_of_mem hy
    have hji : j < i := by
      refine Nat.lt_of_not_le fun hle => ?_
      by_cases e : i = j
      · subst e; omega
      · have := List.pairwise_iff_getElem.1 hs i j hi hj (by omega)
        omega
    have := h i j hi hji
    rwa [rdI_n hi, rdI_n hj] at this
  · intro h i j hi hj
    rw [rdI_n hi, rdI_n (show j < s.length by omega)]
    exact h _ (List.getElem_mem hi) _ (List.getElem_mem _) (List.pairwise_iff_getElem.1 hs j i (by omega) hi hj)
def toward (T : Nat) : Nat → Nat → Nat
  | 0, A => A
  | x + 1, A => if (toward T x A).testBit x = T.testBit x then toward T x A else toward T x A ^^^ 2 ^ x
theorem toward_bit {T A : Nat} : ∀ (x i : Nat), (toward T x A).testBit i = if i < x then T.testBit i else A.testBit i := by
  intro x
  induction x with
  | zero => intro i; rfl
  | succ x ih =>
    intro i
    unfold toward
    split
    · rename_i h
      rw [ih i]
      by_cases e : i = x
      · subst e
        rw [ih i] at h
        rw [if_neg (Nat.lt_irrefl i)] at h ⊢
        rw [if_pos (by omega), h]
      · by_cases h2 : i < x
        · rw [if_pos h2, if_pos (by omega)]
        · rw [if_neg h2, if_neg (by omega)]
    · rename_i h
      rw [xor_bit, ih i]
      by_cases e : x = i
      · subst e
        rw [ih x] at h
        rw [if_neg (Nat.lt_irrefl x)] at h ⊢
        rw [if_pos (by omega)]
        cases h1 : A.testBit x <;> cases h2 : T.testBit x <;> simp_all
      · by_cases h2 : i < x
        · rw [if_pos h2, if_pos (by omega)]; simp [e]
        · rw [if_neg h2, if_neg (by omega)]; simp [e]
theorem toward_lt {T A m : Nat} (hT : T < 2 ^ m) (hA : A < 2 ^ m) {x : Nat} : toward T x A < 2 ^ m := by
  refine Nat.lt_pow_two_of_testBit _ fun i hi => ?_
  rw [toward_bit]
  split
  · exact bit_out hT hi
  · exact bit_out hA hi
theorem toward_end {T A m : Nat} (hT : T < 2 ^ m) (hA : A < 2 ^ m) : toward T m A = T := by
  refine Nat.eq_of_testBit_eq fun i => ?_
  rw [toward_bit]
  split
  · rfl
  · rename_i h
    rw [bit_out hA (by omega), bit_out hT (by omega)]
theorem addP_symm {a b : List Int} : addP a b = addP b a := by
  unfold addP
  exact decide_eq_decide.2 (by omega)
theorem xor_ne (A x : Nat) : A ^^^ 2 ^ x ≠ A := fun h => by
  have := congrArg (fun n => Nat.testBit n x) h
  simp only [xor_bit] at this
  cases h : A.testBit x <;> simp [h] at this
theorem add_near {m A x : Nat} {ys : List (List Int)} (hA : A < 2 ^ m) (hx : x < m) (h1 : setOf m A ∈ ys) (h2 : setOf m (A ^^^ 2 ^ x) ∈ ys) : ((ys.idxOf (setOf m (A ^^^ 2 ^ x)) : Nat) : Int) ∈ rdL (nbL ys.length (stepsL addP ys)) ((ys.idxOf (setOf m A) : Nat) : Int) := by
  have i1 := idx_lt h1
  have i2 := idx_lt h2
  have r1 := idx_rd h1
  have r2 := idx_rd h2
  rw [nbL_rd (in_nat i1), mem_nbS stepsL_ok]
  have hp : addP (setOf m A) (setOf m (A ^^^ 2 ^ x)) = true := (addP_iff hA (xor_lt hA hx)).2 ⟨x, hx, rfl⟩
  have hne : ys.idxOf (setOf m A) ≠ ys.idxOf (setOf m (A ^^^ 2 ^ x)) := fun e => by
    rw [e, r2] at r1
    exact xor_ne A x (setOf_inj (xor_lt hA hx) hA r1)
  by_cases hlt : ys.idxOf (setOf m A) < ys.idxOf (setOf m (A ^^^ 2 ^ x))
  · exact .inr (mem_stepsL.2 ⟨_, _, rfl, hlt, i2, by rw [r1, r2]; exact hp⟩)
  · exact .inl (mem_stepsL.2 ⟨_, _, rfl, by omega, i1, by rw [r1, r2, addP_symm]; exact hp⟩)
theorem toward_way {m T A : Nat} {ys : List (List Int)} (hT : T < 2 ^ m) (hA : A < 2 ^ m) (h : ∀ x, x ≤ m → setOf m (toward T x A) ∈ ys) : Wk (nbL ys.length (stepsL addP ys)) ((ys.idxOf (setOf m A) : Nat) : Int) ((ys.idxOf (setOf m T) : Nat) : Int) := by
  have key : ∀ x, x ≤ m → Wk (nbL ys.length (stepsL addP ys)) ((ys.idxOf (setOf m A) : Nat) : Int) ((ys.idxOf (setOf m (toward T x A)) : Nat) : Int) := by
    intro x
    induction x with
    | zero => intro _; exact .base
    | succ x ih =>
      intro hx
      have h1 := ih (by omega)
      have h2 := h (x + 1) hx
      unfold toward at h2 ⊢
      split
      · exact h1
      · rename_i hb
        rw [if_neg hb] at h2
        exact .step h1 (add_near (toward_lt hT hA) (by omega) (h x (by omega)) h2)
  have := key m (Nat.le_refl m)
  rwa [toward_end hT hA] at this
theorem wk_wl {L : List (List Int)} {x y : Int} (h : Wk L x y) : ∃ k, Wl L x k y := by
  induction h with
  | base => exact ⟨0, .base⟩
  | step _ hz ih =>
    obtain ⟨k, hk⟩ := ih
    exact ⟨k + 1, .step hk hz⟩
theorem nbL_symL {n : Nat} {st : List (Int × Int)} (h : okSt n st) : symL (nbL n st) n := fun _ _ hy hz hm => nbL_sym h hy hz hm
theorem way_some {xs : List (List Int)} {st : List (Int × Int)} {a b : List Int} (hn : xs.length ≤ 1048576) (h : okSt xs.length st) (ha : a ∈ xs) (hb : b ∈ xs) : wayS xs st a b ≠ [] ↔ Wk (nbL xs.length st) ((xs.idxOf b : Nat) : Int) ((xs.idxOf a : Nat) : Int) := by
  have hl := nbL_ok hn h
  obtain ⟨s1, s2, s3, s4, s5, s6⟩ := bfsD_spec hl (in_nat (idx_lt hb))
  unfold wayS wayI
  by_cases hlt : rdI (bfsD (nbL xs.length st) xs.length ((xs.idxOf b : Nat) : Int)) ((xs.idxOf a : Nat) : Int) < 0
  · rw [if_pos hlt]
    refine ⟨fun h => absurd rfl h, fun hw => ?_⟩
    obtain ⟨k, hk⟩ := wk_wl hw
    have := (s6 _ _ hk).2.1
    omega
  · rw [if_neg hlt]
    refine ⟨fun _ => ?_, fun _ => by simp⟩
    have hw := s5 _ (in_nat (idx_lt ha)) (by omega)
    have key : ∀ {k : Nat} {y : Int}, Wl (nbL xs.length st) ((xs.idxOf b : Nat) : Int) k y → Wk (nbL xs.length st) ((xs.idxOf b : Nat) : Int) y := by
      intro k y hk
      induction hk with
      | base => exact .base
      | step _ hz ih => exact .step ih hz
    exact key hw
theorem hasK_up {m : Nat} {es : List (Int × Int)} {kind : Int} {s t : List Int} (hk : kind ≠ 2) (hst : ∀ x ∈ s, x ∈ t) (h : hasK m es kind s) : hasK m es kind t := by
  unfold hasK at *
  by_cases h1 : kind = 1
  · rw [if_pos h1] at h ⊢
    exact fun e he => (h e he).imp (hst _) (hst _)
  · rw [if_neg h1, if_neg hk] at h ⊢
    exact fun x hx => (h x hx).imp (hst _) fun ⟨y, hy, hn⟩ => ⟨y, hst y hy, hn⟩
theorem hasK_down {m : Nat} {es : List (Int × Int)} {A B : Nat} (hst : ∀ x ∈ setOf m B, x ∈ setOf m A) (h : hasK m es 2 (setOf m A)) : hasK m es 2 (setOf m B) := by
  unfold hasK at *
  rw [if_neg (by decide), if_pos rfl] at h ⊢
  rw [clique_mem (p := fun x y => nearG es x y) (setOf_strict m _)] at h ⊢
  exact fun x hx y hy hxy => h x (hst x hx) y (hst y hy) hxy
def wideK (m : Nat) (kind : Int) : Int := if kind = 2 then 0 else (m : Int)
theorem wide_way {m A B : Nat} {es : List (Int × Int)} {kind : Int} {ys : List (List Int)} (hst : ThSt m es kind (wideK m kind) ys) (hA : A < 2 ^ m) (hB : B < 2 ^ m) (ha : hasK m es kind (setOf m A)) (hb : hasK m es kind (setOf m B)) (hn : ys.length ≤ 1048576) :
    Wk (nbL ys.length (stepsL addP ys)) ((ys.idxOf (setOf m B) : Nat) : Int) ((ys.idxOf (setOf m A) : Nat) : Int) := by
  have hmem : ∀ C : Nat, C < 2 ^ m → hasK m es kind (setOf m C) → setOf m C ∈ ys := fun C hC hK => by
    refine (hst.2 _).2 ⟨⟨C, hC, rfl⟩, hK, ?_⟩
    unfold fitsP wideK
    have := setOf_len m C
    by_cases h : kind = 2
    · rw [if_pos h, if_pos h]; omega
    · rw [if_neg h, if_neg h]; omega
  obtain ⟨T, hT, key⟩ : ∃ T, T < 2 ^ m ∧ ∀ C : Nat, C < 2 ^ m → hasK m es kind (setOf m C) → ∀ x, x ≤ m → setOf m (toward T x C) ∈ ys := by
    by_cases h : kind = 2
    · subst h
      refine ⟨0, Nat.two_pow_pos m, fun C hC hK x hx => hmem _ (toward_lt (Nat.two_pow_pos m) hC) (hasK_down (A := C) (fun z hz => ?_) hK)⟩
      obtain ⟨i, hi, hbi, rfl⟩ := mem_setOf.1 hz
      rw [toward_bit] at hbi
      refine mem_setN.2 ⟨hi, ?_⟩
      by_cases h2 : i < x
      · rw [if_pos h2] at hbi; simp at hbi
      · rwa [if_neg h2] at hbi
    · have h2 : 2 ^ m - 1 < 2 ^ m := by have := Nat.two_pow_pos m; omega
      refine ⟨2 ^ m - 1, h2, fun C hC hK x hx => hmem _ (toward_lt h2 hC) (hasK_up h (s := setOf m C) (fun z hz => ?_) hK)⟩
      obtain ⟨i, hi, hbi, rfl⟩ := mem_setOf.1 hz
      refine mem_setN.2 ⟨hi, ?_⟩
      rw [toward_bit]
      split
      · rw [Nat.testBit_two_pow_sub_one]; simpa using hi
      · exact hbi
  have hl := nbL_ok hn (stepsL_ok (p := addP) (xs := ys))
  have w1 := toward_way hT hA (key A hA ha)
  have w2 := toward_way hT hB (key B hB hb)
  exact Wk_trans w2 (Wk_symm hl (nbL_symL stepsL_ok) (in_nat (idx_lt (hmem A hA ha))) w1)
theorem l1Least_eq {N : Nat} {x y : Int} : spec_l1Least N x y = some (((if x < y then x else y), ()), ()) := by
  unfold spec_l1Least
  by_cases h : x < y
  · rw [ilt_t h, br_t, if_pos h]
  · rw [ilt_f h, br_f, if_neg h]
def leftK (m : Nat) (kind k : Int) (d : Nat) : Prop := if kind = 2 then k = (d : Int) else k + (d : Int) = (m : Int)
theorem pass_loop {N m A B : Nat} {es : List (Int × Int)} {kind : Int} (hm : m ≤ 8) (hg : goodG ((m : Int), es)) (hx : es.length ≤ 1048576) (hA : A < 2 ^ m) (hB : B < 2 ^ m) (ha : hasK m es kind (setOf m A)) (hb : hasK m es kind (setOf m B)) (hN : 1048577 ≤ N) {k1 : Unit → Option ((Int × List (List Int) × Bool × Unit) × Unit)} :
    ∀ (d : Nat) (k : Int) (Ks Ki : Nat), leftK m kind k d → d < Ks → d < Ki → fitsP kind (setOf m A).length k → fitsP kind (setOf m B).length k →
      ∃ (k' : Int) (w : List (List Int)), spec_l4Between_l0 N (fun x o => some ((x, o, ()), ())) Ks kind (setOf m A) (setOf m B) k (if kind = 2 then -1 else 1) (m : Int) es = some ((k', w, ()), ()) ∧
        impl_Graph_passage_l0 N (fun x x1 o => some ((x, o, x1, ()), ())) k1 Ki kind (setOf m A) (setOf m B) k (if kind = 2 then -1 else 1) (m : Int) es = some ((k', w, true, ()), ()) ∧ w.length ≤ 256 ∧ ∀ x ∈ w, x.length ≤ 8 := by
  have h256 := pow256 hm
  intro d
  induction d with
  | zero =>
    intro k Ks Ki hk hKs hKi fa fb
    obtain ⟨Ks, rfl⟩ := succ_of hKs
    obtain ⟨Ki, rfl⟩ := succ_of hKi
    have hkw : k = wideK m kind := by
      unfold leftK at hk
      unfold wideK
      by_cases h : kind = 2
      · rw [if_pos h] at hk ⊢; omega
      · rw [if_neg h] at hk ⊢; omega
    have hkr : 0 ≤ k ∧ k ≤ (m : Int) := by
      rw [hkw]; unfold wideK; split <;> omega
    obtain ⟨ys, y1, y2⟩ := l4Thr_eq (kind := kind) (k := k) hm hx hN
    have y3 := threshold_eq hm hg hx y1 hN
    have hin : ∀ s ∈ ys, ∃ a : Nat, a < 2 ^ m ∧ s = setOf m a := fun s hs => ((y1.2 s).1 hs).1
    have hsm := lex_small y1.1 hin
    have hrow : ∀ x ∈ ys, x.length ≤ 1048576 := fun x hx => by obtain ⟨A, _, rfl⟩ := hin x hx; have := setOf_len m A; omega
    have hay := (y1.2 _).2 ⟨⟨A, hA, rfl⟩, ha, fa⟩
    have hby := (y1.2 _).2 ⟨⟨B, hB, rfl⟩, hb, fb⟩
    have hsl := stepsL_len addP ys
    have h65 : ys.length * ys.length ≤ 256 * 256 := Nat.mul_le_mul (by omega) (by omega)
    have hne : wayS ys (stepsL addP ys) (setOf m A) (setOf m B) ≠ [] := (way_some (by omega) stepsL_ok hay hby).2 (wide_way (hkw ▸ y1) hA hB ha hb (by omega))
    have hnI : 0 < (wayI ys (stepsL addP ys) (ys.idxOf (setOf m A)) (ys.idxOf (setOf m B))).length := by
      refine Nat.pos_of_ne_zero fun e => hne ?_
      unfold wayS
      rw [List.eq_nil_of_length_eq_zero e]
      rfl
    have hw1 := wayI_len (xs := ys) (st := stepsL addP ys) (i := ys.idxOf (setOf m A)) (j := ys.idxOf (setOf m B)) (by omega) stepsL_ok (idx_lt hay) (idx_lt hby)
    refine ⟨k, wayS ys (stepsL addP ys) (setOf m A) (setOf m B), ?_, ?_, Nat.le_trans (wayS_len (by omega) stepsL_ok hay hby) (by omega), fun x hx => ?_⟩
    · simp only [spec_l4Between_l0]
      rw [y2, bind_some']
      simp only []
      rw [index_in (by omega) hrow hay hN, index_in (by omega) hrow hby hN, bind_some', bind_some']
      simp only []
      rw [l2Walk_eq (by omega) (by omega) stepsL_ok (idx_lt hay) (idx_lt hby) hN, bind_some']
      simp only []
      rw [tLen_n, ilt_t (by omega), br_t, named_eq hrow (wayI_in (by omega) stepsL_ok (idx_lt hay) (idx_lt hby)) (by omega) hN, bind_some']
      rfl
    · simp only [impl_Graph_passage_l0]
      rw [between_eq, bind_some', decide_eq_true (show 0 ≤ k ∧ k ≤ (m : Int) from hkr), br_t, y3, bind_some']
      simp only []
      rw [walk_eq y1.1 hrow (by omega) (by omega) stepsL_ok hay hby hN, bind_some']
      simp only []
      rw [decide_eq_true hne, br_t]
    · obtain ⟨C, _, rfl⟩ := hin x (wayS_in (by omega) stepsL_ok hay hby x hx)
      have := setOf_len m C
      omega
  | succ d ih =>
    intro k Ks Ki hk hKs hKi fa fb
    obtain ⟨Ks, rfl⟩ := succ_of hKs
    obtain ⟨Ki, rfl⟩ := succ_of hKi
    have hla := setOf_len m A
    have hkr : 0 ≤ k ∧ k ≤ (m : Int) := by
      unfold leftK at hk
      unfold fitsP at fa
      by_cases h : kind = 2
      · rw [if_pos h] at hk fa; omega
      · rw [if_neg h] at hk fa; omega
    obtain ⟨ys, y1, y2⟩ := l4Thr_eq (kind := kind) (k := k) hm hx hN
    have y3 := threshold_eq hm hg hx y1 hN
    have hin : ∀ s ∈ ys, ∃ a : Nat, a < 2 ^ m ∧ s = setOf m a := fun s hs => ((y1.2 s).1 hs).1
    have hsm := lex_small y1.1 hin
    have hrow : ∀ x ∈ ys, x.length ≤ 1048576 := fun x hx => by obtain ⟨A, _, rfl⟩ := hin x hx; have := setOf_len m A; omega
    have hay := (y1.2 _).2 ⟨⟨A, hA, rfl⟩, ha, fa⟩
    have hby := (y1.2 _).2 ⟨⟨B, hB, rfl⟩, hb, fb⟩
    have hsl := stepsL_len addP ys
    have h65 : ys.length * ys.length ≤ 256 * 256 := Nat.mul_le_mul (by omega) (by omega)
    have hw1 := wayI_len (xs := ys) (st := stepsL addP ys) (i := ys.idxOf (setOf m A)) (j := ys.idxOf (setOf m B)) (by omega) stepsL_ok (idx_lt hay) (idx_lt hby)
    simp only [spec_l4Between_l0, impl_Graph_passage_l0]
    rw [between_eq, bind_some', decide_eq_true (show 0 ≤ k ∧ k ≤ (m : Int) from hkr), br_t, y3, y2, bind_some', bind_some']
    simp only []
    rw [index_in (by omega) hrow hay hN, index_in (by omega) hrow hby hN, bind_some', bind_some']
    simp only []
    rw [l2Walk_eq (by omega) (by omega) stepsL_ok (idx_lt hay) (idx_lt hby) hN, walk_eq y1.1 hrow (by omega) (by omega) stepsL_ok hay hby hN, bind_some', bind_some']
    simp only []
    by_cases hne : wayS ys (stepsL addP ys) (setOf m A) (setOf m B) ≠ []
    · have hnI : 0 < (wayI ys (stepsL addP ys) (ys.idxOf (setOf m A)) (ys.idxOf (setOf m B))).length := by
        refine Nat.pos_of_ne_zero fun e => hne ?_
        unfold wayS
        rw [List.eq_nil_of_length_eq_zero e]
        rfl
      refine ⟨k, wayS ys (stepsL addP ys) (setOf m A) (setOf m B), ?_, ?_, Nat.le_trans (wayS_len (by omega) stepsL_ok hay hby) (by omega), fun x hx => ?_⟩
      · rw [tLen_n, ilt_t (by omega), br_t, named_eq hrow (wayI_in (by omega) stepsL_ok (idx_lt hay) (idx_lt hby)) (by omega) hN, bind_some']
        rfl
      · rw [decide_eq_true hne, br_t]
      · obtain ⟨C, _, rfl⟩ := hin x (wayS_in (by omega) stepsL_ok hay hby x hx)
        have := setOf_len m C
        omega
    · have hnI : (wayI ys (stepsL addP ys) (ys.idxOf (setOf m A)) (ys.idxOf (setOf m B))).length = 0 := by
        have := Classical.not_not.1 hne
        unfold wayS at this
        rw [List.map_eq_nil_iff.1 this]
        rfl
      have hwr : IntKind.i64.wrap (k + (if kind = 2 then -1 else 1)) = k + (if kind = 2 then -1 else 1) := by
        refine wrap_ok ?_ ?_ <;> split <;> omega
      rw [tLen_n, hnI, ilt_f (by omega), br_f, decide_eq_false hne, br_f, hwr]
      refine ih _ Ks Ki ?_ (by omega) (by omega) ?_ ?_
      · unfold leftK at hk ⊢
        by_cases h : kind = 2
        · rw [if_pos h] at hk ⊢; rw [if_pos h]; omega
        · rw [if_neg h] at hk ⊢; rw [if_neg h]; omega
      · unfold fitsP at fa ⊢
        by_cases h : kind = 2
        · rw [if_pos h] at fa ⊢; rw [if_pos h]; omega
        · rw [if_neg h] at fa ⊢; rw [if_neg h]; omega
      · unfold fitsP at fb ⊢
        by_cases h : kind = 2
        · rw [if_pos h] at fb ⊢; rw [if_pos h]; omega
        · rw [if_neg h] at fb ⊢; rw [if_neg h]; omega
theorem imin (a b : Nat) : (if (a : Int) < (b : Int) then (a : Int) else (b : Int)) = ((min a b : Nat) : Int) := by
  by_cases h : (a : Int) < (b : Int)
  · rw [if_pos h]; omega
  · rw [if_neg h]; omega
theorem imax (a b : Nat) : (if (b : Int) < (a : Int) then (a : Int) else (b : Int)) = ((max a b : Nat) : Int) := by
  by_cases h : (b : Int) < (a : Int)
  · rw [if_pos h]; omega
  · rw [if_neg h]; omega
theorem Thr_pass {N : Nat} {g : Int × List (Int × Int)} {kind : Int} {a b : List Int} (hx : g.2.length ≤ 1048576) (ha : ofK g kind a) (hb : ofK g kind b) (hN : 1048577 ≤ N) :
    ∃ (k : Int) (w : List (List Int)), spec_l4Between N g kind a b = some ((k, w, ()), ()) ∧ impl_Graph_passage N g kind a b = some ((k, w, true, ()), ()) ∧ w.length ≤ 256 ∧ ∀ x ∈ w, x.length ≤ 8 := by
  obtain ⟨⟨hg, hk⟩, ha2, ha3⟩ := ha
  obtain ⟨_, hb2, hb3⟩ := hb
  have hg1 := hg.1
  obtain ⟨m, hm⟩ : ∃ m : Nat, g.1 = (m : Int) := ⟨g.1.toNat, by omega⟩
  obtain ⟨g1, es⟩ := g
  simp only [] at hm hx hg1 ha2 ha3 hb2 hb3
  subst hm
  simp only [Int.toNat_natCast] at ha3 hb3
  obtain ⟨A, hA, rfl⟩ := rising_set (by omega) ha2
  obtain ⟨B, hB, rfl⟩ := rising_set (by omega) hb2
  have hla := setOf_len m A
  have hlb := setOf_len m B
  unfold spec_l4Between impl_Graph_passage
  simp only []
  rw [l1Most_eq, bind_some']
  simp only []
  by_cases h2 : kind = 2
  · rw [ieq_t h2, br_t, br_t, l1Least_eq, bind_some']
    simp only []
    have e1 : (if tLen (setOf m A) < tLen (setOf m B) then tLen (setOf m A) else tLen (setOf m B)) = ((min (setOf m A).length (setOf m B).length : Nat) : Int) := imin _ _
    have e2 : (if tLen (setOf m B) < tLen (setOf m A) then tLen (setOf m B) else tLen (setOf m A)) = ((min (setOf m A).length (setOf m B).length : Nat) : Int) := by rw [Nat.min_comm]; exact imin _ _
    rw [e1, e2]
    have := pass_loop (N := N) (k1 := fun (_ : Unit) => some ((0, [], false, ()), ())) (by omega) hg hx hA hB ha3 hb3 hN (min (setOf m A).length (setOf m B).length) _ N N (by unfold leftK; rw [if_pos h2]) (by omega) (by omega) (by unfold fitsP; rw [if_pos h2]; omega) (by unfold fitsP; rw [if_pos h2]; omega)
    rw [if_pos h2] at this
    exact this
  · rw [ieq_f h2, br_f, br_f]
    have e1 : (if tLen (setOf m B) < tLen (setOf m A) then tLen (setOf m A) else tLen (setOf m B)) = ((max (setOf m A).length (setOf m B).length : Nat) : Int) := imax _ _
    have e2 : (if tLen (setOf m B) > tLen (setOf m A) then tLen (setOf m B) else tLen (setOf m A)) = ((max (setOf m A).length (setOf m B).length : Nat) : Int) := by rw [Nat.max_comm]; exact imax _ _
    rw [e1, e2]
    have := pass_loop (N := N) (k1 := fun (_ : Unit) => some ((0, [], false, ()), ())) (by omega) hg hx hA hB ha3 hb3 hN (m - max (setOf m A).length (setOf m B).length) ((max (setOf m A).length (setOf m B).length : Nat) : Int) N N (by unfold leftK; rw [if_neg h2]; omega) (by omega) (by omega) (by unfold fitsP; rw [if_neg h2]; omega) (by unfold fitsP; rw [if_neg h2]; omega)
    rw [if_neg h2] at this
    exact this
theorem ThrOf_both {N : Nat} {g : Int × List (Int × Int)} {kind : Int} {a b : List Int} (hx : g.2.length ≤ 1048576) (ha : a.length ≤ 1048576) (hb : b.length ≤ 1048576) (hN : 1048577 ≤ N) :
    ∃ v : Int × Bool, spec_ThresholdOf N g kind a b = some ((v.1, v.2, ()), ()) ∧ impl_ThresholdOf N g kind a b = some ((v.1, v.2, ()), ()) := by
  unfold spec_ThresholdOf impl_ThresholdOf
  simp only [show ((g.1, g.2) : Int × List (Int × Int)) = g from rfl]
  rw [l4One_eq hx ha hN, isOfKind_eq hx ha hN, bind_some', bind_some']
  by_cases h1 : ofK g kind a
  · rw [decide_eq_true h1]
    simp only [Bool.not_true, br_f]
    rw [l4One_eq hx hb hN, isOfKind_eq hx hb hN, bind_some', bind_some']
    by_cases h2 : ofK g kind b
    · rw [decide_eq_true h2]
      simp only [Bool.not_true, br_f]
      obtain ⟨k, w, e1, e2, _⟩ := Thr_pass hx h1 h2 hN
      rw [e1, e2, bind_some', bind_some']
      exact ⟨(k, true), rfl, rfl⟩
    · rw [decide_eq_false h2]
      exact ⟨(0, false), rfl, rfl⟩
  · rw [decide_eq_false h1]
    exact ⟨(0, false), rfl, rfl⟩
theorem ThresholdOf_pure {g : Int × List (Int × Int)} {k : Int} {a b : List Int} (hx : g.2.length ≤ 9223372036854775807) : laws_FnExactThresholdOf 1048577 g k a b = some ((true, ()), ()) := by
  unfold laws_FnExactThresholdOf
  have hN : 1048577 ≤ 1048577 := Nat.le_refl _
  rw [tLen_n, tLen_n]
  by_cases ha : a.length ≤ 1048576
  · rw [ilt_f (by omega), br_f]
    by_cases hb : b.length ≤ 1048576
    · rw [ilt_f (by omega), br_f]
      obtain ⟨r, h1, h2⟩ := szGraph_eq (N := 1048577) hx
      simp only [h1, bind_some']
      by_cases h : 0 ≤ r
      · rw [ilt_f (by omega), br_f]
        have h3 := h2 h
        obtain ⟨v, e1, e2⟩ := ThrOf_both (N := 1048577) (kind := k) h3 ha hb hN
        simp only [toGraph_eq h3 hN, toIntS_eq ha hN, toIntS_eq hb hN, bind_some', e1, e2, ine_f (rfl : v.1 = v.1), eqGraph_eq h3 hN, eqIntS_eq (show a.length ≤ 1099511627776 by omega) (show a.length < 1048577 by omega), eqIntS_eq (show b.length ≤ 1099511627776 by omega) (show b.length < 1048577 by omega), decide_true, Bool.not_true, br_f]
        simp [br_ite]
      · rw [ilt_t (by omega), br_t]
    · rw [ilt_t (by omega), br_t]
  · rw [ilt_t (by omega), br_t]
theorem ThresholdOf_pureT : ∀ x : argsT (psOf [QILQII, I, LI, LI]), WfA [QILQII, I, LI, LI] x → ∃ k m, (laws_FnExactThresholdOf_S k).f x = some ((true, ()), m) :=
  fun x h => ⟨1048577, (), ThresholdOf_pure (len_ok h.1.2.1)⟩
end Go.Proofs.YtbnjcjpnpidhmaaGreat
