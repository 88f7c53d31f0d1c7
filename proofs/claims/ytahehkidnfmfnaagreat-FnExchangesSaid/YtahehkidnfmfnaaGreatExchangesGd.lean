/- Statements on data alone. -/
import Derived.Test.YtahehkidnfmfnaaGreatPvPure
import Derived.Test.YtahehkidnfmfnaaGreatExchangesGc
set_option linter.all false
set_option linter.all false
namespace Go.Proofs.YtahehkidnfmfnaaGreat
open Go Go.PV Classical
theorem moves_eq {N m A B : Nat} (hm : m ≤ 8) (hA : A < 2 ^ m) (hB : B < 2 ^ m) (hN : 1048577 ≤ N) : ∃ x y : Nat, Zq47 N (setOf m A) (setOf m B) = some (((x : Int), (y : Int), ()), ()) ∧ x < 2 ^ m ∧ y < 2 ^ m ∧ setOf m x = loneL (setOf m A) (setOf m B) ∧ setOf m y = loneL (setOf m B) (setOf m A) := by
 obtain ⟨x, x1, x2, x3⟩ := less_set hm hA hB
 obtain ⟨y, y1, y2, y3⟩ := less_set hm hB hA
 refine ⟨x, y, ?_, x2, y2, x3, y3⟩
 unfold Zq47
 rw [bagOf_set hm hA hN, bagOf_set hm hB hN, bind_some', bind_some']
 simp only []
 rw [x1, y1]
noncomputable def exP (es : List (Int × Int)) (near : Bool) (a b : List Int) : Bool := decide ((loneL a b).length = 1) && (!near || decide (nearG es (rdI (loneL a b) 0) (rdI (loneL b a) 0)))
theorem setOf_nodup (m a : Nat) : (setOf m a).Nodup := (setOf_strict m a).imp fun h e => by omega
theorem isJump_eq {N m A B : Nat} {es : List (Int × Int)} (hm : m ≤ 8) (hA : A < 2 ^ m) (hB : B < 2 ^ m) (hl : (setOf m A).length = (setOf m B).length) (hN : 1048577 ≤ N) : Zq38 N (setOf m A) (setOf m B) = some ((exP es false (setOf m A) (setOf m B), ()), ()) := by
 obtain ⟨x, y, h1, x1, y1, x2, y2⟩ := moves_eq hm hA hB hN
 have hll := lone_len (setOf_nodup m A) (setOf_nodup m B) hl
 unfold Zq38 exP
 rw [h1, bind_some']
 simp only []
 rw [bag_size_eq hm x1, bag_size_eq hm y1, bind_some', bind_some', x2, y2]
 simp only [Bool.not_false, Bool.true_or, Bool.and_true]
 by_cases h : (loneL (setOf m A) (setOf m B)).length = 1
 ·rw [ieq_t (by omega), br_t, ieq_t (by omega), decide_eq_true h]
 ·rw [ieq_f (by omega), br_f, decide_eq_false h]
theorem isSlide_eq {N m A B : Nat} {es : List (Int × Int)} (hm : m ≤ 8) (hed : ∀ e ∈ es, e.1 < e.2) (hx : es.length ≤ 1048576) (hA : A < 2 ^ m) (hB : B < 2 ^ m) (hl : (setOf m A).length = (setOf m B).length) (hN : 1048577 ≤ N) : Zq13 N ((m : Int), es) (setOf m A) (setOf m B) = some ((exP es true (setOf m A) (setOf m B), ()), ()) := by
 obtain ⟨x, y, h1, x1, y1, x2, y2⟩ := moves_eq hm hA hB hN
 have hll := lone_len (setOf_nodup m A) (setOf_nodup m B) hl
 unfold Zq13 exP
 rw [h1, bind_some']
 simp only []
 rw [bag_size_eq hm x1, bag_size_eq hm y1, bind_some', bind_some', bag_list_eq hm x1 hN, bag_list_eq hm y1 hN, bind_some', bind_some', x2, y2]
 simp only [Bool.not_true, Bool.false_or]
 by_cases h : (loneL (setOf m A) (setOf m B)).length = 1
 ·rw [ieq_t (by omega), br_t, ieq_t (by omega), br_t, decide_eq_true h, Bool.true_and]
  have i1 : inb (loneL (setOf m A) (setOf m B)) 0 = true := inb_n (n := 0) (by omega)
  have i2 : inb (loneL (setOf m B) (setOf m A)) 0 = true := inb_n (n := 0) (by omega)
  rw [i1, chk_t, i2, chk_t, Graph_has_eq (g := ((m : Int), es)) hed hx hN, bind_some']
 ·rw [ieq_f (by omega), br_f, decide_eq_false h, Bool.false_and]
theorem filt_rows {R : Type} {N : Nat} {L : List (List Int)} {c2 : Nat} {c3 : Bool} {m : Int} {es : List (Int × Int)} {k0 : Bool → Int → List (Int × Int) → List (List Int) → Option R} (hL : L.length ≤ 1048576) (hN : 1048577 ≤ N) :
  Zq117_l0 N k0 N (c2 : Int) c3 L 0 m es [] = k0 c3 m es (L.filter fun s => decide (s.length = c2)) := by
 have key := loop_list (xs := L) (L := fun K n o => Zq117_l0 N k0 K (c2 : Int) c3 L (n : Int) m es o) (k := fun o => k0 c3 m es o) (fun (o : List (List Int)) z => if decide (z.length = c2) = true then o ++ [z] else o) (fun n o => o = (L.take n).filter fun s => decide (s.length = c2)) (fun K n o hn ho => ?_) (fun K n o hn ho => ?_) (fun n o hn ho => ?_) (s := []) (K := N) (by omega) (by simp)
 ·obtain ⟨h1, h2⟩ := key
  simp only [Int.natCast_zero] at h1
  rw [h1, h2, List.take_length]
 ·simp only [Zq117_l0, ilt_lenf hn, br_f]
 ·have hol : o.length ≤ n := by
   rw [ho]
   exact Nat.le_trans (List.length_filter_le ..) (by simp; omega)
  simp only [Zq117_l0, ilt_len hn, br_t, inb_n hn, chk_t, rdL_n hn]
  rw [tLen_n]
  rw [wrap_succ (by omega)]
  by_cases h : L[n].length = c2
  ·rw [ieq_t (by omega), br_t, room_ok (by simp; omega), chk_t, tApp_d, if_pos (decide_eq_true h)]
  ·rw [ieq_f (by omega), br_f, if_neg (by simp [h])]
 ·rw [List.take_add_one, List.getElem?_eq_getElem hn, Option.toList_some, List.filter_append, ← ho]
  by_cases h : L[n].length = c2
  ·rw [if_pos (by simp [h]), List.filter_cons_of_pos (by simp [h])]; rfl
  ·rw [if_neg (by simp [h]), List.filter_cons_of_neg (by simp [h])]; simp
theorem ex_loop {N : Nat} {m : Int} {es : List (Int × Int)} {near : Bool} {xs : List (List Int)} (hes : es.length ≤ 1048576) (hr : ∀ a ∈ xs, a.length ≤ 1048576) (hq : ∀ a ∈ xs, ∀ b ∈ xs, (loneL a b).length = (loneL b a).length) (hx : xs.length < 1024) (hN : 1048577 ≤ N) :
  Zq117_l1 N (fun o6 o7 => some (((o6, o7), ()), ())) N near 0 m es xs [] = some (((xs, stepsL (exP es near) xs), ()), ()) := by
 have hrd : ∀ j : Nat, j < xs.length → rdL xs (j : Int) ∈ xs := fun j hj => by rw [rdL_n hj]; exact List.getElem_mem hj
 have inner : ∀ (d i j K : Nat) (o : List (Int × Int)) (k0 : Bool → Int → Int → List (Int × Int) → List (List Int) → List (Int × Int) → Option (((List (List Int) × List (Int × Int)) × Unit) × Unit)), i < xs.length → j + d = xs.length → d < K → o.length + d ≤ 1099511627776 →
   Zq117_l1_0 N k0 K near (i : Int) (j : Int) m es xs o = k0 near (i : Int) m es xs (o ++ ((List.range' j d).filter fun j : Nat => exP es near (rdL xs (i : Int)) (rdL xs (j : Int))).map fun j : Nat => ((i : Int), (j : Int))) := by
  intro d
  induction d with
  | zero =>
   intro i j K o k0 hi hj hK ho
   obtain ⟨k, rfl⟩ := succ_of hK
   simp only [Zq117_l1_0, ilt_lenf (show ¬ j < xs.length by omega), br_f]
   simp
  | succ d ih =>
   intro i j K o k0 hi hj hK ho
   obtain ⟨k, rfl⟩ := succ_of hK
   have hj' : j < xs.length := by omega
   have ra := hr _ (hrd i hi)
   have rb := hr _ (hrd j hj')
   have hqq := hq _ (hrd i hi) _ (hrd j hj')
   simp only [Zq117_l1_0, ilt_len hj', br_t, inb_n hi, inb_n hj', chk_t]
   rw [l4Lone_eq ra rb hN, l4Lone_eq rb ra hN, bind_some', bind_some', room_ok (by simp; omega), chk_t, wrap_succ (by omega), tApp_d, List.range'_succ]
   simp only [tLen_n]
   have yes : exP es near (rdL xs (i : Int)) (rdL xs (j : Int)) = true → Zq117_l1_0 N k0 k near (i : Int) ((j + 1 : Nat) : Int) m es xs (o ++ [((i : Int), (j : Int))]) = k0 near (i : Int) m es xs (o ++ ((j :: List.range' (j + 1) d).filter fun j : Nat => exP es near (rdL xs (i : Int)) (rdL xs (j : Int))).map fun j : Nat => ((i : Int), (j : Int))) := fun hb => by
    rw [ih i (j + 1) k _ k0 hi (by omega) (by omega) (by simp; omega), List.filter_cons_of_pos (by exact hb), List.append_assoc]
    rfl
   have nay : exP es near (rdL xs (i : Int)) (rdL xs (j : Int)) = false → Zq117_l1_0 N k0 k near (i : Int) ((j + 1 : Nat) : Int) m es xs o = k0 near (i : Int) m es xs (o ++ ((j :: List.range' (j + 1) d).filter fun j : Nat => exP es near (rdL xs (i : Int)) (rdL xs (j : Int))).map fun j : Nat => ((i : Int), (j : Int))) := fun hb => by
    rw [ih i (j + 1) k _ k0 hi (by omega) (by omega) (by omega), List.filter_cons_of_neg (by rw [hb]; simp)]
   by_cases h1 : (loneL (rdL xs (i : Int)) (rdL xs (j : Int))).length = 1
   ·rw [ieq_t (by omega), br_t]
    cases near with
    | false =>
     simp only [Bool.not_false, br_t]
     exact yes (by unfold exP; rw [decide_eq_true h1]; rfl)
    | true =>
     simp only [Bool.not_true, br_f]
     have i1 : inb (loneL (rdL xs (i : Int)) (rdL xs (j : Int))) 0 = true := inb_n (n := 0) (by omega)
     have i2 : inb (loneL (rdL xs (j : Int)) (rdL xs (i : Int))) 0 = true := inb_n (n := 0) (by omega)
     rw [i1, chk_t, i2, chk_t, l2Near_eq (g := (m, es)) hes hN, bind_some']
     simp only []
     by_cases h2 : nearG es (rdI (loneL (rdL xs (i : Int)) (rdL xs (j : Int))) 0) (rdI (loneL (rdL xs (j : Int)) (rdL xs (i : Int))) 0)
     ·rw [decide_eq_true h2, br_t]
      exact yes (by unfold exP; rw [decide_eq_true h1, decide_eq_true h2]; rfl)
     ·rw [decide_eq_false h2, br_f]
      exact nay (by unfold exP; rw [decide_eq_true h1, decide_eq_false h2]; rfl)
   ·rw [ieq_f (by omega), br_f]
    exact nay (by unfold exP; rw [decide_eq_false h1]; rfl)
 have go : ∀ (d i K : Nat) (o : List (Int × Int)), i + d = xs.length → d < K → o.length ≤ i * xs.length →
   Zq117_l1 N (fun o6 o7 => some (((o6, o7), ()), ())) K near (i : Int) m es xs o = some (((xs, o ++ (List.range' i d).flatMap (rowSteps (exP es near) xs)), ()), ()) := by
  intro d
  induction d with
  | zero =>
   intro i K o hd hK ho
   obtain ⟨k, rfl⟩ := succ_of hK
   simp only [Zq117_l1, ilt_lenf (show ¬ i < xs.length by omega), br_f]
   simp
  | succ d ih =>
   intro i K o hd hK ho
   obtain ⟨k, rfl⟩ := succ_of hK
   have hi : i < xs.length := by omega
   have hmul : i * xs.length ≤ 1024 * 1024 := Nat.mul_le_mul (by omega) (by omega)
   simp only [Zq117_l1, ilt_len hi, br_t]
   rw [wrap_succ (by omega)]
   have h1 := inner (xs.length - (i + 1)) i (i + 1) N o (fun x7 x8 o10 o11 o12 o13 => Zq117_l1 N (fun o6 o7 => some (((o6, o7), ()), ())) k x7 (IntKind.i64.wrap (x8 + 1)) o10 o11 o12 o13) hi (by omega) (by omega) (by omega)
   rw [h1, wrap_succ (by omega)]
   have h2 := rowSteps_len (exP es near) xs i
   have h3 := ih (i + 1) k (o ++ rowSteps (exP es near) xs i) (by omega) (by omega) (by rw [List.length_append, Nat.add_mul, Nat.one_mul]; omega)
   rw [List.append_assoc] at h3
   rw [List.range'_succ, List.flatMap_cons]
   exact h3
 have := go xs.length 0 N [] (by omega) (by omega) (Nat.zero_le _)
 exact this
def ExSt (m : Nat) (es : List (Int × Int)) (kind : Int) (k : Nat) (ys : List (List Int)) : Prop := lexSorted ys ∧ ∀ s, s ∈ ys ↔ (∃ a : Nat, a < 2 ^ m ∧ s = setOf m a) ∧ hasK m es kind s ∧ s.length = k
theorem lex_small {m : Nat} {ys : List (List Int)} (hs : lexSorted ys) (h : ∀ s ∈ ys, ∃ a : Nat, a < 2 ^ m ∧ s = setOf m a) : ys.length ≤ 2 ^ m := by
 have := nodup_leL (lex_nodup hs) (b := masksL m fun _ => true) fun x hx => mem_masksL.2 ⟨h x hx, rfl⟩
 exact Nat.le_trans this (masksL_len ..)
theorem l4Ex_eq {N m : Nat} {es : List (Int × Int)} {kind : Int} {k : Nat} {near : Bool} (hm : m ≤ 8) (hx : es.length ≤ 1048576) (hN : 1048577 ≤ N) : ∃ ys, ExSt m es kind k ys ∧ Zq117 N ((m : Int), es) kind (k : Int) near = some (((ys, stepsL (exP es near) ys), ()), ()) := by
 have h256 := pow256 hm
 obtain ⟨L, l1, l2, l3, l4⟩ := l4Sets_eq (kind := kind) hm hx hN
 have hLr : ∀ x ∈ L.filter (fun s => decide (s.length = k)), x.length ≤ 1048576 := fun x hx => by
  obtain ⟨⟨a, _, rfl⟩, _⟩ := (l4 x).1 (List.mem_filter.1 hx).1
  have := setOf_len m a
  omega
 have hLl := List.length_filter_le (fun s : List Int => decide (s.length = k)) L
 obtain ⟨ys, y1, y2, y3⟩ := l2Sorted_eq (N := N) (xs := L.filter fun s => decide (s.length = k)) (by omega) hLr hN
 have hst : ExSt m es kind k ys := ⟨y2, fun s => by rw [y3 s, List.mem_filter, l4 s, decide_eq_true_eq, and_assoc]⟩
 have hsm := lex_small y2 fun s hs => ((hst.2 s).1 hs).1
 refine ⟨ys, hst, ?_⟩
 unfold Zq117
 simp only []
 rw [l1, bind_some']
 simp only []
 rw [filt_rows (by omega) hN, y1, bind_some']
 simp only []
 refine ex_loop hx (fun a ha => hLr a ((y3 a).1 ha)) (fun a ha b hb => ?_) (by omega) hN
 obtain ⟨⟨A, _, rfl⟩, _, h1⟩ := (hst.2 a).1 ha
 obtain ⟨⟨B, _, rfl⟩, _, h2⟩ := (hst.2 b).1 hb
 exact lone_len (setOf_nodup m A) (setOf_nodup m B) (by omega)
theorem exactly_eq {N m : Nat} {es : List (Int × Int)} {kind : Int} {k : Nat} {ys : List (List Int)} (hm : m ≤ 8) (hg : goodG ((m : Int), es)) (hx : es.length ≤ 1048576) (hst : ExSt m es kind k ys) (hN : 1048577 ≤ N) : Zq7 N ((m : Int), es) kind (k : Int) = some ((ys, ()), ()) := by
 unfold Zq7
 simp only []
 rw [sets_eq (p := fun s => decide (hasK m es kind s ∧ s.length = k)) hm (fun a ha => ?_) hst.1 (fun s => by rw [hst.2 s, decide_eq_true_eq]) hN, bind_some']
 unfold Zq8
 rw [bag_size_eq hm ha, bind_some']
 simp only []
 by_cases h1 : (setOf m a).length = k
 ·rw [ieq_t (by omega), br_t, hasKind_eq hm ha hg hx hN, bind_some', bind_some']
  congr 1
  exact decide_eq_decide.2 ⟨fun h => ⟨h, h1⟩, fun h => h.1⟩
 ·rw [ieq_f (by omega), br_f, decide_eq_false (fun h => h1 h.2)]
  rfl
def thrCase (g : Int × List (Int × Int)) (kind k : Int) : Prop := goodG g ∧ (1 ≤ kind ∧ kind ≤ 3) ∧ 0 ≤ k ∧ k ≤ g.1
theorem l4K_eq {N : Nat} {g : Int × List (Int × Int)} {kind k : Int} (hx : g.2.length ≤ 1048576) (hN : 1048577 ≤ N) : Zq121 N g kind k = some ((decide (thrCase g kind k), ()), ()) := by
 unfold Zq121 Zq119 Zq122 thrCase
 simp only [show ((g.1, g.2) : Int × List (Int × Int)) = g from rfl, l2Good_eq hx hN, l1In_eq, bind_some']
 by_cases h : goodG g
 ·rw [decide_eq_true h, br_t, bind_some']
  by_cases h2 : 1 ≤ kind ∧ kind ≤ 3
  ·rw [decide_eq_true h2, br_t]; simp [h, h2]
  ·rw [decide_eq_false h2, br_f]; simp [h2]
 ·rw [decide_eq_false h, br_f, bind_some', br_f]; simp [h]
theorem isThr_eq {N : Nat} {g : Int × List (Int × Int)} {kind k : Int} (hx : g.2.length ≤ 1048576) (hN : 1048577 ≤ N) : Zq46 N g kind k = some ((decide (thrCase g kind k), ()), ()) := by
 unfold Zq46 Zq39 thrCase
 simp only [show ((g.1, g.2) : Int × List (Int × Int)) = g from rfl, IsGraph_eq hx hN, between_eq, bind_some']
 by_cases h : goodG g
 ·rw [decide_eq_true h, br_t]
  by_cases h2 : 1 ≤ kind ∧ kind ≤ 3
  ·rw [decide_eq_true h2, br_t]; simp [h, h2]
  ·rw [decide_eq_false h2, br_f]; simp [h2]
 ·rw [decide_eq_false h, br_f]; simp [h]
theorem exSp_ok {m : Nat} {es : List (Int × Int)} {kind : Int} {k : Nat} {ys : List (List Int)} {p : List Int → List Int → Bool} (hm : m ≤ 8) (h : ∀ s ∈ ys, ∃ a : Nat, a < 2 ^ m ∧ s = setOf m a) (hs : lexSorted ys) : okSp (ys, stepsL p ys) := by
 have h256 := pow256 hm
 have h1 := lex_small hs h
 have h2 := stepsL_len p ys
 have h3 : ys.length * ys.length ≤ 256 * 256 := Nat.mul_le_mul (by omega) (by omega)
 exact ⟨by simp only []; omega, fun r hr => by obtain ⟨a, _, rfl⟩ := h r hr; have := setOf_len m a; omega, by simp only []; omega, by simp only []; omega⟩
theorem l1Put_ro {N : Nat} {o : List Int} {n : Int} (ho : o.length ≤ 1048576) (hN : 1048577 ≤ N) : Zq101 N o n = some ((putI n o, ()), ()) := by
 have go : ∀ (q p : List Int) (K : Nat), q.length < K → (p ++ q).length ≤ 1048576 → Zq101_l0 N (fun o n1 kv => (br (ilt kv (tLen o))
  ((chk (inb o kv)
   (br (ieq (rdI o kv) n1)
   (some ((o, ()), ()))
   ((chk (ile 0 0 && ile 0 kv && ile kv (tLen o))
    (chk (room (α := Int) (β := Int) [] (tCut o 0 kv))
    (chk (room (tApp [] (tCut o 0 kv)) [n1])
    (chk (ile 0 kv && ile kv (tLen o) && ile (tLen o) (tLen o))
    (chk (room (tApp (tApp [] (tCut o 0 kv)) [n1]) (tCut o kv (tLen o)))
    (some (((tApp (tApp (tApp [] (tCut o 0 kv)) [n1]) (tCut o kv (tLen o))), ()), ())))))))))))
  ((chk (ile 0 0 && ile 0 kv && ile kv (tLen o))
   (chk (room (α := Int) (β := Int) [] (tCut o 0 kv))
   (chk (room (tApp [] (tCut o 0 kv)) [n1])
   (chk (ile 0 kv && ile kv (tLen o) && ile (tLen o) (tLen o))
   (chk (room (tApp (tApp [] (tCut o 0 kv)) [n1]) (tCut o kv (tLen o)))
   (some (((tApp (tApp (tApp [] (tCut o 0 kv)) [n1]) (tCut o kv (tLen o))), ()), ())))))))))) K (p ++ q) n ((p.length : Nat) : Int) = some ((p ++ putI n q, ()), ()) := by
  intro q
  have cuts : ∀ p q : List Int, tCut (p ++ q) 0 ((p.length : Nat) : Int) = p ∧ tCut (p ++ q) ((p.length : Nat) : Int) (tLen (p ++ q)) = q := fun p q => ⟨by simp [tCut], by rw [tLen_n, tCut_n, List.take_length, List.drop_left]⟩
  have c1 : ∀ p q : List Int, (ile 0 0 && ile 0 ((p.length : Nat) : Int) && ile ((p.length : Nat) : Int) (tLen (p ++ q))) = true := fun p q => by
   rw [ile_t (Int.le_refl 0), ile_t (by omega), ile_t (by simp [tLen]; omega)]; rfl
  have c2 : ∀ p q : List Int, (ile 0 ((p.length : Nat) : Int) && ile ((p.length : Nat) : Int) (tLen (p ++ q)) && ile (tLen (p ++ q)) (tLen (p ++ q))) = true := fun p q => by
   rw [ile_t (Int.le_refl (tLen _)), ile_t (by omega), ile_t (by simp [tLen]; omega)]; rfl
  induction q with
  | nil =>
   intro p K hK hl
   obtain ⟨k, rfl⟩ := succ_of hK
   have hlt : ¬ p.length < (p ++ ([] : List Int)).length := by simp
   simp only [Zq101_l0, ilt_lenf hlt, br_f, (cuts p []).1, (cuts p []).2, c1, c2, chk_t]
   rw [room_ok (by simp at hl ⊢; omega), room_ok (by simp [tApp] at hl ⊢; omega), room_ok (by simp [tApp] at hl ⊢; omega), chk_t, chk_t, chk_t]
   simp [tApp, putI]
  | cons y q ih =>
   intro p K hK hl
   obtain ⟨k, rfl⟩ := succ_of hK
   have hlt : p.length < (p ++ y :: q).length := by simp
   simp only [Zq101_l0, ilt_len hlt, br_t, inb_n hlt, chk_t, rdI_mid]
   by_cases hy : y < n
   ·have := ih (p ++ [y]) k (by simp at hK; omega) (by simpa using hl)
    rw [ilt_t hy, br_t, wrap_succ (by simp at hl; omega)]
    simp only [List.append_assoc, List.singleton_append, List.length_append, List.length_singleton] at this
    rw [this]
    simp [putI, hy]
   ·rw [ilt_f hy, br_f]
    by_cases hyn : y = n
    ·rw [ieq_t hyn, br_t]
     simp [putI, hy, hyn]
    ·rw [ieq_f hyn, br_f, c1, chk_t, c2, chk_t, (cuts p (y :: q)).1, (cuts p (y :: q)).2]
     rw [room_ok (by simp at hl ⊢; omega), room_ok (by simp [tApp] at hl ⊢; omega), room_ok (by simp [tApp] at hl ⊢; omega), chk_t, chk_t, chk_t]
     simp [tApp, putI, hy, hyn]
 unfold Zq101
 exact go o [] N (by omega) (by simpa using ho)
theorem index_out {N : Nat} {xs : List (List Int)} {st : List (Int × Int)} {a : List Int} (hx : xs.length ≤ 1048576) (hl : ∀ x ∈ xs, x.length ≤ 1048576) (ha : a ∉ xs) (hN : 1048577 ≤ N) :
  Zq108 N (xs, st) a = some (((-1), ()), ()) := by
 unfold Zq108
 simp only []
 have go : ∀ (d n K : Nat), n + d = xs.length → d < K → Zq108_l0 N (fun x1 => some ((x1, ()), ())) (fun (_ : Unit) => some (((-1), ()), ())) K a (n : Int) xs st = some (((-1), ()), ()) := by
  intro d
  induction d with
  | zero =>
   intro n K hd hK
   obtain ⟨k, rfl⟩ := succ_of hK
   simp only [Zq108_l0, ilt_lenf (show ¬ n < xs.length by omega), br_f]
  | succ d ih =>
   intro n K hd hK
   obtain ⟨k, rfl⟩ := succ_of hK
   have hn : n < xs.length := by omega
   have hne : ¬ rdL xs (n : Int) = a := by rw [rdL_n hn]; intro e; exact ha (e ▸ List.getElem_mem hn)
   simp only [Zq108_l0, ilt_len hn, br_t, inb_n hn, chk_t]
   rw [l1Same_eq (hl _ (by rw [rdL_n hn]; exact List.getElem_mem hn)) hN, bind_some', decide_eq_false hne, br_f, wrap_succ (by omega)]
   exact ih (n + 1) k (by omega) (by omega)
 exact go xs.length 0 N (by omega) (by omega)
theorem l4Without_eq {N : Nat} {a : List Int} {x : Int} (ha : a.length ≤ 1048576) (hN : 1048577 ≤ N) : Zq129 N a x = some ((a.filter (fun z => decide (z ≠ x)), ()), ()) := by
 unfold Zq129
 have key := loop_list (xs := a) (L := fun K n o => Zq129_l0 N (fun o => some ((o, ()), ())) K a x (n : Int) o) (k := fun o => some ((o, ()), ())) (fun (o : List Int) z => if decide (z ≠ x) = true then o ++ [z] else o) (fun n o => o = (a.take n).filter fun z => decide (z ≠ x)) (fun K n o hn ho => ?_) (fun K n o hn ho => ?_) (fun n o hn ho => ?_) (s := []) (K := N) (by omega) (by simp)
 ·obtain ⟨h1, h2⟩ := key
  simp only [Int.natCast_zero] at h1
  rw [h1, h2, List.take_length]
 ·simp only [Zq129_l0, ilt_lenf hn, br_f]
 ·have hol : o.length ≤ n := by
   rw [ho]
   exact Nat.le_trans (List.length_filter_le ..) (by simp; omega)
  simp only [Zq129_l0, ilt_len hn, br_t, inb_n hn, chk_t, rdI_n hn]
  rw [wrap_succ (by omega)]
  by_cases h : a[n] = x
  ·rw [ine_f h, br_f, if_neg (by simp [h])]
  ·rw [ine_t h, br_t, room_ok (by simp; omega), chk_t, tApp_d, if_pos (by simp [h])]
 ·rw [List.take_add_one, List.getElem?_eq_getElem hn, Option.toList_some, List.filter_append, ← ho]
  by_cases h : a[n] = x
  ·rw [if_neg (by simp [h]), List.filter_cons_of_neg (by simp [h])]; simp
  ·rw [if_pos (by simp [h]), List.filter_cons_of_pos (by simp [h])]; rfl
theorem xor_bit {A x i : Nat} : (A ^^^ 2 ^ x).testBit i = (A.testBit i ^^ decide (x = i)) := by rw [Nat.testBit_xor, Nat.testBit_two_pow]
theorem xor_lt {m A x : Nat} (hA : A < 2 ^ m) (hx : x < m) : A ^^^ 2 ^ x < 2 ^ m := Nat.xor_lt_two_pow hA (Nat.pow_lt_pow_right (by omega) hx)
theorem l4Turned_eq {N m A x : Nat} (hm : m ≤ 8) (hA : A < 2 ^ m) (hx : x < m) (hN : 1048577 ≤ N) : Zq128 N (setOf m A) (x : Int) = some ((setOf m (A ^^^ 2 ^ x), ()), ()) := by
 have hsl := setOf_len m A
 have hl : (setOf m A).length ≤ 1048576 := by omega
 unfold Zq128
 rw [l1Has_eq hl hN, bind_some']
 simp only []
 by_cases h : (x : Int) ∈ setOf m A
 ·rw [decide_eq_true h, br_t, l4Without_eq hl hN, bind_some']
  have hb := (mem_setN.1 h).2
  congr 3
  refine asc_ext ((setOf_strict m A).filter _) (setOf_strict m _) fun z => ?_
  rw [List.mem_filter, decide_eq_true_eq]
  constructor
  ·rintro ⟨h1, h2⟩
   obtain ⟨i, h3, h4, rfl⟩ := mem_setOf.1 h1
   have : x ≠ i := fun e => h2 (by rw [e])
   exact mem_setN.2 ⟨h3, by rw [xor_bit, h4]; simp [this]⟩
  ·intro h1
   obtain ⟨i, h3, h4, rfl⟩ := mem_setOf.1 h1
   rw [xor_bit] at h4
   by_cases e : x = i
   ·subst e; rw [hb] at h4; simp at h4
   ·simp [e] at h4
    exact ⟨mem_setN.2 ⟨h3, h4⟩, by omega⟩
 ·rw [decide_eq_false h, br_f, l1Put_ro hl hN, bind_some']
  have hb : A.testBit x = false := Bool.eq_false_iff.2 fun h' => h (mem_setN.2 ⟨hx, h'⟩)
  congr 3
  refine asc_ext (putI_strict (setOf_strict m A)) (setOf_strict m _) fun z => ?_
  rw [putI_mem]
  constructor
  ·rintro (rfl | h1)
   ·exact mem_setN.2 ⟨hx, by rw [xor_bit, hb]; simp⟩
   ·obtain ⟨i, h3, h4, rfl⟩ := mem_setOf.1 h1
    have : x ≠ i := fun e => by subst e; rw [hb] at h4; cases h4
    exact mem_setN.2 ⟨h3, by rw [xor_bit, h4]; simp [this]⟩
  ·intro h1
   obtain ⟨i, h3, h4, rfl⟩ := mem_setOf.1 h1
   rw [xor_bit] at h4
   by_cases e : x = i
   ·subst e; exact .inl rfl
   ·simp [e] at h4
    exact .inr (mem_setN.2 ⟨h3, h4⟩)
def pairsUp (o : List (Int × Int)) : Prop := o.Pairwise edgeLt
theorem edgeLt_trans {a b c : Int × Int} (h1 : edgeLt a b) (h2 : edgeLt b c) : edgeLt a c := by unfold edgeLt at *; omega
theorem edgeLt_irr (a : Int × Int) : ¬ edgeLt a a := by unfold edgeLt; omega
theorem edgeLt_tot {a b : Int × Int} (h : ¬ edgeLt a b) (hne : a ≠ b) : edgeLt b a := by
 unfold edgeLt at *
 by_cases h1 : a.1 = b.1
 ·by_cases h2 : a.2 = b.2
  ·exact absurd (Prod.ext h1 h2) hne
  ·omega
 ·omega
theorem pairs_ext {a b : List (Int × Int)} (ha : pairsUp a) (hb : pairsUp b) (h : ∀ e, e ∈ a ↔ e ∈ b) : a = b := by
 unfold pairsUp at ha hb
 have na : a.Nodup := ha.imp fun {x y} h e => by subst e; exact edgeLt_irr _ h
 have nb : b.Nodup := hb.imp fun {x y} h e => by subst e; exact edgeLt_irr _ h
 have hp := (List.perm_ext_iff_of_nodup na nb).2 h
 clear h na nb
 induction a generalizing b with
 | nil => exact (List.nil_perm.1 hp).symm
 | cons x a ih =>
  cases b with
  | nil => exact absurd (List.perm_nil.1 hp) (by simp)
  | cons y b =>
   obtain ⟨a1, a2⟩ := List.pairwise_cons.1 ha
   obtain ⟨b1, b2⟩ := List.pairwise_cons.1 hb
   have e : x = y := by
    have h1 : x ∈ y :: b := hp.mem_iff.1 (List.mem_cons_self ..)
    have h2 : y ∈ x :: a := hp.mem_iff.2 (List.mem_cons_self ..)
    rcases List.mem_cons.1 h1 with h1 | h1
    ·exact h1
    ·rcases List.mem_cons.1 h2 with h2 | h2
     ·exact h2.symm
     ·exact absurd (edgeLt_trans (a1 y h2) (b1 x h1)) (edgeLt_irr x)
   subst e
   rw [ih a2 b2 (List.Perm.cons_inv hp)]
theorem putPair_eq {N : Nat} {o : List (Int × Int)} {e : Int × Int} (ho : pairsUp o) (hl : o.length ≤ 1048576) (hN : 1048577 ≤ N) : ∃ o', Zq112 N o e = some ((o', ()), ()) ∧ pairsUp o' ∧ (∀ f, f ∈ o' ↔ f ∈ o ∨ f = e) ∧ o'.length ≤ o.length + 1 := by
 unfold pairsUp at ho
 have find : ∀ (k K : Nat) (k0 : Int → List (Int × Int) → Int → Int → Option ((List (Int × Int) × Unit) × Unit)), k < K → k ≤ o.length → (∀ j (h : j < o.length), k ≤ j → edgeLt e o[j]) →
   ∃ k2 : Nat, k2 ≤ o.length ∧ (∀ j (h : j < o.length), j < k2 → ¬ edgeLt e o[j]) ∧ (∀ j (h : j < o.length), k2 ≤ j → edgeLt e o[j]) ∧ Zq112_l0 N k0 K (k : Int) o e.1 e.2 = k0 (k2 : Int) o e.1 e.2 := by
  intro k
  induction k with
  | zero =>
   intro K k0 hK hk h
   obtain ⟨K, rfl⟩ := succ_of hK
   refine ⟨0, hk, fun j h1 h2 => absurd h2 (Nat.not_lt_zero j), h, ?_⟩
   simp only [Zq112_l0, Int.natCast_zero]
   rw [ilt_f (by decide), br_f]
  | succ k ih =>
   intro K k0 hK hk h
   obtain ⟨K, rfl⟩ := succ_of hK
   have hko : k < o.length := by omega
   simp only [Zq112_l0]
   rw [ilt_t (by omega), br_t, wrap_pred (by omega) (by omega), show k + 1 - 1 = k by omega, inb_n hko, chk_t, rdP_n hko, l2Edge_eq, bind_some']
   simp only [show ((e.1, e.2) : Int × Int) = e from rfl]
   by_cases hc : edgeLt e o[k]
   ·rw [decide_eq_true hc, br_t]
    exact ih K k0 (by omega) (by omega) fun j hj hkj => by
     by_cases he : j = k
     ·subst he; exact hc
     ·exact h j hj (by omega)
   ·rw [decide_eq_false hc, br_f]
    refine ⟨k + 1, hk, fun j hj hjk => ?_, h, rfl⟩
    by_cases he : j = k
    ·subst he; exact hc
    ·have := List.pairwise_iff_getElem.1 ho j k hj hko (by omega)
     exact fun h2 => hc (edgeLt_trans h2 this)
 unfold Zq112
 obtain ⟨k, k1, k2, k3, k4⟩ := find o.length N (fun kv o o1 o2 => (br (ilt 0 kv)
  ((chk (inb o (IntKind.i64.wrap (kv - 1)))
   (br (ieq ((rdP o (IntKind.i64.wrap (kv - 1))).1) o1 && ieq ((rdP o (IntKind.i64.wrap (kv - 1))).2) o2)
   (some ((o, ()), ()))
   ((chk (ile 0 0 && ile 0 kv && ile kv (tLen o))
    (chk (room (α := (Int × Int)) (β := (Int × Int)) [] (tCut o 0 kv))
    (chk (room (tApp [] (tCut o 0 kv)) [(o1, o2)])
    (chk (ile 0 kv && ile kv (tLen o) && ile (tLen o) (tLen o))
    (chk (room (tApp (tApp [] (tCut o 0 kv)) [(o1, o2)]) (tCut o kv (tLen o)))
    (some (((tApp (tApp (tApp [] (tCut o 0 kv)) [(o1, o2)]) (tCut o kv (tLen o))), ()), ())))))))))))
  ((chk (ile 0 0 && ile 0 kv && ile kv (tLen o))
   (chk (room (α := (Int × Int)) (β := (Int × Int)) [] (tCut o 0 kv))
   (chk (room (tApp [] (tCut o 0 kv)) [(o1, o2)])
   (chk (ile 0 kv && ile kv (tLen o) && ile (tLen o) (tLen o))
   (chk (room (tApp (tApp [] (tCut o 0 kv)) [(o1, o2)]) (tCut o kv (tLen o)))
   (some (((tApp (tApp (tApp [] (tCut o 0 kv)) [(o1, o2)]) (tCut o kv (tLen o))), ()), ())))))))))) (by omega) (Nat.le_refl _) (fun j hj h => by omega)
 rw [tLen_n, k4]
 have hcut0 : tCut o 0 (k : Int) = o.take k := by have := tCut_n o 0 k; simpa using this
 have hcutk : tCut o (k : Int) (tLen o) = o.drop k := by rw [tLen_n, tCut_n, List.take_of_length_le (Nat.le_refl _)]
 have h1 : (ile 0 0 && ile 0 (k : Int) && ile (k : Int) (tLen o)) = true := by rw [ile_t (Int.le_refl _), ile_t (by omega), tLen_n, ile_t (by omega)]; rfl
 have h2 : (ile 0 (k : Int) && ile (k : Int) (tLen o) && ile (tLen o) (tLen o)) = true := by rw [ile_t (by omega), tLen_n, ile_t (by omega), ile_t (Int.le_refl _)]; rfl
 have r1 : room (α := Int × Int) (β := Int × Int) [] (o.take k) = true := room_ok (by rw [List.length_take, List.length_nil]; omega)
 have r2 : room (tApp [] (o.take k)) [(e.1, e.2)] = true := room_ok (by simp only [tApp, List.nil_append, List.length_take, List.length_singleton]; omega)
 have r3 : room (tApp (tApp [] (o.take k)) [(e.1, e.2)]) (o.drop k) = true := room_ok (by simp only [tApp, List.nil_append, List.length_append, List.length_take, List.length_drop, List.length_singleton]; omega)
 have ee : tApp (tApp (tApp [] (o.take k)) [(e.1, e.2)]) (o.drop k) = o.take k ++ e :: o.drop k := by simp [tApp]
 have hput : (∀ j (h : j < o.length), j < k → o[j] ≠ e) → pairsUp (o.take k ++ e :: o.drop k) ∧ (∀ f, f ∈ o.take k ++ e :: o.drop k ↔ f ∈ o ∨ f = e) ∧ (o.take k ++ e :: o.drop k).length ≤ o.length + 1 := by
  intro hne
  refine ⟨List.pairwise_append.2 ⟨ho.sublist (List.take_sublist ..), List.pairwise_cons.2 ⟨fun y hy => ?_, ho.sublist (List.drop_sublist ..)⟩, fun a ha b hb => ?_⟩, fun s => ?_, by simp; omega⟩
  ·obtain ⟨j, hj, rfl⟩ := List.getElem_of_mem hy
   rw [List.getElem_drop]
   exact k3 _ (by simp at hj; omega) (by omega)
  ·obtain ⟨j, hj, rfl⟩ := List.getElem_of_mem ha
   have hj' : j < k ∧ j < o.length := by simp at hj; omega
   rw [List.getElem_take]
   have hax : edgeLt o[j] e := edgeLt_tot (k2 j hj'.2 hj'.1) (fun q => hne j hj'.2 hj'.1 q.symm)
   rcases List.mem_cons.1 hb with rfl | hb
   ·exact hax
   ·obtain ⟨l, hl', rfl⟩ := List.getElem_of_mem hb
    rw [List.getElem_drop]
    exact List.pairwise_iff_getElem.1 ho _ _ hj'.2 (by simp at hl'; omega) (by omega)
  ·rw [List.mem_append, List.mem_cons]
   have := List.take_append_drop k o
   constructor
   ·rintro (h | h | h)
    ·exact .inl (List.mem_of_mem_take h)
    ·exact .inr h
    ·exact .inl (List.mem_of_mem_drop h)
   ·rintro (h | h)
    ·rw [← this, List.mem_append] at h
     rcases h with h | h
     ·exact .inl h
     ·exact .inr (.inr h)
    ·exact .inr (.inl h)
 by_cases hk0 : k = 0
 ·subst hk0
  have e0 : ilt 0 ((0 : Nat) : Int) = false := rfl
  rw [e0, br_f, h1, chk_t, hcut0, r1, chk_t, r2, chk_t, h2, chk_t, hcutk, r3, chk_t, ee]
  exact ⟨_, rfl, hput fun j h h0 => absurd h0 (Nat.not_lt_zero j)⟩
 ·have hk' : k - 1 < o.length := by omega
  rw [ilt_t (by omega), br_t, wrap_pred (by omega) (by omega), inb_n hk', chk_t, rdP_n hk']
  by_cases he : o[k - 1] = e
  ·rw [he, ieq_t rfl, ieq_t rfl]
   simp only [Bool.and_self, br_t]
   refine ⟨o, rfl, ho, fun f => ⟨.inl, ?_⟩, by omega⟩
   rintro (h | h)
   ·exact h
   ·rw [h, ← he]; exact List.getElem_mem hk'
  ·have hb : (ieq o[k - 1].1 e.1 && ieq o[k - 1].2 e.2) = false := by
    by_cases q1 : o[k - 1].1 = e.1
    ·by_cases q2 : o[k - 1].2 = e.2
     ·exact absurd (Prod.ext q1 q2) he
     ·rw [ieq_f q2, Bool.and_false]
    ·rw [ieq_f q1]; rfl
   rw [hb, br_f, h1, chk_t, hcut0, r1, chk_t, r2, chk_t, h2, chk_t, hcutk, r3, chk_t, ee]
   refine ⟨_, rfl, hput fun j h hj q => ?_⟩
   by_cases hj1 : j = k - 1
   ·subst hj1; exact he q
   ·have := List.pairwise_iff_getElem.1 ho j (k - 1) h hk' (by omega)
    rw [q] at this
    exact k2 (k - 1) hk' (by omega) this
theorem mem_stepsL {p : List Int → List Int → Bool} {xs : List (List Int)} {e : Int × Int} : e ∈ stepsL p xs ↔ ∃ i j : Nat, e = ((i : Int), (j : Int)) ∧ i < j ∧ j < xs.length ∧ p (rdL xs (i : Int)) (rdL xs (j : Int)) = true := by
 unfold stepsL rowSteps
 rw [List.mem_flatMap]
 constructor
 ·rintro ⟨i, hi, he⟩
  obtain ⟨j, hj, rfl⟩ := List.mem_map.1 he
  obtain ⟨h1, h2⟩ := List.mem_filter.1 hj
  have := List.mem_range'_1.1 h1
  exact ⟨i, j, rfl, by omega, by omega, h2⟩
 ·rintro ⟨i, j, rfl, h1, h2, h3⟩
  exact ⟨i, List.mem_range'_1.2 (by omega), List.mem_map.2 ⟨j, List.mem_filter.2 ⟨List.mem_range'_1.2 (by omega), h3⟩, rfl⟩⟩
noncomputable def addP (a b : List Int) : Bool := decide ((loneL a b).length + (loneL b a).length = 1)
theorem mem_lone {a b : List Int} {z : Int} : z ∈ loneL a b ↔ z ∈ a ∧ z ∉ b := by
 unfold loneL
 rw [List.mem_filter, decide_eq_true_eq]
theorem addP_iff {m A B : Nat} (hA : A < 2 ^ m) (hB : B < 2 ^ m) : addP (setOf m A) (setOf m B) = true ↔ ∃ x, x < m ∧ B = A ^^^ 2 ^ x := by
 unfold addP
 rw [decide_eq_true_eq]
 have one : ∀ {C D : Nat}, C < 2 ^ m → D < 2 ^ m → (loneL (setOf m C) (setOf m D)).length = 1 → (loneL (setOf m D) (setOf m C)).length = 0 → ∃ x, x < m ∧ D = C ^^^ 2 ^ x := by
  intro C D hC hD h1 h2
  obtain ⟨z, hz⟩ := List.length_eq_one_iff.1 h1
  have h2 := List.eq_nil_of_length_eq_zero h2
  have hzm : z ∈ setOf m C ∧ z ∉ setOf m D := mem_lone.1 (by rw [hz]; simp)
  obtain ⟨x, hx, hxb, rfl⟩ := mem_setOf.1 hzm.1
  refine ⟨x, hx, Nat.eq_of_testBit_eq fun i => ?_⟩
  rw [xor_bit]
  by_cases hi : i < m
  ·by_cases e : x = i
   ·subst e
    rw [hxb]
    have : D.testBit x = false := Bool.eq_false_iff.2 fun h => hzm.2 (mem_setN.2 ⟨hx, h⟩)
    rw [this]
    simp
   ·have q1 : D.testBit i = true → C.testBit i = true := fun h => by
     by_cases hc : (i : Int) ∈ setOf m C
     ·exact (mem_setN.1 hc).2
     ·have : (i : Int) ∈ loneL (setOf m D) (setOf m C) := mem_lone.2 ⟨mem_setN.2 ⟨hi, h⟩, hc⟩
      rw [h2] at this
      cases this
    have q2 : C.testBit i = true → D.testBit i = true := fun h => by
     by_cases hd : (i : Int) ∈ setOf m D
     ·exact (mem_setN.1 hd).2
     ·have : (i : Int) ∈ loneL (setOf m C) (setOf m D) := mem_lone.2 ⟨mem_setN.2 ⟨hi, h⟩, hd⟩
      rw [hz] at this
      simp at this
      omega
    cases h3 : C.testBit i <;> cases h4 : D.testBit i <;> simp_all
  ·rw [bit_out hD (by omega), bit_out hC (by omega)]
   simp
   omega
 have back : ∀ {C : Nat} {x : Nat}, C < 2 ^ m → x < m → C.testBit x = true → (loneL (setOf m C) (setOf m (C ^^^ 2 ^ x))).length = 1 ∧ (loneL (setOf m (C ^^^ 2 ^ x)) (setOf m C)).length = 0 := by
  intro C x hC hx hb
  constructor
  ·have : loneL (setOf m C) (setOf m (C ^^^ 2 ^ x)) = [(x : Int)] := by
    refine asc_ext ((setOf_strict m C).filter _) (List.pairwise_singleton ..) fun z => ?_
    refine (mem_lone (a := setOf m C) (b := setOf m (C ^^^ 2 ^ x)) (z := z)).trans ?_
    rw [List.mem_singleton]
    constructor
    ·rintro ⟨h1, h2⟩
     obtain ⟨i, h3, h4, rfl⟩ := mem_setOf.1 h1
     by_cases e : x = i
     ·rw [e]
     ·exact absurd (mem_setN.2 ⟨h3, by rw [xor_bit, h4]; simp [e]⟩) h2
    ·rintro rfl
     refine ⟨mem_setN.2 ⟨hx, hb⟩, fun h => ?_⟩
     have := (mem_setN.1 h).2
     rw [xor_bit, hb] at this
     simp at this
   rw [this]
   rfl
  ·have : loneL (setOf m (C ^^^ 2 ^ x)) (setOf m C) = [] := by
    refine List.eq_nil_iff_forall_not_mem.2 fun z hz => ?_
    obtain ⟨h1, h2⟩ := mem_lone.1 hz
    obtain ⟨i, h3, h4, rfl⟩ := mem_setOf.1 h1
    rw [xor_bit] at h4
    by_cases e : x = i
    ·subst e; rw [hb] at h4; simp at h4
    ·simp [e] at h4
     exact h2 (mem_setN.2 ⟨h3, h4⟩)
   rw [this]
   rfl
 have xx : ∀ (C x : Nat), (C ^^^ 2 ^ x) ^^^ 2 ^ x = C := fun C x => by rw [Nat.xor_assoc, Nat.xor_self, Nat.xor_zero]
 constructor
 ·intro h
  by_cases h1 : (loneL (setOf m A) (setOf m B)).length = 1
  ·exact one hA hB h1 (by omega)
  ·obtain ⟨x, hx, hxe⟩ := one hB hA (by omega) (by omega)
   exact ⟨x, hx, by rw [hxe, xx]⟩
 ·rintro ⟨x, hx, rfl⟩
  cases hb : A.testBit x with
  | true =>
   obtain ⟨h1, h2⟩ := back hA hx hb
   omega
  | false =>
   obtain ⟨h1, h2⟩ := back hB hx (by rw [xor_bit, hb]; simp)
   rw [xx] at h1 h2
   omega
theorem isAdding_eq {N m A B : Nat} (hm : m ≤ 8) (hA : A < 2 ^ m) (hB : B < 2 ^ m) (hN : 1048577 ≤ N) : Zq37 N (setOf m A) (setOf m B) = some ((addP (setOf m A) (setOf m B), ()), ()) := by
 obtain ⟨x, y, h1, x1, y1, x2, y2⟩ := moves_eq hm hA hB hN
 have l1 := setOf_len m x
 have l2 := setOf_len m y
 unfold Zq37 addP
 rw [h1, bind_some']
 simp only []
 rw [bag_size_eq hm x1, bag_size_eq hm y1, bind_some', bind_some']
 simp only []
 rw [wrap_ok (by omega) (by omega), x2, y2]
 congr 3
 by_cases h : (loneL (setOf m A) (setOf m B)).length + (loneL (setOf m B) (setOf m A)).length = 1
 ·rw [ieq_t (by omega), decide_eq_true h]
 ·rw [ieq_f (by omega), decide_eq_false h]
def fitsP (kind : Int) (size : Nat) (k : Int) : Prop := if kind = 2 then k ≤ (size : Int) else (size : Int) ≤ k
theorem l4Fits_eq {N : Nat} {kind k : Int} {size : Nat} : Zq118 N kind (size : Int) k = some ((decide (fitsP kind size k), ()), ()) := by
 unfold Zq118 fitsP
 by_cases h : kind = 2
 ·rw [ieq_t h, br_t]
  simp only [if_pos h]
  by_cases q : k ≤ (size : Int)
  ·rw [ile_t q, decide_eq_true q]
  ·rw [ile_f q, decide_eq_false q]
 ·rw [ieq_f h, br_f]
  simp only [if_neg h]
  by_cases q : (size : Int) ≤ k
  ·rw [ile_t q, decide_eq_true q]
  ·rw [ile_f q, decide_eq_false q]
def ThSt (m : Nat) (es : List (Int × Int)) (kind k : Int) (ys : List (List Int)) : Prop := lexSorted ys ∧ ∀ s, s ∈ ys ↔ (∃ a : Nat, a < 2 ^ m ∧ s = setOf m a) ∧ hasK m es kind s ∧ fitsP kind s.length k
theorem filt_thr {R : Type} {N : Nat} {L : List (List Int)} {kind k : Int} {m : Int} {es : List (Int × Int)} {k0 : Int → List (Int × Int) → List (List Int) → Option R} (hL : L.length ≤ 1048576) (hN : 1048577 ≤ N) :
  Zq127_l0 N k0 N kind k L 0 m es [] = k0 m es (L.filter fun s => decide (fitsP kind s.length k)) := by
 have key := loop_list (xs := L) (L := fun K n o => Zq127_l0 N k0 K kind k L (n : Int) m es o) (k := fun o => k0 m es o) (fun (o : List (List Int)) z => if decide (fitsP kind z.length k) = true then o ++ [z] else o) (fun n o => o = (L.take n).filter fun s => decide (fitsP kind s.length k)) (fun K n o hn ho => ?_) (fun K n o hn ho => ?_) (fun n o hn ho => ?_) (s := []) (K := N) (by omega) (by simp)
 ·obtain ⟨h1, h2⟩ := key
  simp only [Int.natCast_zero] at h1
  rw [h1, h2, List.take_length]
 ·simp only [Zq127_l0, ilt_lenf hn, br_f]
 ·have hol : o.length ≤ n := by
   rw [ho]
   exact Nat.le_trans (List.length_filter_le ..) (by simp; omega)
  simp only [Zq127_l0, ilt_len hn, br_t, inb_n hn, chk_t, rdL_n hn]
  rw [tLen_n, l4Fits_eq, bind_some', wrap_succ (by omega)]
  simp only []
  by_cases h : fitsP kind L[n].length k
  ·rw [decide_eq_true h, br_t, room_ok (by simp; omega), chk_t, tApp_d, if_pos rfl]
  ·rw [decide_eq_false h, br_f, if_neg (by simp)]
 ·rw [List.take_add_one, List.getElem?_eq_getElem hn, Option.toList_some, List.filter_append, ← ho]
  by_cases h : fitsP kind L[n].length k
  ·rw [if_pos (decide_eq_true h), List.filter_cons_of_pos (by simp [h])]; rfl
  ·rw [if_neg (by simp [h]), List.filter_cons_of_neg (by simp [h])]; simp
theorem thr_in {R : Type} {N m i : Nat} {es : List (Int × Int)} {xs : List (List Int)} {k0 : Int → Int → List (Int × Int) → List (List Int) → List (Int × Int) → Option R} (hm : m ≤ 8) (hs : lexSorted xs) (hin : ∀ s ∈ xs, ∃ a : Nat, a < 2 ^ m ∧ s = setOf m a) (hi : i < xs.length) (hx : xs.length < 1024) (hN : 1048577 ≤ N) :
  ∀ (d x K : Nat) (o : List (Int × Int)), x + d = m → d < K → pairsUp o → o.length + d ≤ 1048576 →
   ∃ o', Zq127_l1_0 N k0 K (i : Int) (x : Int) (m : Int) es xs o = k0 (i : Int) (m : Int) es xs o' ∧ pairsUp o' ∧ o'.length ≤ o.length + d ∧ ∀ f, f ∈ o' ↔ f ∈ o ∨ ∃ (j y A : Nat), f = ((i : Int), (j : Int)) ∧ i < j ∧ j < xs.length ∧ x ≤ y ∧ y < m ∧ A < 2 ^ m ∧ rdL xs (i : Int) = setOf m A ∧ rdL xs (j : Int) = setOf m (A ^^^ 2 ^ y) := by
 have hrows : ∀ s ∈ xs, s.length ≤ 1048576 := fun s h => by obtain ⟨a, _, rfl⟩ := hin s h; have := setOf_len m a; omega
 obtain ⟨A, hA, hAe⟩ := hin _ (show rdL xs (i : Int) ∈ xs by rw [rdL_n hi]; exact List.getElem_mem hi)
 intro d
 induction d with
 | zero =>
  intro x K o hd hK ho hl
  obtain ⟨K, rfl⟩ := succ_of hK
  refine ⟨o, ?_, ho, by omega, fun f => ⟨.inl, ?_⟩⟩
  ·simp only [Zq127_l1_0, ilt_nf (show ¬ x < m by omega), br_f]
  ·rintro (h | ⟨j, y, B, _, _, _, h1, h2, _⟩)
   ·exact h
   ·omega
 | succ d ih =>
  intro x K o hd hK ho hl
  obtain ⟨K, rfl⟩ := succ_of hK
  have hxm : x < m := by omega
  simp only [Zq127_l1_0, ilt_n hxm, br_t, inb_n hi, chk_t]
  have hT : Zq128 N (rdL xs (i : Int)) (x : Int) = some ((setOf m (A ^^^ 2 ^ x), ()), ()) := by rw [hAe]; exact l4Turned_eq hm hA hxm hN
  rw [hT, bind_some']
  simp only []
  by_cases hmem : setOf m (A ^^^ 2 ^ x) ∈ xs
  ·rw [index_in (by omega) hrows hmem hN, bind_some']
   simp only []
   have hj := idx_lt hmem
   have hjr := idx_rd hmem
   by_cases hij : i < xs.idxOf (setOf m (A ^^^ 2 ^ x))
   ·rw [ilt_n hij, br_t]
    obtain ⟨o1, p1, p2, p3, p4⟩ := putPair_eq (N := N) (e := ((i : Int), ((xs.idxOf (setOf m (A ^^^ 2 ^ x)) : Nat) : Int))) ho (by omega) hN
    rw [p1, bind_some']
    simp only []
    rw [wrap_succ (by omega)]
    obtain ⟨o', q1, q2, q3, q4⟩ := ih (x + 1) K o1 (by omega) (by omega) p2 (by omega)
    refine ⟨o', q1, q2, by omega, fun f => ?_⟩
    rw [q4 f, p3 f]
    constructor
    ·rintro ((h | h) | ⟨j, y, B, h1, h2, h3, h4, h5, h6, h7, h8⟩)
     ·exact .inl h
     ·exact .inr ⟨_, x, A, h, hij, hj, Nat.le_refl _, hxm, hA, hAe, hjr⟩
     ·exact .inr ⟨j, y, B, h1, h2, h3, by omega, h5, h6, h7, h8⟩
    ·rintro (h | ⟨j, y, B, h1, h2, h3, h4, h5, h6, h7, h8⟩)
     ·exact .inl (.inl h)
     ·by_cases hy : y = x
      ·subst hy
       have hBA : B = A := setOf_inj h6 hA (by rw [← h7, hAe])
       subst hBA
       refine .inl (.inr ?_)
       have : j = xs.idxOf (setOf m (B ^^^ 2 ^ y)) := by
        rw [rdL_n h3] at h8
        rw [rdL_n hj] at hjr
        exact (List.getElem_inj (lex_nodup hs)).1 (h8.trans hjr.symm)
       rw [h1, this]
      ·exact .inr ⟨j, y, B, h1, h2, h3, by omega, h5, h6, h7, h8⟩
   ·rw [ilt_nf hij, br_f, wrap_succ (by omega)]
    obtain ⟨o', q1, q2, q3, q4⟩ := ih (x + 1) K o (by omega) (by omega) ho (by omega)
    refine ⟨o', q1, q2, by omega, fun f => ?_⟩
    rw [q4 f]
    constructor
    ·rintro (h | ⟨j, y, B, h1, h2, h3, h4, h5⟩)
     ·exact .inl h
     ·exact .inr ⟨j, y, B, h1, h2, h3, by omega, h5⟩
    ·rintro (h | ⟨j, y, B, h1, h2, h3, h4, h5, h6, h7, h8⟩)
     ·exact .inl h
     ·by_cases hy : y = x
      ·subst hy
       have hBA : B = A := setOf_inj h6 hA (by rw [← h7, hAe])
       subst hBA
       have : j = xs.idxOf (setOf m (B ^^^ 2 ^ y)) := by
        rw [rdL_n h3] at h8
        rw [rdL_n hj] at hjr
        exact (List.getElem_inj (lex_nodup hs)).1 (h8.trans hjr.symm)
       omega
      ·exact .inr ⟨j, y, B, h1, h2, h3, by omega, h5, h6, h7, h8⟩
  ·rw [index_out (by omega) hrows hmem hN, bind_some']
   simp only []
   rw [ilt_f (by omega), br_f, wrap_succ (by omega)]
   obtain ⟨o', q1, q2, q3, q4⟩ := ih (x + 1) K o (by omega) (by omega) ho (by omega)
   refine ⟨o', q1, q2, by omega, fun f => ?_⟩
   rw [q4 f]
   constructor
   ·rintro (h | ⟨j, y, B, h1, h2, h3, h4, h5⟩)
    ·exact .inl h
    ·exact .inr ⟨j, y, B, h1, h2, h3, by omega, h5⟩
   ·rintro (h | ⟨j, y, B, h1, h2, h3, h4, h5, h6, h7, h8⟩)
    ·exact .inl h
    ·by_cases hy : y = x
     ·subst hy
      have hBA : B = A := setOf_inj h6 hA (by rw [← h7, hAe])
      subst hBA
      exact absurd (by rw [← h8, rdL_n h3]; exact List.getElem_mem h3) hmem
     ·exact .inr ⟨j, y, B, h1, h2, h3, by omega, h5, h6, h7, h8⟩
theorem thr_loop {N m : Nat} {es : List (Int × Int)} {xs : List (List Int)} (hm : m ≤ 8) (hs : lexSorted xs) (hin : ∀ s ∈ xs, ∃ a : Nat, a < 2 ^ m ∧ s = setOf m a) (hx : xs.length < 1024) (hN : 1048577 ≤ N) :
  Zq127_l1 N (fun o6 o7 => some (((o6, o7), ()), ())) N 0 (m : Int) es xs [] = some (((xs, stepsL addP xs), ()), ()) := by
 have go : ∀ (d i K : Nat) (o : List (Int × Int)), i + d = xs.length → d < K → pairsUp o → o.length ≤ 8 * i → (∀ f, f ∈ o ↔ ∃ (k j y A : Nat), f = ((k : Int), (j : Int)) ∧ k < i ∧ k < j ∧ j < xs.length ∧ y < m ∧ A < 2 ^ m ∧ rdL xs (k : Int) = setOf m A ∧ rdL xs (j : Int) = setOf m (A ^^^ 2 ^ y)) →
   ∃ o', Zq127_l1 N (fun o6 o7 => some (((o6, o7), ()), ())) K (i : Int) (m : Int) es xs o = some (((xs, o'), ()), ()) ∧ pairsUp o' ∧ ∀ f, f ∈ o' ↔ ∃ (k j y A : Nat), f = ((k : Int), (j : Int)) ∧ k < xs.length ∧ k < j ∧ j < xs.length ∧ y < m ∧ A < 2 ^ m ∧ rdL xs (k : Int) = setOf m A ∧ rdL xs (j : Int) = setOf m (A ^^^ 2 ^ y) := by
  intro d
  induction d with
  | zero =>
   intro i K o hd hK ho hl hf
   obtain ⟨K, rfl⟩ := succ_of hK
   have e : i = xs.length := by omega
   subst e
   refine ⟨o, ?_, ho, hf⟩
   simp only [Zq127_l1, ilt_lenf (Nat.lt_irrefl _), br_f]
  | succ d ih =>
   intro i K o hd hK ho hl hf
   obtain ⟨K, rfl⟩ := succ_of hK
   have hi : i < xs.length := by omega
   simp only [Zq127_l1, ilt_len hi, br_t]
   obtain ⟨o1, p1, p2, p3, p4⟩ := thr_in (R := ((List (List Int) × List (Int × Int)) × Unit) × Unit) (es := es) (k0 := fun x5 o10 o11 o12 o13 => Zq127_l1 N (fun o6 o7 => some (((o6, o7), ()), ())) K (IntKind.i64.wrap (x5 + 1)) o10 o11 o12 o13) hm hs hin hi hx hN m 0 N o (by omega) (by omega) ho (by omega)
   simp only [Int.natCast_zero] at p1
   rw [p1, wrap_succ (by omega)]
   refine ih (i + 1) K o1 (by omega) (by omega) p2 (by omega) fun f => ?_
   rw [p4 f, hf f]
   constructor
   ·rintro (⟨k, j, y, A, h1, h2, h3⟩ | ⟨j, y, A, h1, h2, h3, h4, h5, h6⟩)
    ·exact ⟨k, j, y, A, h1, by omega, h3⟩
    ·exact ⟨i, j, y, A, h1, by omega, h2, h3, h5, h6⟩
   ·rintro ⟨k, j, y, A, h1, h2, h3, h4, h5, h6⟩
    by_cases hk : k = i
    ·subst hk
     exact .inr ⟨j, y, A, h1, h3, h4, Nat.zero_le _, h5, h6⟩
    ·exact .inl ⟨k, j, y, A, h1, by omega, h3, h4, h5, h6⟩
 obtain ⟨o, h1, h2, h3⟩ := go xs.length 0 N [] (by omega) (by omega) List.Pairwise.nil (by simp) (fun f => by simp)
 simp only [Int.natCast_zero] at h1
 rw [h1]
 have : o = stepsL addP xs := by
  refine pairs_ext h2 ((stepsL_ok (p := addP) (xs := xs)).1) fun f => ?_
  rw [h3 f, mem_stepsL]
  constructor
  ·rintro ⟨k, j, y, A, e1, e2, e3, e4, e5, e6, e7, e8⟩
   exact ⟨k, j, e1, e3, e4, by rw [e7, e8]; exact (addP_iff e6 (xor_lt e6 e5)).2 ⟨y, e5, rfl⟩⟩
  ·rintro ⟨k, j, e1, e3, e4, e5⟩
   obtain ⟨A, hA, hAe⟩ := hin _ (show rdL xs (k : Int) ∈ xs by rw [rdL_n (by omega)]; exact List.getElem_mem _)
   obtain ⟨B, hB, hBe⟩ := hin _ (show rdL xs (j : Int) ∈ xs by rw [rdL_n e4]; exact List.getElem_mem _)
   rw [hAe, hBe] at e5
   obtain ⟨x, hx', hxe⟩ := (addP_iff hA hB).1 e5
   exact ⟨k, j, x, A, e1, by omega, e3, e4, hx', hA, hAe, by rw [hBe, hxe]⟩
 rw [this]
theorem l4Thr_eq {N m : Nat} {es : List (Int × Int)} {kind k : Int} (hm : m ≤ 8) (hx : es.length ≤ 1048576) (hN : 1048577 ≤ N) : ∃ ys, ThSt m es kind k ys ∧ Zq127 N ((m : Int), es) kind k = some (((ys, stepsL addP ys), ()), ()) := by
 have h256 := pow256 hm
 obtain ⟨L, l1, l2, l3, l4⟩ := l4Sets_eq (kind := kind) hm hx hN
 have hLr : ∀ x ∈ L.filter (fun s => decide (fitsP kind s.length k)), x.length ≤ 1048576 := fun x hx => by
  obtain ⟨⟨a, _, rfl⟩, _⟩ := (l4 x).1 (List.mem_filter.1 hx).1
  have := setOf_len m a
  omega
 have hLl := List.length_filter_le (fun s : List Int => decide (fitsP kind s.length k)) L
 obtain ⟨ys, y1, y2, y3⟩ := l2Sorted_eq (N := N) (xs := L.filter fun s => decide (fitsP kind s.length k)) (by omega) hLr hN
 have hst : ThSt m es kind k ys := ⟨y2, fun s => by rw [y3 s, List.mem_filter, l4 s, decide_eq_true_eq, and_assoc]⟩
 have hin : ∀ s ∈ ys, ∃ a : Nat, a < 2 ^ m ∧ s = setOf m a := fun s hs => ((hst.2 s).1 hs).1
 have hsm := lex_small y2 hin
 refine ⟨ys, hst, ?_⟩
 unfold Zq127
 simp only []
 rw [l1, bind_some']
 simp only []
 rw [filt_thr (by omega) hN, y1, bind_some']
 simp only []
 exact thr_loop hm y2 hin (by omega) hN
theorem threshold_eq {N m : Nat} {es : List (Int × Int)} {kind k : Int} {ys : List (List Int)} (hm : m ≤ 8) (hg : goodG ((m : Int), es)) (hx : es.length ≤ 1048576) (hst : ThSt m es kind k ys) (hN : 1048577 ≤ N) : Zq16 N ((m : Int), es) kind k = some (((ys, stepsL addP ys), ()), ()) := by
 have hin : ∀ s ∈ ys, ∃ a : Nat, a < 2 ^ m ∧ s = setOf m a := fun s hs => ((hst.2 s).1 hs).1
 have hsm := lex_small hst.1 hin
 have h256 := pow256 hm
 unfold Zq16
 simp only []
 rw [sets_eq (p := fun s => decide (hasK m es kind s ∧ fitsP kind s.length k)) hm (fun a ha => ?_) hst.1 (fun s => by rw [hst.2 s, decide_eq_true_eq]) hN, bind_some']
 ·simp only []
  rw [spaceOf_g (xs := ys) (p := addP) (SortFunc_rows (by omega) (fun x hx => by obtain ⟨a, _, rfl⟩ := hin x hx; have := setOf_len m a; omega) (lex_nodup hst.1) hst.1 (fun _ => Iff.rfl) hN) hst.1 (by omega) (fun a ha b hb _ => ?_) hN, bind_some']
  obtain ⟨A, hA, rfl⟩ := hin a ha
  obtain ⟨B, hB, rfl⟩ := hin b hb
  show (Zq37 N _ _).bind _ = _
  rw [isAdding_eq hm hA hB hN]
  rfl
 ·unfold Zq17
  simp only [bag_size_eq hm ha, hasKind_eq hm ha hg hx hN, bind_some']
  by_cases h2 : kind = 2
  ·have hf : fitsP kind (setOf m a).length k ↔ k ≤ ((setOf m a).length : Int) := by unfold fitsP; rw [if_pos h2]
   rw [ieq_t h2, br_t, ine_f h2, br_f]
   by_cases h3 : k ≤ ((setOf m a).length : Int)
   ·rw [ilt_f (by omega), br_f, bind_some']
    congr 1
    exact decide_eq_decide.2 ⟨fun h => ⟨h, hf.2 h3⟩, fun h => h.1⟩
   ·rw [ilt_t (by omega), br_t, bind_some', decide_eq_false (fun h => h3 (hf.1 h.2))]
  ·have hf : fitsP kind (setOf m a).length k ↔ ((setOf m a).length : Int) ≤ k := by unfold fitsP; rw [if_neg h2]
   rw [ieq_f h2, br_f, ine_t h2, br_t]
   by_cases h3 : ((setOf m a).length : Int) ≤ k
   ·rw [ilt_f (by omega), br_f, bind_some']
    congr 1
    exact decide_eq_decide.2 ⟨fun h => ⟨h, hf.2 h3⟩, fun h => h.1⟩
   ·rw [ilt_t (by omega), br_t, bind_some', decide_eq_false (fun h => h3 (hf.1 h.2))]
theorem risingP {m : Nat} {s : List Int} (h : rising 0 ((m : Int) - 1) s) : s.Pairwise (· < ·) := rising_strict h
theorem risingN {m : Nat} {s : List Int} (h : rising 0 ((m : Int) - 1) s) : ∀ z ∈ s, InN m z := fun z hz => by
 have := rising_in h z hz
 exact ⟨this.1, by omega⟩
theorem rising_set {m : Nat} {s : List Int} (hm : m ≤ 8) (h : rising 0 ((m : Int) - 1) s) : ∃ A : Nat, A < 2 ^ m ∧ s = setOf m A := by
 have hin := risingN h
 have hnd : s.Nodup := (risingP h).imp fun h e => by omega
 have hl : s.length ≤ m := by
  have := nodup_le hnd (b := (List.range' 0 m).map fun i : Nat => (i : Int)) fun z hz => by
   obtain ⟨k, hk, rfl⟩ := nat_of (hin z hz)
   exact List.mem_map.2 ⟨k, List.mem_range'_1.2 (by omega), rfl⟩
  simpa using this
 obtain ⟨q, q1, q2, q3⟩ := bagOf_eq (N := 1048577) (xs := s) (fun y hy => by have := hin y hy; unfold InN at this; omega) (by omega) (Nat.le_refl _)
 have hq : ∀ i, m ≤ i → q.testBit i = false := fun i hi => by
  refine Bool.eq_false_iff.2 fun h => ?_
  have := hin _ ((q3 i).1 h)
  unfold InN at this
  omega
 have hq2 : q < 2 ^ m := Nat.lt_pow_two_of_testBit q hq
 refine ⟨q, hq2, asc_ext (risingP h) (setOf_strict m q) fun z => ?_⟩
 constructor
 ·intro hz
  obtain ⟨k, hk, rfl⟩ := nat_of (hin z hz)
  exact mem_setN.2 ⟨hk, (q3 k).2 hz⟩
 ·intro hz
  obtain ⟨k, hk, hb, rfl⟩ := mem_setOf.1 hz
  exact (q3 k).1 hb
def ofK (g : Int × List (Int × Int)) (kind : Int) (s : List Int) : Prop := (goodG g ∧ 1 ≤ kind ∧ kind ≤ 3) ∧ rising 0 (g.1 - 1) s ∧ hasK g.1.toNat g.2 kind s
theorem l4Good_eq {N : Nat} {g : Int × List (Int × Int)} {kind : Int} (hx : g.2.length ≤ 1048576) (hN : 1048577 ≤ N) : Zq119 N g kind = some ((decide (goodG g ∧ 1 ≤ kind ∧ kind ≤ 3), ()), ()) := by
 unfold Zq119 Zq122
 simp only [show ((g.1, g.2) : Int × List (Int × Int)) = g from rfl, l2Good_eq hx hN, l1In_eq, bind_some']
 by_cases h : goodG g
 ·rw [decide_eq_true h, br_t]; simp [h]
 ·rw [decide_eq_false h, br_f]; simp [h]
theorem l4One_eq {N : Nat} {g : Int × List (Int × Int)} {kind : Int} {s : List Int} (hx : g.2.length ≤ 1048576) (hs : s.length ≤ 1048576) (hN : 1048577 ≤ N) : Zq125 N g kind s = some ((decide (ofK g kind s), ()), ()) := by
 unfold Zq125 Zq82 Zq113
 simp only [show ((g.1, g.2) : Int × List (Int × Int)) = g from rfl]
 rw [l4Good_eq hx hN, bind_some']
 by_cases h : goodG g ∧ 1 ≤ kind ∧ kind ≤ 3
 ·have hg1 := h.1.1
  rw [decide_eq_true h]
  simp only [Bool.not_true, br_f]
  rw [wrap_ok (by omega) (by omega), l1Rising_eq hs hN, bind_some', bind_some']
  by_cases h2 : rising 0 (g.1 - 1) s
  ·rw [decide_eq_true h2]
   simp only [Bool.not_true, br_f]
   obtain ⟨m, hm⟩ : ∃ m : Nat, g.1 = (m : Int) := ⟨g.1.toNat, by omega⟩
   obtain ⟨g1, es⟩ := g
   simp only [] at hm hx hg1 ⊢
   subst hm
   rw [l4Has_eq (by omega) hx hs hN, bind_some', bind_some']
   by_cases h3 : hasK m es kind s
   ·rw [decide_eq_true h3, br_t, decide_eq_true (show ofK ((m : Int), es) kind s from ⟨h, h2, h3⟩)]
   ·rw [decide_eq_false h3, br_f, decide_eq_false (fun q : ofK ((m : Int), es) kind s => h3 q.2.2)]
  ·rw [decide_eq_false h2, decide_eq_false (fun q : ofK g kind s => h2 q.2.1)]
   rfl
 ·rw [decide_eq_false h, decide_eq_false (fun q : ofK g kind s => h q.1)]
  rfl
theorem isOfKind_eq {N : Nat} {g : Int × List (Int × Int)} {kind : Int} {s : List Int} (hx : g.2.length ≤ 1048576) (hs : s.length ≤ 1048576) (hN : 1048577 ≤ N) : Zq40 N g kind s = some ((decide (ofK g kind s), ()), ()) := by
 unfold Zq40 Zq18 Zq43 Zq39
 simp only [show ((g.1, g.2) : Int × List (Int × Int)) = g from rfl]
 rw [IsGraph_eq hx hN, bind_some']
 by_cases h : goodG g
 ·have hg1 := h.1
  rw [decide_eq_true h, br_t]
  simp only [between_eq, bind_some']
  by_cases hk : 1 ≤ kind ∧ kind ≤ 3
  ·rw [decide_eq_true hk, br_t, isRising_eq hs (by omega) hN, bind_some', bind_some']
   by_cases h2 : rising 0 (g.1 - 1) s
   ·rw [decide_eq_true h2]
    simp only [Bool.not_true, br_f]
    obtain ⟨m, hm⟩ : ∃ m : Nat, g.1 = (m : Int) := ⟨g.1.toNat, by omega⟩
    obtain ⟨g1, es⟩ := g
    simp only [] at hm hx hg1 ⊢
    subst hm
    obtain ⟨A, hA, rfl⟩ := rising_set (by omega) h2
    rw [bagOf_set (by omega) hA hN, bind_some']
    simp only []
    rw [hasKind_eq (by omega) hA h hx hN, bind_some', bind_some']
    congr 3
    exact decide_eq_decide.2 ⟨fun q => ⟨⟨h, hk⟩, h2, q⟩, fun q => q.2.2⟩
   ·rw [decide_eq_false h2, decide_eq_false (fun q : ofK g kind s => h2 q.2.1)]
    rfl
  ·rw [decide_eq_false hk, decide_eq_false (fun q : ofK g kind s => hk q.1.2)]
   rfl
 ·rw [decide_eq_false h, decide_eq_false (fun q : ofK g kind s => h q.1.1)]
  rfl
theorem clique_mem {s : List Int} (hs : s.Pairwise (· < ·)) {p : Int → Int → Prop} : (∀ i j : Nat, i < s.length → j < i → p (rdI s (i : Int)) (rdI s (j : Int))) ↔ ∀ x ∈ s, ∀ y ∈ s, y < x → p x y := by
 constructor
 ·intro h x hx y hy hxy
  obtain ⟨i, hi, rfl⟩ := List.getElem_of_mem hx
  obtain ⟨j, hj, rfl⟩ := List.getElem_of_mem hy
  have hji : j < i := by
   refine Nat.lt_of_not_le fun hle => ?_
   by_cases e : i = j
   ·subst e; omega
   ·have := List.pairwise_iff_getElem.1 hs i j hi hj (by omega)
    omega
  have := h i j hi hji
  rwa [rdI_n hi, rdI_n hj] at this
 ·intro h i j hi hj
  rw [rdI_n hi, rdI_n (show j < s.length by omega)]
  exact h _ (List.getElem_mem hi) _ (List.getElem_mem _) (List.pairwise_iff_getElem.1 hs j i (by omega) hi hj)
theorem addP_symm {a b : List Int} : addP a b = addP b a := by
 unfold addP
 exact decide_eq_decide.2 (by omega)
theorem xor_ne (A x : Nat) : A ^^^ 2 ^ x ≠ A := fun h => by
 have := congrArg (fun n => Nat.testBit n x) h
 simp only [xor_bit] at this
 cases h : A.testBit x <;> simp [h] at this
theorem add_near {m A x : Nat} {ys : List (List Int)} (hA : A < 2 ^ m) (hx : x < m) (h1 : setOf m A ∈ ys) (h2 : setOf m (A ^^^ 2 ^ x) ∈ ys) : ((ys.idxOf (setOf m (A ^^^ 2 ^ x)) : Nat) : Int) ∈ rdL (nbL ys.length (stepsL addP ys)) ((ys.idxOf (setOf m A) : Nat) : Int) := by
 have i1 := idx_lt h1
 have i2 := idx_lt h2
 have r1 := idx_rd h1
 have r2 := idx_rd h2
 rw [nbL_rd (in_nat i1), mem_nbS stepsL_ok]
 have hp : addP (setOf m A) (setOf m (A ^^^ 2 ^ x)) = true := (addP_iff hA (xor_lt hA hx)).2 ⟨x, hx, rfl⟩
 have hne : ys.idxOf (setOf m A) ≠ ys.idxOf (setOf m (A ^^^ 2 ^ x)) := fun e => by
  rw [e, r2] at r1
  exact xor_ne A x (setOf_inj (xor_lt hA hx) hA r1)
 by_cases hlt : ys.idxOf (setOf m A) < ys.idxOf (setOf m (A ^^^ 2 ^ x))
 ·exact .inr (mem_stepsL.2 ⟨_, _, rfl, hlt, i2, by rw [r1, r2]; exact hp⟩)
 ·exact .inl (mem_stepsL.2 ⟨_, _, rfl, by omega, i1, by rw [r1, r2, addP_symm]; exact hp⟩)
theorem wk_wl {L : List (List Int)} {x y : Int} (h : Wk L x y) : ∃ k, Wl L x k y := by
 induction h with
 | base => exact ⟨0, .base⟩
 | step _ hz ih =>
  obtain ⟨k, hk⟩ := ih
  exact ⟨k + 1, .step hk hz⟩
theorem way_some {xs : List (List Int)} {st : List (Int × Int)} {a b : List Int} (hn : xs.length ≤ 1048576) (h : okSt xs.length st) (ha : a ∈ xs) (hb : b ∈ xs) : wayS xs st a b ≠ [] ↔ Wk (nbL xs.length st) ((xs.idxOf b : Nat) : Int) ((xs.idxOf a : Nat) : Int) := by
 have hl := nbL_ok hn h
 obtain ⟨s1, s2, s3, s4, s5, s6⟩ := bfsD_spec hl (in_nat (idx_lt hb))
 unfold wayS wayI
 by_cases hlt : rdI (bfsD (nbL xs.length st) xs.length ((xs.idxOf b : Nat) : Int)) ((xs.idxOf a : Nat) : Int) < 0
 ·rw [if_pos hlt]
  refine ⟨fun h => absurd rfl h, fun hw => ?_⟩
  obtain ⟨k, hk⟩ := wk_wl hw
  have := (s6 _ _ hk).2.1
  omega
 ·rw [if_neg hlt]
  refine ⟨fun _ => ?_, fun _ => by simp⟩
  have hw := s5 _ (in_nat (idx_lt ha)) (by omega)
  have key : ∀ {k : Nat} {y : Int}, Wl (nbL xs.length st) ((xs.idxOf b : Nat) : Int) k y → Wk (nbL xs.length st) ((xs.idxOf b : Nat) : Int) y := by
   intro k y hk
   induction hk with
   | base => exact .base
   | step _ hz ih => exact .step ih hz
  exact key hw
theorem hasK_up {m : Nat} {es : List (Int × Int)} {kind : Int} {s t : List Int} (hk : kind ≠ 2) (hst : ∀ x ∈ s, x ∈ t) (h : hasK m es kind s) : hasK m es kind t := by
 unfold hasK at *
 by_cases h1 : kind = 1
 ·rw [if_pos h1] at h ⊢
  exact fun e he => (h e he).imp (hst _) (hst _)
 ·rw [if_neg h1, if_neg hk] at h ⊢
  exact fun x hx => (h x hx).imp (hst _) fun ⟨y, hy, hn⟩ => ⟨y, hst y hy, hn⟩
theorem hasK_down {m : Nat} {es : List (Int × Int)} {A B : Nat} (hst : ∀ x ∈ setOf m B, x ∈ setOf m A) (h : hasK m es 2 (setOf m A)) : hasK m es 2 (setOf m B) := by
 unfold hasK at *
 rw [if_neg (by decide), if_pos rfl] at h ⊢
 rw [clique_mem (p := fun x y => nearG es x y) (setOf_strict m _)] at h ⊢
 exact fun x hx y hy hxy => h x (hst x hx) y (hst y hy) hxy
theorem l1Least_eq {N : Nat} {x y : Int} : Zq97 N x y = some (((if x < y then x else y), ()), ()) := by
 unfold Zq97
 by_cases h : x < y
 ·rw [ilt_t h, br_t, if_pos h]
 ·rw [ilt_f h, br_f, if_neg h]
def CurOk (code : List Int) (k : Nat) (c : List Int × (Int × Int)) : Prop := c.1 = code ∧ 0 ≤ c.2.1 ∧ c.2.1 ≤ (k : Int)
def codeOk (code : List Int) : Prop := code.length ≤ 1048576 ∧ ∀ x ∈ code, 0 ≤ x ∧ x ≤ 255
theorem cur_mono {code : List Int} {k l : Nat} {c : List Int × (Int × Int)} (h : CurOk code k c) (hl : k ≤ l) : CurOk code l c := ⟨h.1, h.2.1, by have := h.2.2; omega⟩
theorem u8_and (x : Int) : 0 ≤ IntKind.i64.wrap (bitop .and .u64 x 255) ∧ IntKind.i64.wrap (bitop .and .u64 x 255) ≤ 255 := by
 have h : ∃ n : Nat, bitop .and .u64 x 255 = (n : Int) ∧ n ≤ 255 := by
  unfold bitop
  simp only []
  have e : (BitVec.ofInt IntKind.u64.bits x &&& BitVec.ofInt IntKind.u64.bits 255).toNat = (BitVec.ofInt IntKind.u64.bits x).toNat &&& 255 := by
   rw [BitVec.toNat_and]; rfl
  have hle : (BitVec.ofInt IntKind.u64.bits x).toNat &&& 255 ≤ 255 := Nat.and_le_right
  refine ⟨(BitVec.ofInt IntKind.u64.bits x).toNat &&& 255, ?_, hle⟩
  rw [e]
  unfold IntKind.wrap
  simp only [IntKind.signed, IntKind.bits]
  have : (((BitVec.ofInt 64 x).toNat &&& 255 : Nat) : Int) % 2 ^ 64 = (((BitVec.ofInt 64 x).toNat &&& 255 : Nat) : Int) := by
   refine Int.emod_eq_of_lt (by omega) ?_
   have : (BitVec.ofInt 64 x).toNat &&& 255 ≤ 255 := Nat.and_le_right
   omega
  simpa using this
 obtain ⟨n, h1, h2⟩ := h
 rw [h1, wrap_ok (by omega) (by omega)]
 omega
end Go.Proofs.YtahehkidnfmfnaaGreat
