/- Statements on data alone. -/
import Derived.Test.YtbnjcjpnpidhmaaGreatPvPure
import Derived.Test.YtbnjcjpnpidhmaaGreatThresholdWayGd
set_option linter.all false
set_option linter.all false
namespace Go.Proofs.YtbnjcjpnpidhmaaGreat
open Go Go.PV Classical
def wideK (m : Nat) (kind : Int) : Int := if kind = 2 then 0 else (m : Int)
theorem wide_way {m A B : Nat} {es : List (Int × Int)} {kind : Int} {ys : List (List Int)} (hst : ThSt m es kind (wideK m kind) ys) (hA : A < 2 ^ m) (hB : B < 2 ^ m) (ha : hasK m es kind (setOf m A)) (hb : hasK m es kind (setOf m B)) (hn : ys.length ≤ 1048576) :
    Wk (nbL ys.length (stepsL addP ys)) ((ys.idxOf (setOf m B) : Nat) : Int) ((ys.idxOf (setOf m A) : Nat) : Int) := by
  have hmem : ∀ C : Nat, C < 2 ^ m → hasK m es kind (setOf m C) → setOf m C ∈ ys := fun C hC hK => by
    refine (hst.2 _).2 ⟨⟨C, hC, rfl⟩, hK, ?_⟩
    unfold fitsP wideK
    have := setOf_len m C
    by_cases h : kind = 2
    · rw [if_pos h, if_pos h]; omega
    · rw [if_neg h, if_neg h]; omega
  obtain ⟨T, hT, key⟩ : ∃ T, T < 2 ^ m ∧ ∀ C : Nat, C < 2 ^ m → hasK m es kind (setOf m C) → ∀ x, x ≤ m → setOf m (toward T x C) ∈ ys := by
    by_cases h : kind = 2
    · subst h
      refine ⟨0, Nat.two_pow_pos m, fun C hC hK x hx => hmem _ (toward_lt (Nat.two_pow_pos m) hC) (hasK_down (A := C) (fun z hz => ?_) hK)⟩
      obtain ⟨i, hi, hbi, rfl⟩ := mem_setOf.1 hz
      rw [toward_bit] at hbi
      refine mem_setN.2 ⟨hi, ?_⟩
      by_cases h2 : i < x
      · rw [if_pos h2] at hbi; simp at hbi
      · rwa [if_neg h2] at hbi
    · have h2 : 2 ^ m - 1 < 2 ^ m := by have := Nat.two_pow_pos m; omega
      refine ⟨2 ^ m - 1, h2, fun C hC hK x hx => hmem _ (toward_lt h2 hC) (hasK_up h (s := setOf m C) (fun z hz => ?_) hK)⟩
      obtain ⟨i, hi, hbi, rfl⟩ := mem_setOf.1 hz
      refine mem_setN.2 ⟨hi, ?_⟩
      rw [toward_bit]
      split
      · rw [Nat.testBit_two_pow_sub_one]; simpa using hi
      · exact hbi
  have hl := nbL_ok hn (stepsL_ok (p := addP) (xs := ys))
  have w1 := toward_way hT hA (key A hA ha)
  have w2 := toward_way hT hB (key B hB hb)
  exact Wk_trans w2 (Wk_symm hl (nbL_symL stepsL_ok) (in_nat (idx_lt (hmem A hA ha))) w1)
theorem l1Least_eq {N : Nat} {x y : Int} : spec_l1Least N x y = some (((if x < y then x else y), ()), ()) := by
  unfold spec_l1Least
  by_cases h : x < y
  · rw [ilt_t h, br_t, if_pos h]
  · rw [ilt_f h, br_f, if_neg h]
def leftK (m : Nat) (kind k : Int) (d : Nat) : Prop := if kind = 2 then k = (d : Int) else k + (d : Int) = (m : Int)
theorem pass_loop {N m A B : Nat} {es : List (Int × Int)} {kind : Int} (hm : m ≤ 8) (hg : goodG ((m : Int), es)) (hx : es.length ≤ 1048576) (hA : A < 2 ^ m) (hB : B < 2 ^ m) (ha : hasK m es kind (setOf m A)) (hb : hasK m es kind (setOf m B)) (hN : 1048577 ≤ N) {k1 : Unit → Option ((Int × List (List Int) × Bool × Unit) × Unit)} :
    ∀ (d : Nat) (k : Int) (Ks Ki : Nat), leftK m kind k d → d < Ks → d < Ki → fitsP kind (setOf m A).length k → fitsP kind (setOf m B).length k →
      ∃ (k' : Int) (w : List (List Int)), spec_l4Between_l0 N (fun x o => some ((x, o, ()), ())) Ks kind (setOf m A) (setOf m B) k (if kind = 2 then -1 else 1) (m : Int) es = some ((k', w, ()), ()) ∧
        impl_Graph_passage_l0 N (fun x x1 o => some ((x, o, x1, ()), ())) k1 Ki kind (setOf m A) (setOf m B) k (if kind = 2 then -1 else 1) (m : Int) es = some ((k', w, true, ()), ()) ∧ w.length ≤ 256 ∧ ∀ x ∈ w, x.length ≤ 8 := by
  have h256 := pow256 hm
  intro d
  induction d with
  | zero =>
    intro k Ks Ki hk hKs hKi fa fb
    obtain ⟨Ks, rfl⟩ := succ_of hKs
    obtain ⟨Ki, rfl⟩ := succ_of hKi
    have hkw : k = wideK m kind := by
      unfold leftK at hk
      unfold wideK
      by_cases h : kind = 2
      · rw [if_pos h] at hk ⊢; omega
      · rw [if_neg h] at hk ⊢; omega
    have hkr : 0 ≤ k ∧ k ≤ (m : Int) := by
      rw [hkw]; unfold wideK; split <;> omega
    obtain ⟨ys, y1, y2⟩ := l4Thr_eq (kind := kind) (k := k) hm hx hN
    have y3 := threshold_eq hm hg hx y1 hN
    have hin : ∀ s ∈ ys, ∃ a : Nat, a < 2 ^ m ∧ s = setOf m a := fun s hs => ((y1.2 s).1 hs).1
    have hsm := lex_small y1.1 hin
    have hrow : ∀ x ∈ ys, x.length ≤ 1048576 := fun x hx => by obtain ⟨A, _, rfl⟩ := hin x hx; have := setOf_len m A; omega
    have hay := (y1.2 _).2 ⟨⟨A, hA, rfl⟩, ha, fa⟩
    have hby := (y1.2 _).2 ⟨⟨B, hB, rfl⟩, hb, fb⟩
    have hsl := stepsL_len addP ys
    have h65 : ys.length * ys.length ≤ 256 * 256 := Nat.mul_le_mul (by omega) (by omega)
    have hne : wayS ys (stepsL addP ys) (setOf m A) (setOf m B) ≠ [] := (way_some (by omega) stepsL_ok hay hby).2 (wide_way (hkw ▸ y1) hA hB ha hb (by omega))
    have hnI : 0 < (wayI ys (stepsL addP ys) (ys.idxOf (setOf m A)) (ys.idxOf (setOf m B))).length := by
      refine Nat.pos_of_ne_zero fun e => hne ?_
      unfold wayS
      rw [List.eq_nil_of_length_eq_zero e]
      rfl
    have hw1 := wayI_len (xs := ys) (st := stepsL addP ys) (i := ys.idxOf (setOf m A)) (j := ys.idxOf (setOf m B)) (by omega) stepsL_ok (idx_lt hay) (idx_lt hby)
    refine ⟨k, wayS ys (stepsL addP ys) (setOf m A) (setOf m B), ?_, ?_, Nat.le_trans (wayS_len (by omega) stepsL_ok hay hby) (by omega), fun x hx => ?_⟩
    · simp only [spec_l4Between_l0]
      rw [y2, bind_some']
      simp only []
      rw [index_in (by omega) hrow hay hN, index_in (by omega) hrow hby hN, bind_some', bind_some']
      simp only []
      rw [l2Walk_eq (by omega) (by omega) stepsL_ok (idx_lt hay) (idx_lt hby) hN, bind_some']
      simp only []
      rw [tLen_n, ilt_t (by omega), br_t, named_eq hrow (wayI_in (by omega) stepsL_ok (idx_lt hay) (idx_lt hby)) (by omega) hN, bind_some']
      rfl
    · simp only [impl_Graph_passage_l0]
      rw [between_eq, bind_some', decide_eq_true (show 0 ≤ k ∧ k ≤ (m : Int) from hkr), br_t, y3, bind_some']
      simp only []
      rw [walk_eq y1.1 hrow (by omega) (by omega) stepsL_ok hay hby hN, bind_some']
      simp only []
      rw [decide_eq_true hne, br_t]
    · obtain ⟨C, _, rfl⟩ := hin x (wayS_in (by omega) stepsL_ok hay hby x hx)
      have := setOf_len m C
      omega
  | succ d ih =>
    intro k Ks Ki hk hKs hKi fa fb
    obtain ⟨Ks, rfl⟩ := succ_of hKs
    obtain ⟨Ki, rfl⟩ := succ_of hKi
    have hla := setOf_len m A
    have hkr : 0 ≤ k ∧ k ≤ (m : Int) := by
      unfold leftK at hk
      unfold fitsP at fa
      by_cases h : kind = 2
      · rw [if_pos h] at hk fa; omega
      · rw [if_neg h] at hk fa; omega
    obtain ⟨ys, y1, y2⟩ := l4Thr_eq (kind := kind) (k := k) hm hx hN
    have y3 := threshold_eq hm hg hx y1 hN
    have hin : ∀ s ∈ ys, ∃ a : Nat, a < 2 ^ m ∧ s = setOf m a := fun s hs => ((y1.2 s).1 hs).1
    have hsm := lex_small y1.1 hin
    have hrow : ∀ x ∈ ys, x.length ≤ 1048576 := fun x hx => by obtain ⟨A, _, rfl⟩ := hin x hx; have := setOf_len m A; omega
    have hay := (y1.2 _).2 ⟨⟨A, hA, rfl⟩, ha, fa⟩
    have hby := (y1.2 _).2 ⟨⟨B, hB, rfl⟩, hb, fb⟩
    have hsl := stepsL_len addP ys
    have h65 : ys.length * ys.length ≤ 256 * 256 := Nat.mul_le_mul (by omega) (by omega)
    have hw1 := wayI_len (xs := ys) (st := stepsL addP ys) (i := ys.idxOf (setOf m A)) (j := ys.idxOf (setOf m B)) (by omega) stepsL_ok (idx_lt hay) (idx_lt hby)
    simp only [spec_l4Between_l0, impl_Graph_passage_l0]
    rw [between_eq, bind_some', decide_eq_true (show 0 ≤ k ∧ k ≤ (m : Int) from hkr), br_t, y3, y2, bind_some', bind_some']
    simp only []
    rw [index_in (by omega) hrow hay hN, index_in (by omega) hrow hby hN, bind_some', bind_some']
    simp only []
    rw [l2Walk_eq (by omega) (by omega) stepsL_ok (idx_lt hay) (idx_lt hby) hN, walk_eq y1.1 hrow (by omega) (by omega) stepsL_ok hay hby hN, bind_some', bind_some']
    simp only []
    by_cases hne : wayS ys (stepsL addP ys) (setOf m A) (setOf m B) ≠ []
    · have hnI : 0 < (wayI ys (stepsL addP ys) (ys.idxOf (setOf m A)) (ys.idxOf (setOf m B))).length := by
        refine Nat.pos_of_ne_zero fun e => hne ?_
        unfold wayS
        rw [List.eq_nil_of_length_eq_zero e]
        rfl
      refine ⟨k, wayS ys (stepsL addP ys) (setOf m A) (setOf m B), ?_, ?_, Nat.le_trans (wayS_len (by omega) stepsL_ok hay hby) (by omega), fun x hx => ?_⟩
      · rw [tLen_n, ilt_t (by omega), br_t, named_eq hrow (wayI_in (by omega) stepsL_ok (idx_lt hay) (idx_lt hby)) (by omega) hN, bind_some']
        rfl
      · rw [decide_eq_true hne, br_t]
      · obtain ⟨C, _, rfl⟩ := hin x (wayS_in (by omega) stepsL_ok hay hby x hx)
        have := setOf_len m C
        omega
    · have hnI : (wayI ys (stepsL addP ys) (ys.idxOf (setOf m A)) (ys.idxOf (setOf m B))).length = 0 := by
        have := Classical.not_not.1 hne
        unfold wayS at this
        rw [List.map_eq_nil_iff.1 this]
        rfl
      have hwr : IntKind.i64.wrap (k + (if kind = 2 then -1 else 1)) = k + (if kind = 2 then -1 else 1) := by
        refine wrap_ok ?_ ?_ <;> split <;> omega
      rw [tLen_n, hnI, ilt_f (by omega), br_f, decide_eq_false hne, br_f, hwr]
      refine ih _ Ks Ki ?_ (by omega) (by omega) ?_ ?_
      · unfold leftK at hk ⊢
        by_cases h : kind = 2
        · rw [if_pos h] at hk ⊢; rw [if_pos h]; omega
        · rw [if_neg h] at hk ⊢; rw [if_neg h]; omega
      · unfold fitsP at fa ⊢
        by_cases h : kind = 2
        · rw [if_pos h] at fa ⊢; rw [if_pos h]; omega
        · rw [if_neg h] at fa ⊢; rw [if_neg h]; omega
      · unfold fitsP at fb ⊢
        by_cases h : kind = 2
        · rw [if_pos h] at fb ⊢; rw [if_pos h]; omega
        · rw [if_neg h] at fb ⊢; rw [if_neg h]; omega
theorem imin (a b : Nat) : (if (a : Int) < (b : Int) then (a : Int) else (b : Int)) = ((min a b : Nat) : Int) := by
  by_cases h : (a : Int) < (b : Int)
  · rw [if_pos h]; omega
  · rw [if_neg h]; omega
theorem imax (a b : Nat) : (if (b : Int) < (a : Int) then (a : Int) else (b : Int)) = ((max a b : Nat) : Int) := by
  by_cases h : (b : Int) < (a : Int)
  · rw [if_pos h]; omega
  · rw [if_neg h]; omega
theorem Thr_pass {N : Nat} {g : Int × List (Int × Int)} {kind : Int} {a b : List Int} (hx : g.2.length ≤ 1048576) (ha : ofK g kind a) (hb : ofK g kind b) (hN : 1048577 ≤ N) :
    ∃ (k : Int) (w : List (List Int)), spec_l4Between N g kind a b = some ((k, w, ()), ()) ∧ impl_Graph_passage N g kind a b = some ((k, w, true, ()), ()) ∧ w.length ≤ 256 ∧ ∀ x ∈ w, x.length ≤ 8 := by
  obtain ⟨⟨hg, hk⟩, ha2, ha3⟩ := ha
  obtain ⟨_, hb2, hb3⟩ := hb
  have hg1 := hg.1
  obtain ⟨m, hm⟩ : ∃ m : Nat, g.1 = (m : Int) := ⟨g.1.toNat, by omega⟩
  obtain ⟨g1, es⟩ := g
  simp only [] at hm hx hg1 ha2 ha3 hb2 hb3
  subst hm
  simp only [Int.toNat_natCast] at ha3 hb3
  obtain ⟨A, hA, rfl⟩ := rising_set (by omega) ha2
  obtain ⟨B, hB, rfl⟩ := rising_set (by omega) hb2
  have hla := setOf_len m A
  have hlb := setOf_len m B
  unfold spec_l4Between impl_Graph_passage
  simp only []
  rw [l1Most_eq, bind_some']
  simp only []
  by_cases h2 : kind = 2
  · rw [ieq_t h2, br_t, br_t, l1Least_eq, bind_some']
    simp only []
    have e1 : (if tLen (setOf m A) < tLen (setOf m B) then tLen (setOf m A) else tLen (setOf m B)) = ((min (setOf m A).length (setOf m B).length : Nat) : Int) := imin _ _
    have e2 : (if tLen (setOf m B) < tLen (setOf m A) then tLen (setOf m B) else tLen (setOf m A)) = ((min (setOf m A).length (setOf m B).length : Nat) : Int) := by rw [Nat.min_comm]; exact imin _ _
    rw [e1, e2]
    have := pass_loop (N := N) (k1 := fun (_ : Unit) => some ((0, [], false, ()), ())) (by omega) hg hx hA hB ha3 hb3 hN (min (setOf m A).length (setOf m B).length) _ N N (by unfold leftK; rw [if_pos h2]) (by omega) (by omega) (by unfold fitsP; rw [if_pos h2]; omega) (by unfold fitsP; rw [if_pos h2]; omega)
    rw [if_pos h2] at this
    exact this
  · rw [ieq_f h2, br_f, br_f]
    have e1 : (if tLen (setOf m B) < tLen (setOf m A) then tLen (setOf m A) else tLen (setOf m B)) = ((max (setOf m A).length (setOf m B).length : Nat) : Int) := imax _ _
    have e2 : (if tLen (setOf m B) > tLen (setOf m A) then tLen (setOf m B) else tLen (setOf m A)) = ((max (setOf m A).length (setOf m B).length : Nat) : Int) := by rw [Nat.max_comm]; exact imax _ _
    rw [e1, e2]
    have := pass_loop (N := N) (k1 := fun (_ : Unit) => some ((0, [], false, ()), ())) (by omega) hg hx hA hB ha3 hb3 hN (m - max (setOf m A).length (setOf m B).length) ((max (setOf m A).length (setOf m B).length : Nat) : Int) N N (by unfold leftK; rw [if_neg h2]; omega) (by omega) (by omega) (by unfold fitsP; rw [if_neg h2]; omega) (by unfold fitsP; rw [if_neg h2]; omega)
    rw [if_neg h2] at this
    exact this
theorem ThrWay_both {N : Nat} {g : Int × List (Int × Int)} {kind : Int} {a b : List Int} (hx : g.2.length ≤ 1048576) (ha : a.length ≤ 1048576) (hb : b.length ≤ 1048576) (hN : 1048577 ≤ N) :
    ∃ v : List (List Int) × Bool, (v.1.length ≤ 256 ∧ ∀ x ∈ v.1, x.length ≤ 8) ∧ spec_ThresholdWay N g kind a b = some ((v.1, v.2, ()), ()) ∧ impl_ThresholdWay N g kind a b = some ((v.1, v.2, ()), ()) := by
  unfold spec_ThresholdWay impl_ThresholdWay
  simp only [show ((g.1, g.2) : Int × List (Int × Int)) = g from rfl]
  rw [l4One_eq hx ha hN, isOfKind_eq hx ha hN, bind_some', bind_some']
  by_cases h1 : ofK g kind a
  · rw [decide_eq_true h1]
    simp only [Bool.not_true, br_f]
    rw [l4One_eq hx hb hN, isOfKind_eq hx hb hN, bind_some', bind_some']
    by_cases h2 : ofK g kind b
    · rw [decide_eq_true h2]
      simp only [Bool.not_true, br_f]
      obtain ⟨k, w, e1, e2, e3, e4⟩ := Thr_pass hx h1 h2 hN
      rw [e1, e2, bind_some', bind_some']
      exact ⟨(w, true), ⟨e3, e4⟩, rfl, rfl⟩
    · rw [decide_eq_false h2]
      exact ⟨([], false), by simp, rfl, rfl⟩
  · rw [decide_eq_false h1]
    exact ⟨([], false), by simp, rfl, rfl⟩
theorem ThresholdWay_pure {g : Int × List (Int × Int)} {k : Int} {a b : List Int} (hx : g.2.length ≤ 9223372036854775807) : laws_FnExactThresholdWay 1048577 g k a b = some ((true, ()), ()) := by
  unfold laws_FnExactThresholdWay
  have hN : 1048577 ≤ 1048577 := Nat.le_refl _
  rw [tLen_n, tLen_n]
  by_cases ha : a.length ≤ 1048576
  · rw [ilt_f (by omega), br_f]
    by_cases hb : b.length ≤ 1048576
    · rw [ilt_f (by omega), br_f]
      obtain ⟨r, h1, h2⟩ := szGraph_eq (N := 1048577) hx
      simp only [h1, bind_some']
      by_cases h : 0 ≤ r
      · rw [ilt_f (by omega), br_f]
        have h3 := h2 h
        obtain ⟨v, ⟨c1, c2⟩, e1, e2⟩ := ThrWay_both (N := 1048577) (kind := k) h3 ha hb hN
        have k0 : (0 : Int) ≤ 1 ∧ (1 : Int) ≤ 1152921504606846976 := by omega
        have c3 : ∀ x ∈ v.1, x.length ≤ 1048576 := fun x hx => by have := c2 x hx; omega
        have c4 := sumL_le c3
        obtain ⟨g', hmk⟩ := markGraph_eq (N := 1048577) k0 h3 hN
        have k1 : (0 : Int) ≤ 1 + 2 * (g.2.length : Int) ∧ 1 + 2 * (g.2.length : Int) ≤ 2305843009213693952 := by omega
        have k2 : (0 : Int) ≤ 1 + 2 * (g.2.length : Int) + (a.length : Int) ∧ 1 + 2 * (g.2.length : Int) + (a.length : Int) ≤ 2305843009213693952 := by omega
        simp only [toGraph_eq h3 hN, toIntS_eq ha hN, toIntS_eq hb hN, bind_some', e1, e2, eqGraph_eq h3 hN, eqIntS_eq (show a.length ≤ 1099511627776 by omega) (show a.length < 1048577 by omega), eqIntS_eq (show b.length ≤ 1099511627776 by omega) (show b.length < 1048577 by omega), eqIntSS_eq (show v.1.length ≤ 1048576 by omega) c3 hN, decide_true, Bool.not_true, br_f, hmk,
          markIntS_eq k1 ha hN, markIntS_eq k2 hb hN, ilt_f (show ¬ 1 + 2 * (g.2.length : Int) + (a.length : Int) + (b.length : Int) < 0 by omega),
          markIntSS_eq k0 (show v.1.length ≤ 1048576 by omega) c3 hN, heldIntSS_eq k0 (show v.1.length ≤ 1048576 by omega) c3 hN, ilt_f (show ¬ 1 + sumL v.1 < 0 by omega), ine_f (rfl : 1 + sumL v.1 = 1 + sumL v.1)]
        simp [br_ite]
      · rw [ilt_t (by omega), br_t]
    · rw [ilt_t (by omega), br_t]
  · rw [ilt_t (by omega), br_t]
theorem ThresholdWay_pureT : ∀ x : argsT (psOf [QILQII, I, LI, LI]), WfA [QILQII, I, LI, LI] x → ∃ k m, (laws_FnExactThresholdWay_S k).f x = some ((true, ()), m) :=
  fun x h => ⟨1048577, (), ThresholdWay_pure (len_ok h.1.2.1)⟩
end Go.Proofs.YtbnjcjpnpidhmaaGreat
