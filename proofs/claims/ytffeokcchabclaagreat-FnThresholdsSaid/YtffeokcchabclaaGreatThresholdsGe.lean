/- Statements on data alone. -/
import Derived.Test.YtffeokcchabclaaGreatPvPure
import Derived.Test.YtffeokcchabclaaGreatThresholdsGd
set_option linter.all false
set_option linter.all false
namespace Go.Proofs.YtffeokcchabclaaGreat
open Go Go.PV Classical
theorem hasK_down {m : Nat} {es : List (Int × Int)} {A B : Nat} (hst : ∀ x ∈ setOf m B, x ∈ setOf m A) (h : hasK m es 2 (setOf m A)) : hasK m es 2 (setOf m B) := by
  unfold hasK at *
  rw [if_neg (by decide), if_pos rfl] at h ⊢
  rw [clique_mem (p := fun x y => nearG es x y) (setOf_strict m _)] at h ⊢
  exact fun x hx y hy hxy => h x (hst x hx) y (hst y hy) hxy
def wideK (m : Nat) (kind : Int) : Int := if kind = 2 then 0 else (m : Int)
theorem wide_way {m A B : Nat} {es : List (Int × Int)} {kind : Int} {ys : List (List Int)} (hst : ThSt m es kind (wideK m kind) ys) (hA : A < 2 ^ m) (hB : B < 2 ^ m) (ha : hasK m es kind (setOf m A)) (hb : hasK m es kind (setOf m B)) (hn : ys.length ≤ 1048576) :
    Wk (nbL ys.length (stepsL addP ys)) ((ys.idxOf (setOf m B) : Nat) : Int) ((ys.idxOf (setOf m A) : Nat) : Int) := by
  have hmem : ∀ C : Nat, C < 2 ^ m → hasK m es kind (setOf m C) → setOf m C ∈ ys := fun C hC hK => by
    refine (hst.2 _).2 ⟨⟨C, hC, rfl⟩, hK, ?_⟩
    unfold fitsP wideK
    have := setOf_len m C
    by_cases h : kind = 2
    · rw [if_pos h, if_pos h]; omega
    · rw [if_neg h, if_neg h]; omega
  obtain ⟨T, hT, key⟩ : ∃ T, T < 2 ^ m ∧ ∀ C : Nat, C < 2 ^ m → hasK m es kind (setOf m C) → ∀ x, x ≤ m → setOf m (toward T x C) ∈ ys := by
    by_cases h : kind = 2
    · subst h
      refine ⟨0, Nat.two_pow_pos m, fun C hC hK x hx => hmem _ (toward_lt (Nat.two_pow_pos m) hC) (hasK_down (A := C) (fun z hz => ?_) hK)⟩
      obtain ⟨i, hi, hbi, rfl⟩ := mem_setOf.1 hz
      rw [toward_bit] at hbi
      refine mem_setN.2 ⟨hi, ?_⟩
      by_cases h2 : i < x
      · rw [if_pos h2] at hbi; simp at hbi
      · rwa [if_neg h2] at hbi
    · have h2 : 2 ^ m - 1 < 2 ^ m := by have := Nat.two_pow_pos m; omega
      refine ⟨2 ^ m - 1, h2, fun C hC hK x hx => hmem _ (toward_lt h2 hC) (hasK_up h (s := setOf m C) (fun z hz => ?_) hK)⟩
      obtain ⟨i, hi, hbi, rfl⟩ := mem_setOf.1 hz
      refine mem_setN.2 ⟨hi, ?_⟩
      rw [toward_bit]
      split
      · rw [Nat.testBit_two_pow_sub_one]; simpa using hi
      · exact hbi
  have hl := nbL_ok hn (stepsL_ok (p := addP) (xs := ys))
  have w1 := toward_way hT hA (key A hA ha)
  have w2 := toward_way hT hB (key B hB hb)
  exact Wk_trans w2 (Wk_symm hl (nbL_symL stepsL_ok) (in_nat (idx_lt (hmem A hA ha))) w1)
theorem l1Least_eq {N : Nat} {x y : Int} : Zq100 N x y = some (((if x < y then x else y), ()), ()) := by
  unfold Zq100
  by_cases h : x < y
  · rw [ilt_t h, br_t, if_pos h]
  · rw [ilt_f h, br_f, if_neg h]
def leftK (m : Nat) (kind k : Int) (d : Nat) : Prop := if kind = 2 then k = (d : Int) else k + (d : Int) = (m : Int)
def passQ (m : Nat) (es : List (Int × Int)) (kind : Int) (A B : Nat) (k k' : Int) (w : List (List Int)) : Prop :=
  (0 ≤ k' ∧ k' ≤ (m : Int)) ∧ (∃ ys, ThSt m es kind k' ys ∧ setOf m A ∈ ys ∧ setOf m B ∈ ys ∧ w = wayS ys (stepsL addP ys) (setOf m A) (setOf m B) ∧ w ≠ []) ∧
    (k' = k ∨ ∃ zs, ThSt m es kind (k' - if kind = 2 then -1 else 1) zs ∧ setOf m A ∈ zs ∧ setOf m B ∈ zs ∧ wayS zs (stepsL addP zs) (setOf m A) (setOf m B) = [])
theorem pass_loop {N m A B : Nat} {es : List (Int × Int)} {kind : Int} (hm : m ≤ 8) (hg : goodG ((m : Int), es)) (hx : es.length ≤ 1048576) (hA : A < 2 ^ m) (hB : B < 2 ^ m) (ha : hasK m es kind (setOf m A)) (hb : hasK m es kind (setOf m B)) (hN : 1048577 ≤ N) {k1 : Unit → Option ((Int × List (List Int) × Bool × Unit) × Unit)} :
    ∀ (d : Nat) (k : Int) (Ks Ki : Nat), leftK m kind k d → d < Ks → d < Ki → fitsP kind (setOf m A).length k → fitsP kind (setOf m B).length k →
      ∃ (k' : Int) (w : List (List Int)), Zq121_l0 N (fun x o => some ((x, o, ()), ())) Ks kind (setOf m A) (setOf m B) k (if kind = 2 then -1 else 1) (m : Int) es = some ((k', w, ()), ()) ∧
        Zq14_l0 N (fun x x1 o => some ((x, o, x1, ()), ())) k1 Ki kind (setOf m A) (setOf m B) k (if kind = 2 then -1 else 1) (m : Int) es = some ((k', w, true, ()), ()) ∧ w.length ≤ 256 ∧ (∀ x ∈ w, x.length ≤ 8) ∧ passQ m es kind A B k k' w := by
  have h256 := pow256 hm
  intro d
  induction d with
  | zero =>
    intro k Ks Ki hk hKs hKi fa fb
    obtain ⟨Ks, rfl⟩ := succ_of hKs
    obtain ⟨Ki, rfl⟩ := succ_of hKi
    have hkw : k = wideK m kind := by
      unfold leftK at hk
      unfold wideK
      by_cases h : kind = 2
      · rw [if_pos h] at hk ⊢; omega
      · rw [if_neg h] at hk ⊢; omega
    have hkr : 0 ≤ k ∧ k ≤ (m : Int) := by
      rw [hkw]; unfold wideK; split <;> omega
    obtain ⟨ys, y1, y2⟩ := l4Thr_eq (kind := kind) (k := k) hm hx hN
    have y3 := threshold_eq hm hg hx y1 hN
    have hin : ∀ s ∈ ys, ∃ a : Nat, a < 2 ^ m ∧ s = setOf m a := fun s hs => ((y1.2 s).1 hs).1
    have hsm := lex_small y1.1 hin
    have hrow : ∀ x ∈ ys, x.length ≤ 1048576 := fun x hx => by obtain ⟨A, _, rfl⟩ := hin x hx; have := setOf_len m A; omega
    have hay := (y1.2 _).2 ⟨⟨A, hA, rfl⟩, ha, fa⟩
    have hby := (y1.2 _).2 ⟨⟨B, hB, rfl⟩, hb, fb⟩
    have hsl := stepsL_len addP ys
    have h65 : ys.length * ys.length ≤ 256 * 256 := Nat.mul_le_mul (by omega) (by omega)
    have hne : wayS ys (stepsL addP ys) (setOf m A) (setOf m B) ≠ [] := (way_some (by omega) stepsL_ok hay hby).2 (wide_way (hkw ▸ y1) hA hB ha hb (by omega))
    have hnI : 0 < (wayI ys (stepsL addP ys) (ys.idxOf (setOf m A)) (ys.idxOf (setOf m B))).length := by
      refine Nat.pos_of_ne_zero fun e => hne ?_
      unfold wayS
      rw [List.eq_nil_of_length_eq_zero e]
      rfl
    have hw1 := wayI_len (xs := ys) (st := stepsL addP ys) (i := ys.idxOf (setOf m A)) (j := ys.idxOf (setOf m B)) (by omega) stepsL_ok (idx_lt hay) (idx_lt hby)
    refine ⟨k, wayS ys (stepsL addP ys) (setOf m A) (setOf m B), ?_, ?_, Nat.le_trans (wayS_len (by omega) stepsL_ok hay hby) (by omega), fun x hx => ?_, hkr, ⟨ys, y1, hay, hby, rfl, hne⟩, .inl rfl⟩
    · simp only [Zq121_l0]
      rw [y2, bind_some']
      simp only []
      rw [index_in (by omega) hrow hay hN, index_in (by omega) hrow hby hN, bind_some', bind_some']
      simp only []
      rw [l2Walk_eq (by omega) (by omega) stepsL_ok (idx_lt hay) (idx_lt hby) hN, bind_some']
      simp only []
      rw [tLen_n, ilt_t (by omega), br_t, named_eq hrow (wayI_in (by omega) stepsL_ok (idx_lt hay) (idx_lt hby)) (by omega) hN, bind_some']
      rfl
    · simp only [Zq14_l0]
      rw [between_eq, bind_some', decide_eq_true (show 0 ≤ k ∧ k ≤ (m : Int) from hkr), br_t, y3, bind_some']
      simp only []
      rw [walk_eq y1.1 hrow (by omega) (by omega) stepsL_ok hay hby hN, bind_some']
      simp only []
      rw [decide_eq_true hne, br_t]
    · obtain ⟨C, _, rfl⟩ := hin x (wayS_in (by omega) stepsL_ok hay hby x hx)
      have := setOf_len m C
      omega
  | succ d ih =>
    intro k Ks Ki hk hKs hKi fa fb
    obtain ⟨Ks, rfl⟩ := succ_of hKs
    obtain ⟨Ki, rfl⟩ := succ_of hKi
    have hla := setOf_len m A
    have hkr : 0 ≤ k ∧ k ≤ (m : Int) := by
      unfold leftK at hk
      unfold fitsP at fa
      by_cases h : kind = 2
      · rw [if_pos h] at hk fa; omega
      · rw [if_neg h] at hk fa; omega
    obtain ⟨ys, y1, y2⟩ := l4Thr_eq (kind := kind) (k := k) hm hx hN
    have y3 := threshold_eq hm hg hx y1 hN
    have hin : ∀ s ∈ ys, ∃ a : Nat, a < 2 ^ m ∧ s = setOf m a := fun s hs => ((y1.2 s).1 hs).1
    have hsm := lex_small y1.1 hin
    have hrow : ∀ x ∈ ys, x.length ≤ 1048576 := fun x hx => by obtain ⟨A, _, rfl⟩ := hin x hx; have := setOf_len m A; omega
    have hay := (y1.2 _).2 ⟨⟨A, hA, rfl⟩, ha, fa⟩
    have hby := (y1.2 _).2 ⟨⟨B, hB, rfl⟩, hb, fb⟩
    have hsl := stepsL_len addP ys
    have h65 : ys.length * ys.length ≤ 256 * 256 := Nat.mul_le_mul (by omega) (by omega)
    have hw1 := wayI_len (xs := ys) (st := stepsL addP ys) (i := ys.idxOf (setOf m A)) (j := ys.idxOf (setOf m B)) (by omega) stepsL_ok (idx_lt hay) (idx_lt hby)
    simp only [Zq121_l0, Zq14_l0]
    rw [between_eq, bind_some', decide_eq_true (show 0 ≤ k ∧ k ≤ (m : Int) from hkr), br_t, y3, y2, bind_some', bind_some']
    simp only []
    rw [index_in (by omega) hrow hay hN, index_in (by omega) hrow hby hN, bind_some', bind_some']
    simp only []
    rw [l2Walk_eq (by omega) (by omega) stepsL_ok (idx_lt hay) (idx_lt hby) hN, walk_eq y1.1 hrow (by omega) (by omega) stepsL_ok hay hby hN, bind_some', bind_some']
    simp only []
    by_cases hne : wayS ys (stepsL addP ys) (setOf m A) (setOf m B) ≠ []
    · have hnI : 0 < (wayI ys (stepsL addP ys) (ys.idxOf (setOf m A)) (ys.idxOf (setOf m B))).length := by
        refine Nat.pos_of_ne_zero fun e => hne ?_
        unfold wayS
        rw [List.eq_nil_of_length_eq_zero e]
        rfl
      refine ⟨k, wayS ys (stepsL addP ys) (setOf m A) (setOf m B), ?_, ?_, Nat.le_trans (wayS_len (by omega) stepsL_ok hay hby) (by omega), fun x hx => ?_, hkr, ⟨ys, y1, hay, hby, rfl, hne⟩, .inl rfl⟩
      · rw [tLen_n, ilt_t (by omega), br_t, named_eq hrow (wayI_in (by omega) stepsL_ok (idx_lt hay) (idx_lt hby)) (by omega) hN, bind_some']
        rfl
      · rw [decide_eq_true hne, br_t]
      · obtain ⟨C, _, rfl⟩ := hin x (wayS_in (by omega) stepsL_ok hay hby x hx)
        have := setOf_len m C
        omega
    · have hnI : (wayI ys (stepsL addP ys) (ys.idxOf (setOf m A)) (ys.idxOf (setOf m B))).length = 0 := by
        have := Classical.not_not.1 hne
        unfold wayS at this
        rw [List.map_eq_nil_iff.1 this]
        rfl
      have hwr : IntKind.i64.wrap (k + (if kind = 2 then -1 else 1)) = k + (if kind = 2 then -1 else 1) := by
        refine wrap_ok ?_ ?_ <;> split <;> omega
      rw [tLen_n, hnI, ilt_f (by omega), br_f, decide_eq_false hne, br_f, hwr]
      have nx := ih (k + (if kind = 2 then -1 else 1)) Ks Ki ?_ (by omega) (by omega) ?_ ?_
      · obtain ⟨k', w, n1, n2, n3, n4, n5, n6, n7⟩ := nx
        refine ⟨k', w, n1, n2, n3, n4, n5, n6, .inr ?_⟩
        rcases n7 with e | q
        · subst e
          refine ⟨ys, ?_, hay, hby, Classical.not_not.1 hne⟩
          rw [Int.add_sub_cancel]
          exact y1
        · exact q
      · unfold leftK at hk ⊢
        by_cases h : kind = 2
        · rw [if_pos h] at hk ⊢; rw [if_pos h]; omega
        · rw [if_neg h] at hk ⊢; rw [if_neg h]; omega
      · unfold fitsP at fa ⊢
        by_cases h : kind = 2
        · rw [if_pos h] at fa ⊢; rw [if_pos h]; omega
        · rw [if_neg h] at fa ⊢; rw [if_neg h]; omega
      · unfold fitsP at fb ⊢
        by_cases h : kind = 2
        · rw [if_pos h] at fb ⊢; rw [if_pos h]; omega
        · rw [if_neg h] at fb ⊢; rw [if_neg h]; omega
theorem imin (a b : Nat) : (if (a : Int) < (b : Int) then (a : Int) else (b : Int)) = ((min a b : Nat) : Int) := by
  by_cases h : (a : Int) < (b : Int)
  · rw [if_pos h]; omega
  · rw [if_neg h]; omega
theorem imax (a b : Nat) : (if (b : Int) < (a : Int) then (a : Int) else (b : Int)) = ((max a b : Nat) : Int) := by
  by_cases h : (b : Int) < (a : Int)
  · rw [if_pos h]; omega
  · rw [if_neg h]; omega
def passT (g : Int × List (Int × Int)) (kind : Int) (a b : List Int) (k : Int) (w : List (List Int)) : Prop :=
  (0 ≤ k ∧ k ≤ g.1) ∧ (∃ ys, ThSt g.1.toNat g.2 kind k ys ∧ a ∈ ys ∧ b ∈ ys ∧ w = wayS ys (stepsL addP ys) a b ∧ w ≠ []) ∧
    (k = (if kind = 2 then ((min a.length b.length : Nat) : Int) else ((max a.length b.length : Nat) : Int)) ∨ ∃ zs, ThSt g.1.toNat g.2 kind (k - if kind = 2 then -1 else 1) zs ∧ a ∈ zs ∧ b ∈ zs ∧ wayS zs (stepsL addP zs) a b = [])
theorem Thr_pass {N : Nat} {g : Int × List (Int × Int)} {kind : Int} {a b : List Int} (hx : g.2.length ≤ 1048576) (ha : ofK g kind a) (hb : ofK g kind b) (hN : 1048577 ≤ N) :
    ∃ (k : Int) (w : List (List Int)), Zq121 N g kind a b = some ((k, w, ()), ()) ∧ Zq14 N g kind a b = some ((k, w, true, ()), ()) ∧ w.length ≤ 256 ∧ (∀ x ∈ w, x.length ≤ 8) ∧ passT g kind a b k w := by
  obtain ⟨⟨hg, hk⟩, ha2, ha3⟩ := ha
  obtain ⟨_, hb2, hb3⟩ := hb
  have hg1 := hg.1
  obtain ⟨m, hm⟩ : ∃ m : Nat, g.1 = (m : Int) := ⟨g.1.toNat, by omega⟩
  obtain ⟨g1, es⟩ := g
  simp only [] at hm hx hg1 ha2 ha3 hb2 hb3
  subst hm
  simp only [Int.toNat_natCast] at ha3 hb3
  obtain ⟨A, hA, rfl⟩ := rising_set (by omega) ha2
  obtain ⟨B, hB, rfl⟩ := rising_set (by omega) hb2
  have hla := setOf_len m A
  have hlb := setOf_len m B
  unfold Zq121 Zq14
  simp only []
  rw [l1Most_eq, bind_some']
  simp only []
  by_cases h2 : kind = 2
  · rw [ieq_t h2, br_t, br_t, l1Least_eq, bind_some']
    simp only []
    have e1 : (if tLen (setOf m A) < tLen (setOf m B) then tLen (setOf m A) else tLen (setOf m B)) = ((min (setOf m A).length (setOf m B).length : Nat) : Int) := imin _ _
    have e2 : (if tLen (setOf m B) < tLen (setOf m A) then tLen (setOf m B) else tLen (setOf m A)) = ((min (setOf m A).length (setOf m B).length : Nat) : Int) := by rw [Nat.min_comm]; exact imin _ _
    rw [e1, e2]
    have := pass_loop (N := N) (k1 := fun (_ : Unit) => some ((0, [], false, ()), ())) (by omega) hg hx hA hB ha3 hb3 hN (min (setOf m A).length (setOf m B).length) _ N N (by unfold leftK; rw [if_pos h2]) (by omega) (by omega) (by unfold fitsP; rw [if_pos h2]; omega) (by unfold fitsP; rw [if_pos h2]; omega)
    rw [if_pos h2] at this
    obtain ⟨k', w, n1, n2, n3, n4, n5, n6, n7⟩ := this
    refine ⟨k', w, n1, n2, n3, n4, n5, n6, ?_⟩
    rw [if_pos h2, if_pos h2]
    rwa [if_pos h2] at n7
  · rw [ieq_f h2, br_f, br_f]
    have e1 : (if tLen (setOf m B) < tLen (setOf m A) then tLen (setOf m A) else tLen (setOf m B)) = ((max (setOf m A).length (setOf m B).length : Nat) : Int) := imax _ _
    have e2 : (if tLen (setOf m B) > tLen (setOf m A) then tLen (setOf m B) else tLen (setOf m A)) = ((max (setOf m A).length (setOf m B).length : Nat) : Int) := by rw [Nat.max_comm]; exact imax _ _
    rw [e1, e2]
    have := pass_loop (N := N) (k1 := fun (_ : Unit) => some ((0, [], false, ()), ())) (by omega) hg hx hA hB ha3 hb3 hN (m - max (setOf m A).length (setOf m B).length) ((max (setOf m A).length (setOf m B).length : Nat) : Int) N N (by unfold leftK; rw [if_neg h2]; omega) (by omega) (by omega) (by unfold fitsP; rw [if_neg h2]; omega) (by unfold fitsP; rw [if_neg h2]; omega)
    rw [if_neg h2] at this
    obtain ⟨k', w, n1, n2, n3, n4, n5, n6, n7⟩ := this
    refine ⟨k', w, n1, n2, n3, n4, n5, n6, ?_⟩
    rw [if_neg h2, if_neg h2]
    rwa [if_neg h2] at n7
def CurOk (code : List Int) (k : Nat) (c : List Int × (Int × Int)) : Prop := c.1 = code ∧ 0 ≤ c.2.1 ∧ c.2.1 ≤ (k : Int)
def codeOk (code : List Int) : Prop := code.length ≤ 1048576 ∧ ∀ x ∈ code, 0 ≤ x ∧ x ≤ 255
theorem cur_mono {code : List Int} {k l : Nat} {c : List Int × (Int × Int)} (h : CurOk code k c) (hl : k ≤ l) : CurOk code l c := ⟨h.1, h.2.1, by have := h.2.2; omega⟩
theorem u8_and (x : Int) : 0 ≤ IntKind.i64.wrap (bitop .and .u64 x 255) ∧ IntKind.i64.wrap (bitop .and .u64 x 255) ≤ 255 := by
  have h : ∃ n : Nat, bitop .and .u64 x 255 = (n : Int) ∧ n ≤ 255 := by
    unfold bitop
    simp only []
    have e : (BitVec.ofInt IntKind.u64.bits x &&& BitVec.ofInt IntKind.u64.bits 255).toNat = (BitVec.ofInt IntKind.u64.bits x).toNat &&& 255 := by
      rw [BitVec.toNat_and]; rfl
    have hle : (BitVec.ofInt IntKind.u64.bits x).toNat &&& 255 ≤ 255 := Nat.and_le_right
    refine ⟨(BitVec.ofInt IntKind.u64.bits x).toNat &&& 255, ?_, hle⟩
    rw [e]
    unfold IntKind.wrap
    simp only [IntKind.signed, IntKind.bits]
    have : (((BitVec.ofInt 64 x).toNat &&& 255 : Nat) : Int) % 2 ^ 64 = (((BitVec.ofInt 64 x).toNat &&& 255 : Nat) : Int) := by
      refine Int.emod_eq_of_lt (by omega) ?_
      have : (BitVec.ofInt 64 x).toNat &&& 255 ≤ 255 := Nat.and_le_right
      omega
    simpa using this
  obtain ⟨n, h1, h2⟩ := h
  rw [h1, wrap_ok (by omega) (by omega)]
  omega
theorem next_ok {N : Nat} {code : List Int} {k : Nat} {c : List Int × (Int × Int)} (hco : codeOk code) (h : CurOk code k c) (hk : k ≤ 1000000000) : ∃ x c', Zq92 N c = some ((x, ()), (c', ())) ∧ CurOk code (k + 1) c' ∧ 0 ≤ x ∧ x ≤ 255 := by
  obtain ⟨cd, at', seed⟩ := c
  obtain ⟨h1, h2, h3⟩ := h
  simp only at h1 h2 h3
  subst h1
  have hw : IntKind.i64.wrap (at' + 1) = at' + 1 := wrap_ok (by omega) (by omega)
  unfold Zq92
  simp only [hw]
  by_cases hlt : at' < (cd.length : Int)
  · obtain ⟨n, rfl⟩ := Int.eq_ofNat_of_zero_le h2
    have hn : n < cd.length := by omega
    have hb := hco.2 _ (List.getElem_mem hn)
    have hrd : rd U8 cd (n : Int) = cd[n] := by
      unfold rd
      rw [Int.toNat_natCast, List.getD_eq_getElem?_getD, List.getElem?_eq_getElem hn]
      rfl
    rw [ilt_len hn, br_t, inb_n hn, chk_t, hrd]
    by_cases hle : (n : Int) + 1 ≤ (cd.length : Int)
    · rw [tLen_n, ile_t hle, br_t]
      refine ⟨_, _, rfl, ⟨rfl, by show (0 : Int) ≤ (n : Int) + 1; omega, by show (n : Int) + 1 ≤ ((k + 1 : Nat) : Int); omega⟩, ?_⟩
      rw [wrap_ok (by omega) (by omega)]
      exact hb
    · omega
  · rw [tLen_n, ilt_f hlt, br_f]
    by_cases hle : at' + 1 ≤ (cd.length : Int)
    · rw [ile_t hle, br_t]
      exact ⟨_, _, rfl, ⟨rfl, by show (0 : Int) ≤ at' + 1; omega, by show at' + 1 ≤ ((k + 1 : Nat) : Int); omega⟩, by omega, by omega⟩
    · rw [ile_f hle, br_f]
      exact ⟨_, _, rfl, ⟨rfl, by show (0 : Int) ≤ at' + 1; omega, by show at' + 1 ≤ ((k + 1 : Nat) : Int); omega⟩, u8_and _⟩
theorem tmod_in {x n : Int} (hx : 0 ≤ x) (hn : 1 ≤ n) : 0 ≤ x.tmod n ∧ x.tmod n < n ∧ x.tmod n ≤ x := by
  obtain ⟨a, rfl⟩ := Int.eq_ofNat_of_zero_le hx
  obtain ⟨b, rfl⟩ := Int.eq_ofNat_of_zero_le (show 0 ≤ n by omega)
  have e : ((a : Int)).tmod (b : Int) = ((a % b : Nat) : Int) := rfl
  rw [e]
  have := Nat.mod_lt a (show 0 < b by omega)
  have := Nat.mod_le a b
  omega
theorem pick_ok {N : Nat} {code : List Int} {k : Nat} {c : List Int × (Int × Int)} (hco : codeOk code) (h : CurOk code k c) (hk : k ≤ 1000000) (n : Int) : ∃ x c', Zq96 N c n = some ((x, ()), (c', ())) ∧ CurOk code (k + 2) c' ∧ 0 ≤ x ∧ x ≤ 65535 ∧ (1 ≤ n → x < n) := by
  unfold Zq96
  by_cases h1 : n ≤ 1
  · rw [ile_t h1, br_t]
    exact ⟨_, _, rfl, cur_mono h (by omega), by omega, by omega, fun h => by omega⟩
  · rw [ile_f h1, br_f]
    obtain ⟨x, c', e1, e2, e3, e4⟩ := next_ok (N := N) hco h (by omega)
    rw [e1, bind_some']
    simp only []
    by_cases h2 : 200 < n
    · rw [ilt_t h2, br_t]
      obtain ⟨y, c2, f1, f2, f3, f4⟩ := next_ok (N := N) hco e2 (by omega)
      rw [f1, bind_some', ine_t (show n ≠ 0 by omega), chk_t]
      simp only []
      rw [wrap_ok (n := x * 256) (by omega) (by omega), wrap_ok (by omega) (by omega)]
      have := tmod_in (x := x * 256 + y) (n := n) (by omega) (by omega)
      exact ⟨_, _, rfl, f2, by omega, by omega, fun _ => by omega⟩
    · rw [ilt_f h2, br_f, ine_t (show n ≠ 0 by omega), chk_t]
      have := tmod_in (x := x) (n := n) (by omega) (by omega)
      exact ⟨_, _, rfl, cur_mono e2 (by omega), by omega, by omega, fun _ => by omega⟩
theorem among_ok {N : Nat} {code : List Int} {k : Nat} {c : List Int × (Int × Int)} (hco : codeOk code) (h : CurOk code k c) (hk : k ≤ 1000000) {l : List Int} (hl : l ≠ []) : ∃ x c', Zq89 N c l = some ((x, ()), (c', ())) ∧ CurOk code (k + 2) c' ∧ x ∈ l := by
  unfold Zq89
  have hp : 0 < l.length := List.length_pos_iff.2 hl
  obtain ⟨x, c', e1, e2, e3, e4, e5⟩ := pick_ok (N := N) hco h hk (tLen l)
  rw [e1, bind_some']
  simp only []
  rw [tLen_n] at e5
  obtain ⟨n, rfl⟩ := Int.eq_ofNat_of_zero_le e3
  have hn : n < l.length := by have := e5 (by omega); omega
  rw [inb_n hn, chk_t, rdI_n hn]
  exact ⟨_, _, rfl, e2, List.getElem_mem hn⟩
theorem one_ok {N : Nat} {code : List Int} {k : Nat} {c : List Int × (Int × Int)} (hco : codeOk code) (h : CurOk code k c) (hk : k ≤ 1000000) (n : Int) : ∃ b c', Zq95 N c n = some ((b, ()), (c', ())) ∧ CurOk code (k + 2) c' := by
  unfold Zq95
  obtain ⟨x, c', e1, e2, _⟩ := pick_ok (N := N) hco h hk n
  rw [e1, bind_some']
  exact ⟨_, _, rfl, e2⟩
theorem sg_in {R : Type} {N : Nat} {code : List Int} (hco : codeOk code) (hN : 1048577 ≤ N) {k0 : Int → Int → Bool → Int → List Int × (Int × Int) → Int → Int → List (Int × Int) → Option R} {x4 x5 x7 o5 o6 : Int} {x6 : Bool} :
    ∀ (d : Nat) (x8 : Int) (K k : Nat) (c : List Int × (Int × Int)) (o : List (Int × Int)), x8 + (d : Int) = max x4 x8 → d < K → 0 ≤ x8 → x8 ≤ 100 → x4 ≤ 100 → CurOk code k c → k + 2 * d ≤ 1000000 → pairsUp o → o.length + d ≤ 1048576 →
      ∃ c' o', Zq97_l0_0 N k0 K x4 x5 x6 x7 x8 c o5 o6 o = k0 x4 x5 x6 x7 c' o5 o6 o' ∧ CurOk code (k + 2 * d) c' ∧ pairsUp o' ∧ o'.length ≤ o.length + d := by
  intro d
  induction d with
  | zero =>
    intro x8 K k c o hd hK h0 h1 h4 hc hk ho hl
    obtain ⟨K, rfl⟩ := succ_of hK
    refine ⟨c, o, ?_, hc, ho, by omega⟩
    simp only [Zq97_l0_0, ilt_f (show ¬ x8 < x4 by omega), br_f]
  | succ d ih =>
    intro x8 K k c o hd hK h0 h1 h4 hc hk ho hl
    obtain ⟨K, rfl⟩ := succ_of hK
    have hlt : x8 < x4 := by omega
    have hw : IntKind.i64.wrap (x8 + 1) = x8 + 1 := wrap_ok (by omega) (by omega)
    simp only [Zq97_l0_0, ilt_t hlt, br_t, hw]
    obtain ⟨x, c1, e1, e2, _⟩ := pick_ok (N := N) hco hc (by omega) x5
    rw [e1, bind_some']
    simp only []
    by_cases hx : x = 0
    · rw [ieq_t hx, br_t]
      obtain ⟨o1, p1, p2, p3, p4⟩ := putPair_eq (N := N) (e := (x7, x8)) ho (by omega) hN
      rw [p1, bind_some']
      simp only []
      obtain ⟨c', o', q1, q2, q3, q4⟩ := ih (x8 + 1) K (k + 2) c1 o1 (by omega) (by omega) (by omega) (by omega) h4 e2 (by omega) p2 (by omega)
      exact ⟨c', o', q1, cur_mono q2 (by omega), q3, by omega⟩
    · rw [ieq_f hx, br_f]
      obtain ⟨c', o', q1, q2, q3, q4⟩ := ih (x8 + 1) K (k + 2) c1 o (by omega) (by omega) (by omega) (by omega) h4 e2 (by omega) ho (by omega)
      exact ⟨c', o', q1, cur_mono q2 (by omega), q3, by omega⟩
theorem sg_out {R : Type} {N : Nat} {code : List Int} (hco : codeOk code) (hN : 1048577 ≤ N) {k0 : List Int × (Int × Int) → Int → Int → List (Int × Int) → Option R} {x x1 o1 o2 : Int} {x2 : Bool} (hx : x ≤ 8) :
    ∀ (d : Nat) (x3 : Int) (K k : Nat) (c : List Int × (Int × Int)) (o : List (Int × Int)), x3 + (d : Int) = max x x3 → d < K → 0 ≤ x3 → x3 ≤ 8 → CurOk code k c → k + 20 * d ≤ 1000000 → pairsUp o → o.length + 10 * d ≤ 1048576 →
      ∃ c' o', Zq97_l0 N k0 K x x1 x2 x3 c o1 o2 o = k0 c' o1 o2 o' ∧ CurOk code (k + 20 * d) c' ∧ pairsUp o' ∧ o'.length ≤ o.length + 10 * d := by
  intro d
  induction d with
  | zero =>
    intro x3 K k c o hd hK h0 h1 hc hk ho hl
    obtain ⟨K, rfl⟩ := succ_of hK
    refine ⟨c, o, ?_, hc, ho, by omega⟩
    simp only [Zq97_l0, ilt_f (show ¬ x3 < x by omega), br_f]
  | succ d ih =>
    intro x3 K k c o hd hK h0 h1 hc hk ho hl
    obtain ⟨K, rfl⟩ := succ_of hK
    have hlt : x3 < x := by omega
    have hw : IntKind.i64.wrap (x3 + 1) = x3 + 1 := wrap_ok (by omega) (by omega)
    simp only [Zq97_l0, ilt_t hlt, br_t, hw]
    obtain ⟨e, he⟩ : ∃ e : Nat, x3 + 1 + (e : Int) = max x (x3 + 1) := ⟨(max x (x3 + 1) - (x3 + 1)).toNat, by omega⟩
    have he8 : e ≤ 8 := by omega
    obtain ⟨c1, p1, q1, q2, q3, q4⟩ := sg_in (R := R) (N := N) hco hN (k0 := fun x4 x5 x6 x7 o4 o5 o6 o7 => (br (ilt 0 x7)
        ((br (!x6)
          (((Zq96 N (o4.1, (o4.2.1, o4.2.2)) x7).bind fun r6 =>
            ((Zq115 N o7 (r6.1.1, x7)).bind fun r7 =>
              Zq97_l0 N k0 K x4 x5 x6 (IntKind.i64.wrap (x7 + 1)) r6.2.1 o5 o6 r7.1.1)))
          (Zq97_l0 N k0 K x4 x5 x6 (IntKind.i64.wrap (x7 + 1)) o4 o5 o6 o7)))
        (Zq97_l0 N k0 K x4 x5 x6 (IntKind.i64.wrap (x7 + 1)) o4 o5 o6 o7))) (x4 := x) (x5 := x1) (x6 := x2) (x7 := x3) (o5 := o1) (o6 := o2) e (x3 + 1) N k c o he (by omega) (by omega) (by omega) (by omega) hc (by omega) ho (by omega)
    rw [q1]
    simp only [hw]
    have keep : ∃ c' o', Zq97_l0 N k0 K x x1 x2 (x3 + 1) c1 o1 o2 p1 = k0 c' o1 o2 o' ∧ CurOk code (k + 20 * (d + 1)) c' ∧ pairsUp o' ∧ o'.length ≤ o.length + 10 * (d + 1) := by
      obtain ⟨c', o', r1, r2, r3, r4⟩ := ih (x3 + 1) K (k + 2 * e) c1 p1 (by omega) (by omega) (by omega) (by omega) q2 (by omega) q3 (by omega)
      exact ⟨c', o', r1, cur_mono r2 (by omega), r3, by omega⟩
    by_cases hz : 0 < x3
    · rw [ilt_t hz, br_t]
      cases x2 with
      | true => exact keep
      | false =>
        simp only [Bool.not_false, br_t]
        obtain ⟨y, c2, e1, e2, _⟩ := pick_ok (N := N) hco q2 (by omega) x3
        rw [show ((c1.1, (c1.2.1, c1.2.2)) : List Int × (Int × Int)) = c1 from rfl, e1, bind_some']
        simp only []
        obtain ⟨o3, p2, p3, p4, p5⟩ := putPair_eq (N := N) (e := (y, x3)) q3 (by omega) hN
        rw [p2, bind_some']
        simp only []
        obtain ⟨c', o', r1, r2, r3, r4⟩ := ih (x3 + 1) K (k + 2 * e + 2) c2 o3 (by omega) (by omega) (by omega) (by omega) e2 (by omega) p3 (by omega)
        exact ⟨c', o', r1, cur_mono r2 (by omega), r3, by omega⟩
    · rw [ilt_f hz, br_f]
      exact keep
noncomputable def sgTail (N : Nat) (o : List Int × (Int × Int)) (o2 : Int) (o3 : List (Int × Int)) : Option (((Int × List (Int × Int)) × Unit) × ((List Int × (Int × Int)) × Unit)) :=
  ((Zq96 N o 50).bind fun r6 =>
    (br (ieq r6.1.1 0)
      (((Zq89 N r6.2.1 [(-1), 8, 9, 0, 4611686018427387904]).bind fun r7 =>
        some (((r7.1.1, o3), ()), (r7.2.1, ()))))
      ((br (ieq r6.1.1 1)
        (((Zq96 N (r6.2.1.1, (r6.2.1.2.1, r6.2.1.2.2)) 4).bind fun r8 =>
          ((Zq96 N r8.2.1 9).bind fun r9 =>
            (chk (room o3 [(r8.1.1, (IntKind.i64.wrap (r9.1.1 - 1)))])
              (some (((o2, (tApp o3 [(r8.1.1, (IntKind.i64.wrap (r9.1.1 - 1)))])), ()), (r9.2.1, ())))))))
        ((br (ieq r6.1.1 2)
          ((br (ilt 0 (tLen o3))
            (((Zq96 N (r6.2.1.1, (r6.2.1.2.1, r6.2.1.2.2)) (tLen o3)).bind fun r10 =>
              (chk (inb o3 r10.1.1)
                (chk (room o3 [(rdP o3 r10.1.1)])
                (some (((o2, (tApp o3 [(rdP o3 r10.1.1)])), ()), (r10.2.1, ())))))))
            (some (((o2, o3), ()), (r6.2.1, ())))))
          (some (((o2, o3), ()), (r6.2.1, ())))))))))
theorem sgTail_ok {N : Nat} {code : List Int} {k : Nat} {c : List Int × (Int × Int)} {o2 : Int} {o3 : List (Int × Int)} (hco : codeOk code) (h : CurOk code k c) (hk : k ≤ 900000) (ho : o3.length ≤ 1000) :
    ∃ g c', sgTail N c o2 o3 = some ((g, ()), (c', ())) ∧ CurOk code (k + 10) c' ∧ g.2.length ≤ o3.length + 1 := by
  unfold sgTail
  obtain ⟨x, c1, e1, e2, _⟩ := pick_ok (N := N) hco h (by omega) 50
  rw [e1, bind_some']
  simp only [show ((c1.1, (c1.2.1, c1.2.2)) : List Int × (Int × Int)) = c1 from rfl]
  by_cases h0 : x = 0
  · rw [ieq_t h0, br_t]
    obtain ⟨y, c2, f1, f2, _⟩ := among_ok (N := N) hco e2 (by omega) (l := [(-1), 8, 9, 0, 4611686018427387904]) (by simp)
    rw [f1, bind_some']
    exact ⟨_, _, rfl, cur_mono f2 (by omega), by simp only []; omega⟩
  · rw [ieq_f h0, br_f]
    by_cases h1 : x = 1
    · rw [ieq_t h1, br_t]
      obtain ⟨y, c2, f1, f2, _⟩ := pick_ok (N := N) hco e2 (by omega) 4
      rw [f1, bind_some']
      simp only []
      obtain ⟨z, c3, g1, g2, _⟩ := pick_ok (N := N) hco f2 (by omega) 9
      rw [g1, bind_some']
      simp only []
      rw [room_ok (by simp; omega), chk_t]
      exact ⟨_, _, rfl, cur_mono g2 (by omega), by simp [tApp]⟩
    · rw [ieq_f h1, br_f]
      by_cases h2 : x = 2
      · rw [ieq_t h2, br_t, tLen_n]
        by_cases h3 : 0 < o3.length
        · rw [ilt_t (by omega), br_t]
          obtain ⟨y, c2, f1, f2, f3, _, f5⟩ := pick_ok (N := N) hco e2 (by omega) (o3.length : Int)
          rw [f1, bind_some']
          simp only []
          obtain ⟨n, rfl⟩ := Int.eq_ofNat_of_zero_le f3
          have hn : n < o3.length := by have := f5 (by omega); omega
          rw [inb_n hn, chk_t, room_ok (by simp; omega), chk_t]
          exact ⟨_, _, rfl, cur_mono f2 (by omega), by simp [tApp]⟩
        · rw [ilt_f (by omega), br_f]
          exact ⟨_, _, rfl, cur_mono e2 (by omega), by simp only []; omega⟩
      · rw [ieq_f h2, br_f]
        exact ⟨_, _, rfl, cur_mono e2 (by omega), by simp only []; omega⟩
theorem sg_fin {N : Nat} {code : List Int} {k : Nat} {c : List Int × (Int × Int)} {n x1 : Int} {x2 : Bool} (hco : codeOk code) (hN : 1048577 ≤ N) (h : CurOk code k c) (hk : k ≤ 100000) (hn : 0 ≤ n ∧ n ≤ 8) :
    ∃ g c', Zq97_l0 N (fun o o1 o2 o3 => sgTail N o o2 o3) N n x1 x2 0 c 0 n [] = some ((g, ()), (c', ())) ∧ CurOk code (k + 180) c' ∧ g.2.length ≤ 100 := by
  obtain ⟨d, hd⟩ : ∃ d : Nat, n = (d : Int) := ⟨n.toNat, by omega⟩
  obtain ⟨c1, o1, e1, e2, e3, e4⟩ := sg_out (N := N) hco hN (k0 := fun o o1 o2 o3 => sgTail N o o2 o3) (x := n) (x1 := x1) (x2 := x2) (o1 := 0) (o2 := n) hn.2 d 0 N k c [] (by omega) (by omega) (by omega) (by omega) h (by omega) List.Pairwise.nil (by simp; omega)
  simp at e4
  obtain ⟨g, c2, f1, f2, f3⟩ := sgTail_ok (N := N) (o2 := n) hco e2 (by omega) (show o1.length ≤ 1000 by omega)
  exact ⟨g, c2, e1.trans f1, cur_mono f2 (by omega), by omega⟩
theorem someGraph_ok {N : Nat} {code : List Int} {k : Nat} {c : List Int × (Int × Int)} {most : Int} (hco : codeOk code) (hN : 1048577 ≤ N) (h : CurOk code k c) (hk : k ≤ 90000) (hm : 5 ≤ most ∧ most ≤ 8) :
    ∃ g c', Zq97 N c most = some ((g, ()), (c', ())) ∧ CurOk code (k + 200) c' ∧ g.2.length ≤ 100 := by
  unfold Zq97
  obtain ⟨n, c1, a1, a2, a3⟩ := among_ok (N := N) hco h (by omega) (l := [4, 5, 3, 6, 2, 1, 0]) (by simp)
  rw [a1, bind_some']
  simp only []
  have hn : 0 ≤ n ∧ n ≤ 6 := by simp at a3; omega
  have rest : ∀ (n : Int) (kk : Nat) (c : List Int × (Int × Int)), 0 ≤ n → CurOk code kk c → kk ≤ k + 6 → ∃ g c', ((Zq100 N n most).bind fun r3 =>
      ((Zq89 N c [1, 3, 4, 6]).bind fun r4 =>
        ((Zq95 N r4.2.1 5).bind fun r5 =>
          Zq97_l0 N (fun o o1 o2 o3 => sgTail N o o2 o3) N r3.1.1 r4.1.1 r5.1.1 0 r5.2.1 0 r3.1.1 []))) = some ((g, ()), (c', ())) ∧ CurOk code (k + 200) c' ∧ g.2.length ≤ 100 := by
    intro n kk c hn hc hkk
    rw [l1Least_eq, bind_some']
    simp only []
    obtain ⟨y, c2, b1, b2, _⟩ := among_ok (N := N) hco hc (by omega) (l := [1, 3, 4, 6]) (by simp)
    rw [b1, bind_some']
    simp only []
    obtain ⟨b, c3, d1, d2⟩ := one_ok (N := N) hco b2 (by omega) 5
    rw [d1, bind_some']
    simp only []
    have hr : 0 ≤ (if n < most then n else most) ∧ (if n < most then n else most) ≤ 8 := by split <;> omega
    obtain ⟨g, c', f1, f2, f3⟩ := sg_fin (N := N) (x1 := y) (x2 := b) hco hN d2 (by omega) hr
    exact ⟨g, c', f1, cur_mono f2 (by omega), f3⟩
  by_cases h6 : 6 < most
  · rw [ilt_t h6, br_t]
    obtain ⟨b, c2, d1, d2⟩ := one_ok (N := N) hco a2 (by omega) 4
    rw [d1, bind_some']
    simp only []
    cases b with
    | true =>
      rw [br_t]
      obtain ⟨y, c3, e1, e2, e3, e4, e5⟩ := pick_ok (N := N) hco d2 (by omega) 2
      rw [e1, bind_some']
      simp only []
      have := e5 (by omega)
      rw [wrap_ok (by omega) (by omega)]
      exact rest (7 + y) _ c3 (by omega) e2 (by omega)
    | false =>
      rw [br_f]
      exact rest n _ c2 hn.1 d2 (by omega)
  · rw [ilt_f h6, br_f]
    exact rest n _ c1 hn.1 a2 (by omega)
theorem cur0 {code : List Int} : CurOk code 0 (code, (0, 0)) := ⟨rfl, Int.le_refl _, by simp⟩
theorem code_ok {x : List Int} (h : ∀ y ∈ x, (Lit.int .u8 y).wf = true) (hl : x.length ≤ 65536) : codeOk x := by
  refine ⟨by omega, fun y hy => ?_⟩
  have := h y hy
  simp [Lit.wf, IntKind.min, IntKind.max, IntKind.signed, IntKind.bits] at this
  omega
theorem rInts_l0_eq {R : Type} (N : Nat) (k0 : Bool → Option R) (k1 : Unit → Option R) (a b : List Int) (hx : a.length ≤ 1099511627776) (hl : a.length = b.length) : ∀ (d n : Nat) (K : Nat), n + d = a.length → d < K →
    Zq57_l0 N k0 k1 K a b n = if a.drop n = b.drop n then k1 () else k0 false := by
  intro d
  induction d with
  | zero =>
    intro n K hd hK
    obtain ⟨k, rfl⟩ := succ_of hK
    have hn : ¬ n < a.length := by omega
    simp only [Zq57_l0, ilt_lenf hn, br_f]
    rw [if_pos]
    rw [List.drop_of_length_le (by omega), List.drop_of_length_le (by omega)]
  | succ d ih =>
    intro n K hd hK
    obtain ⟨k, rfl⟩ := succ_of hK
    have hn : n < a.length := by omega
    have hnb : n < b.length := by omega
    simp only [Zq57_l0, ilt_len hn, inb_n hn, inb_n hnb, br_t, chk_t]
    rw [wrap_succ (by omega), rdI_n hn, rdI_n hnb, ih (n + 1) k (by omega) (by omega), drop_cons hn, drop_cons hnb]
    by_cases he : a[n] = b[n]
    · rw [ine_f he, br_f, he]
      simp only [List.cons.injEq, true_and]
    · rw [ine_t he, br_t, if_neg]
      intro h
      injection h with h _
      exact he h
theorem rInts_eq {N : Nat} {a b : List Int} (hx : a.length ≤ 1099511627776) (hN : a.length < N) : Zq57 N a b = some ((decide (a = b), ()), ()) := by
  unfold Zq57
  simp only [tLen_n]
  by_cases hl : a.length = b.length
  · rw [ine_f (by omega), br_f]
    have := rInts_l0_eq N (fun x => some ((x, ()), ())) (fun _ => some ((true, ()), ())) a b hx hl a.length 0 N (by omega) (by omega)
    simp only [Int.natCast_zero, List.drop_zero] at this
    rw [this]
    by_cases h : a = b <;> simp [h]
  · rw [ine_t (by omega), br_t]
    have : a ≠ b := fun h => hl (by rw [h])
    simp [this]
theorem rTable_l0_eq {R : Type} (N : Nat) (k0 : Bool → Option R) (k1 : Unit → Option R) (a b : List (List Int)) (hx : a.length ≤ 1099511627776) (hxs : ∀ x ∈ a, x.length ≤ 1048576) (hN : 1048577 ≤ N) (hl : a.length = b.length) : ∀ (d n : Nat) (K : Nat), n + d = a.length → d < K →
    Zq60_l0 N k0 k1 K a b n = if a.drop n = b.drop n then k1 () else k0 false := by
  intro d
  induction d with
  | zero =>
    intro n K hd hK
    obtain ⟨k, rfl⟩ := succ_of hK
    have hn : ¬ n < a.length := by omega
    simp only [Zq60_l0, ilt_lenf hn, br_f]
    rw [if_pos]
    rw [List.drop_of_length_le (by omega), List.drop_of_length_le (by omega)]
  | succ d ih =>
    intro n K hd hK
    obtain ⟨k, rfl⟩ := succ_of hK
    have hn : n < a.length := by omega
    have hnb : n < b.length := by omega
    simp only [Zq60_l0, ilt_len hn, inb_n hn, inb_n hnb, br_t, chk_t]
    have ha := hxs _ (List.getElem_mem hn)
    rw [wrap_succ (by omega), rdL_n hn, rdL_n hnb, rInts_eq (by omega) (by omega), bind_some', ih (n + 1) k (by omega) (by omega), drop_cons hn, drop_cons hnb, br_ite]
    by_cases he : a[n] = b[n]
    · rw [he, if_neg (by simp)]
      simp only [List.cons.injEq, true_and]
    · rw [if_pos (by simp [he]), if_neg]
      intro h
      injection h with h _
      exact he h
theorem rTable_eq {N : Nat} {a b : List (List Int)} (hx : a.length ≤ 1048576) (hxs : ∀ x ∈ a, x.length ≤ 1048576) (hN : 1048577 ≤ N) : Zq60 N a b = some ((decide (a = b), ()), ()) := by
  unfold Zq60
  simp only [tLen_n]
  by_cases hl : a.length = b.length
  · rw [ine_f (by omega), br_f]
    have := rTable_l0_eq N (fun x => some ((x, ()), ())) (fun _ => some ((true, ()), ())) a b (by omega) hxs hN hl a.length 0 N (by omega) (by omega)
    simp only [Int.natCast_zero, List.drop_zero] at this
    rw [this]
    by_cases h : a = b <;> simp [h]
  · rw [ine_t (by omega), br_t]
    have : a ≠ b := fun h => hl (by rw [h])
    simp [this]
theorem rPairs_self {N : Nat} {a : List (Int × Int)} (hx : a.length ≤ 1048576) (hN : 1048577 ≤ N) : Zq58 N a a = some ((true, ()), ()) := by
  unfold Zq58
  rw [ine_f rfl, br_f]
  have go : ∀ (d n K : Nat), n + d = a.length → d < K → Zq58_l0 N (fun x => some ((x, ()), ())) (fun (_ : Unit) => some ((true, ()), ())) K a a (n : Int) = some ((true, ()), ()) := by
    intro d
    induction d with
    | zero =>
      intro n K hd hK
      obtain ⟨K, rfl⟩ := succ_of hK
      simp only [Zq58_l0, ilt_lenf (show ¬ n < a.length by omega), br_f]
    | succ d ih =>
      intro n K hd hK
      obtain ⟨K, rfl⟩ := succ_of hK
      have hn : n < a.length := by omega
      simp only [Zq58_l0, ilt_len hn, br_t, inb_n hn, chk_t]
      rw [ieq_t rfl, ieq_t rfl, wrap_succ (by omega)]
      simp only [Bool.and_self, Bool.not_true, br_f]
      exact ih (n + 1) K (by omega) (by omega)
  exact go a.length 0 N (by omega) (by omega)
theorem rSpace_self {N : Nat} {x : List (List Int) × List (Int × Int)} (h : okSp x) (hN : 1048577 ≤ N) : Zq59 N x x = some ((true, ()), ()) := by
  obtain ⟨h1, h2, h3, h4⟩ := h
  unfold Zq59
  rw [rTable_eq h1 h2 hN, bind_some', decide_eq_true rfl, br_t, rPairs_self h3 hN, bind_some']
theorem cnt_one {L : List (List Int)} {n : Nat} (hn : 0 < n) (h : ∀ i j : Nat, i < n → j < n → Wk L (i : Int) (j : Int)) : cntN L n = 1 := by
  unfold cntN
  obtain ⟨m, rfl⟩ : ∃ m, n = m + 1 := ⟨n - 1, by omega⟩
  rw [List.range_succ_eq_map, List.filter_cons_of_pos (by simp), List.filter_eq_nil_iff.2 (fun x hx => ?_)]
  · rfl
  · obtain ⟨i, hi, rfl⟩ := List.mem_map.1 hx
    have := List.mem_range.1 hi
    simp only [decide_eq_true_eq]
    exact fun q => q 0 (by omega) (h 0 (i + 1) (by omega) (by omega))
theorem isState_eq {N : Nat} {s : List Int} (hl : s.length ≤ 24) (hb : ∀ z ∈ s, -99 ≤ z ∧ z ≤ 99) (hN : 1048577 ≤ N) : Zq47 N s = some ((true, ()), ()) := by
  unfold Zq47
  rw [tLen_n, ile_t (by omega), br_t, ContainsFunc_LI_int_eq (g := fun z => !decide (-99 ≤ z ∧ z ≤ 99)) (fun z _ => ?_) (by omega) (by omega), bind_some']
  · have : (s.any fun z => !decide (-99 ≤ z ∧ z ≤ 99)) = false := by
      rw [List.any_eq_false]
      intro z hz
      rw [decide_eq_true (hb z hz)]
      simp
    rw [this]
    rfl
  · unfold Zq48
    rw [between_eq, bind_some', bind_some']
theorem okSt_pair {n : Nat} {st : List (Int × Int)} (h : okSt n st) : ∀ i : Nat, i < st.length → pairAt (n : Int) st i := by
  intro i hi
  have h2 := h.2 _ (List.getElem_mem hi)
  rw [← rdP_n hi] at h2
  refine ⟨⟨h2.1, h2.2.1, h2.2.2⟩, fun h0 => ?_⟩
  have := (List.pairwise_iff_getElem.1 h.1) (i - 1) i (by omega) hi (by omega)
  rw [rdP_n hi, rdP_n (show i - 1 < st.length by omega)]
  exact this
theorem isPairs_ok {N n : Nat} {es : List (Int × Int)} (hx : es.length ≤ 1048576) (h : okSt n es) (hN : 1048577 ≤ N) : Zq44 N es (n : Int) = some ((true, ()), ()) := by
  have hp := okSt_pair h
  unfold Zq44
  have go : ∀ (d n' K : Nat), n' + d = es.length → d < K → Zq44_l0 N (fun x => some ((x, ()), ())) (fun (_ : Unit) => some ((true, ()), ())) K es (n : Int) es (es.length : Int) (n' : Int) = some ((true, ()), ()) := by
    intro d
    induction d with
    | zero =>
      intro n' K hd hK
      obtain ⟨K, rfl⟩ := succ_of hK
      simp only [Zq44_l0, ilt_nf (show ¬ n' < es.length by omega), br_f]
    | succ d ih =>
      intro n' K hd hK
      obtain ⟨K, rfl⟩ := succ_of hK
      have hn : n' < es.length := by omega
      simp only [Zq44_l0, ilt_n hn, inb_n hn, br_t, chk_t]
      obtain ⟨⟨p1, p2, p3⟩, p4⟩ := hp n' hn
      rw [ilt_f (by omega), br_f, ile_f (by omega), br_f, ile_f (by omega), br_f, wrap_succ (by omega)]
      by_cases h0 : 0 < n'
      · rw [ilt_0 h0, br_t, wrap_pred (by omega) h0, inb_n (by omega), chk_t]
        obtain ⟨r, r1, r2, _⟩ := comparePairs_eq hN (rdP es ((n' - 1 : Nat) : Int)) ((rdP es n').1, (rdP es n').2)
        have := r2.2 (p4 h0)
        rw [r1]
        simp only [bind_some']
        rw [ile_f (by omega), br_f]
        exact ih (n' + 1) K (by omega) (by omega)
      · rw [ilt_0n h0, br_f]
        exact ih (n' + 1) K (by omega) (by omega)
  rw [tLen_n]
  exact go es.length 0 N (by omega) (by omega)
theorem isSpace_ok {N : Nat} {xs : List (List Int)} {st : List (Int × Int)} (h1 : xs.length ≤ 300) (h2 : st.length ≤ 6000) (hs : ∀ x ∈ xs, x.length ≤ 24 ∧ ∀ z ∈ x, -99 ≤ z ∧ z ≤ 99) (hl : lexSorted xs) (h : okSt xs.length st) (hN : 1048577 ≤ N) : Zq22 N (xs, st) = some ((true, ()), ()) := by
  unfold Zq22
  simp only []
  rw [tLen_n, tLen_n, ilt_f (by omega), br_f, ilt_f (by omega), br_f]
  have go : ∀ (d n K : Nat), n + d = xs.length → d < K → Zq22_l0 N (fun x1 => some ((x1, ()), ())) (fun o o1 => ((Zq44 N o1 (tLen o)).bind fun r => some ((r.1.1, ()), ()))) K xs (xs.length : Int) (n : Int) xs st = some ((true, ()), ()) := by
    intro d
    induction d with
    | zero =>
      intro n K hd hK
      obtain ⟨K, rfl⟩ := succ_of hK
      simp only [Zq22_l0, ilt_nf (show ¬ n < xs.length by omega), br_f]
      rw [tLen_n, isPairs_ok (by omega) h hN, bind_some']
    | succ d ih =>
      intro n K hd hK
      obtain ⟨K, rfl⟩ := succ_of hK
      have hn : n < xs.length := by omega
      obtain ⟨a1, a2⟩ := hs _ (List.getElem_mem hn)
      simp only [Zq22_l0, ilt_n hn, inb_n hn, br_t, chk_t]
      rw [rdL_n hn, isState_eq a1 a2 hN, bind_some']
      simp only [Bool.not_true, br_f]
      rw [wrap_succ (by omega)]
      by_cases h0 : 0 < n
      · have hn1 : n - 1 < xs.length := by omega
        obtain ⟨b1, b2⟩ := hs _ (List.getElem_mem hn1)
        have hlt := (List.pairwise_iff_getElem.1 hl) (n - 1) n hn1 hn (by omega)
        rw [ilt_0 h0, br_t, wrap_pred (by omega) h0, inb_n hn1, chk_t, rdL_n hn1, Compare_lex (by omega) (by omega) hN, bind_some']
        simp only []
        rw [ile_f (by omega), br_f]
        exact ih (n + 1) K (by omega) (by omega)
      · rw [ilt_0n h0, br_f]
        exact ih (n + 1) K (by omega) (by omega)
  exact go xs.length 0 N (by omega) (by omega)
theorem partsOf_cnt {N : Nat} {xs : List (List Int)} {st : List (Int × Int)} (h1 : xs.length ≤ 300) (h2 : st.length ≤ 6000) (hs : ∀ x ∈ xs, x.length ≤ 24 ∧ ∀ z ∈ x, -99 ≤ z ∧ z ≤ 99) (hl : lexSorted xs) (h : okSt xs.length st) (hN : 1048577 ≤ N) :
    ∃ b : List (List Int), Zq23 N (xs, st) = some ((b, true, ()), ()) ∧ b.length = cntN (nbL xs.length st) xs.length := by
  have hok := nbL_ok (n := xs.length) (by omega) h
  have hlen := hok.1
  have h0 : ∀ y : Nat, y < xs.length → (rdB (List.replicate xs.length false) (y : Int) = true ↔ seenP (nbL xs.length st) 0 (y : Int)) := fun y hy => by
    constructor
    · intro q
      unfold rdB at q
      simp [List.getElem?_replicate, hy] at q
    · rintro ⟨j, j1, _⟩
      omega
  obtain ⟨b, b1, b2⟩ := implParts (N := N) hok (by omega) hN xs.length 0 N [] (List.replicate xs.length false) (by omega) (by omega) (by simp [cntN]) (by simp) h0
  have hg : (ile 0 (tLen (nbL xs.length st)) && ile (tLen (nbL xs.length st)) (tLen (nbL xs.length st)) && fits (tLen (nbL xs.length st))) = true := by
    rw [tLen_n, hlen, ile_t (by omega), ile_t (Int.le_refl _), fits_ok (by omega)]
    rfl
  have hp : Zq52 N (nbL xs.length st) (-1) = some ((b, ()), ()) := by
    unfold Zq52
    rw [hg, chk_t, ile_f (by decide), br_f, tLen_n, hlen, tRep_n]
    exact b1
  refine ⟨b, ?_, b2⟩
  unfold Zq23
  simp only []
  rw [isSpace_ok h1 h2 hs hl h hN, bind_some']
  simp only [Bool.not_true, br_f]
  rw [sroads_eq (by omega) (by omega) h hN, bind_some']
  simp only []
  rw [hp, bind_some']
theorem placeOf_in {N : Nat} {xs : List (List Int)} {st : List (Int × Int)} {a : List Int} (h1 : xs.length ≤ 300) (h2 : st.length ≤ 6000) (hs : ∀ x ∈ xs, x.length ≤ 24 ∧ ∀ z ∈ x, -99 ≤ z ∧ z ≤ 99) (hl : lexSorted xs) (h : okSt xs.length st) (ha : a ∈ xs) (hN : 1048577 ≤ N) :
    Zq24 N (xs, st) a = some ((((xs.idxOf a : Nat) : Int), true, ()), ()) := by
  unfold Zq24
  simp only []
  rw [isSpace_ok h1 h2 hs hl h hN, bind_some']
  simp only [Bool.not_true, br_f]
  rw [place_in hl (by omega) (fun x hx => by have := (hs x hx).1; omega) ha hN, bind_some']
  simp only [Bool.not_true, br_f]
noncomputable def upL (n : Nat) : List Int := (List.range n).map fun i : Nat => (i : Int)
theorem mem_upL {n : Nat} {c : Int} : c ∈ upL n ↔ 0 ≤ c ∧ c < (n : Int) := by
  unfold upL
  rw [List.mem_map]
  constructor
  · rintro ⟨i, hi, rfl⟩
    rw [List.mem_range] at hi
    omega
  · rintro ⟨h1, h2⟩
    exact ⟨c.toNat, List.mem_range.2 (by omega), by omega⟩
theorem upL_len (n : Nat) : (upL n).length = n := by simp [upL]
theorem upL_nodup (n : Nat) : (upL n).Nodup := by
  unfold upL
  refine List.Pairwise.map _ (fun a b h e => h ?_) List.nodup_range
  omega
noncomputable def card (m A : Nat) : Nat := (setOf m A).length
theorem card_le (m A : Nat) : card m A ≤ m := setOf_len m A
def subN (m A B : Nat) : Prop := ∀ i, i < m → A.testBit i = true → B.testBit i = true
theorem subN_refl (m A : Nat) : subN m A A := fun _ _ h => h
theorem subN_trans {m A B C : Nat} (h1 : subN m A B) (h2 : subN m B C) : subN m A C := fun i hi h => h2 i hi (h1 i hi h)
theorem sub_mem {m A B : Nat} (h : subN m A B) : ∀ z ∈ setOf m A, z ∈ setOf m B := fun z hz => by
  obtain ⟨i, hi, hb, rfl⟩ := mem_setOf.1 hz
  exact mem_setN.2 ⟨hi, h i hi hb⟩
theorem card_mono {m A B : Nat} (h : subN m A B) : card m A ≤ card m B := nodup_le (setOf_nodup m A) (sub_mem h)
theorem card_out {m A x : Nat} (hx : x < m) (h : A.testBit x = false) : card m (A ^^^ 2 ^ x) = card m A + 1 := by
  have h1 := nodup_le (a := (x : Int) :: setOf m A) (b := setOf m (A ^^^ 2 ^ x)) (List.nodup_cons.2 ⟨(fun q => by rw [(mem_setN.1 q).2] at h; cases h), setOf_nodup m A⟩) fun z hz => by
    rcases List.mem_cons.1 hz with rfl | hz
    · exact mem_setN.2 ⟨hx, by rw [xor_bit, h]; simp⟩
    · obtain ⟨i, hi, hb, rfl⟩ := mem_setOf.1 hz
      refine mem_setN.2 ⟨hi, ?_⟩
      rw [xor_bit, hb]
      by_cases e : x = i
      · subst e; rw [h] at hb; cases hb
      · simp [e]
  have h2 := nodup_le (a := setOf m (A ^^^ 2 ^ x)) (b := (x : Int) :: setOf m A) (setOf_nodup m _) fun z hz => by
    obtain ⟨i, hi, hb, rfl⟩ := mem_setOf.1 hz
    by_cases e : x = i
    · subst e; exact List.mem_cons_self ..
    · refine List.mem_cons_of_mem _ (mem_setN.2 ⟨hi, ?_⟩)
      rw [xor_bit] at hb
      simpa [e] using hb
  unfold card
  simp only [List.length_cons] at h1 h2
  omega
theorem xor_twice (A x : Nat) : (A ^^^ 2 ^ x) ^^^ 2 ^ x = A := by rw [Nat.xor_assoc, Nat.xor_self, Nat.xor_zero]
theorem card_in {m A x : Nat} (hx : x < m) (h : A.testBit x = true) : card m (A ^^^ 2 ^ x) + 1 = card m A := by
  have := card_out (A := A ^^^ 2 ^ x) hx (by rw [xor_bit, h]; simp)
  rw [xor_twice] at this
  omega
theorem sub_rem {m A x : Nat} (h : A.testBit x = true) : subN m (A ^^^ 2 ^ x) A := fun i hi hb => by
  rw [xor_bit] at hb
  by_cases e : x = i
  · subst e; exact h
  · simpa [e] using hb
def upV (m : Nat) (V : Nat → Prop) : Prop := ∀ A B, A < 2 ^ m → B < 2 ^ m → subN m A B → V A → V B
inductive Tar (m : Nat) (W : Nat → Prop) (A : Nat) : Nat → Prop
  | base : Tar m W A A
  | step {B x : Nat} : Tar m W A B → x < m → W (B ^^^ 2 ^ x) → Tar m W A (B ^^^ 2 ^ x)
theorem tar_trans {m : Nat} {W : Nat → Prop} {A B C : Nat} (h1 : Tar m W A B) (h2 : Tar m W B C) : Tar m W A C := by
  induction h2 with
  | base => exact h1
  | step _ hx hw ih => exact .step ih hx hw
def oth (m A : Nat) : Nat := (2 ^ m - 1) ^^^ A
theorem oth_bit {m A i : Nat} (hi : i < m) : (oth m A).testBit i = !A.testBit i := by
  unfold oth
  rw [Nat.testBit_xor, Nat.testBit_two_pow_sub_one]
  simp [hi]
theorem oth_lt {m A : Nat} (hA : A < 2 ^ m) : oth m A < 2 ^ m := Nat.xor_lt_two_pow (by have := Nat.two_pow_pos m; omega) hA
theorem oth_oth (m A : Nat) : oth m (oth m A) = A := by
  unfold oth
  rw [← Nat.xor_assoc, Nat.xor_self, Nat.zero_xor]
theorem oth_xor (m A x : Nat) : oth m (A ^^^ 2 ^ x) = oth m A ^^^ 2 ^ x := by
  unfold oth
  rw [Nat.xor_assoc]
theorem card_oth {m A : Nat} : card m (oth m A) + card m A = m := by
  have h1 := nodup_le (a := setOf m (oth m A) ++ setOf m A) (b := upL m) (by
    refine List.nodup_append.2 ⟨setOf_nodup m _, setOf_nodup m _, fun a ha b hb e => ?_⟩
    subst e
    obtain ⟨i, hi, h1, rfl⟩ := mem_setOf.1 ha
    have h2 := (mem_setN.1 hb).2
    rw [oth_bit hi, h2] at h1
    cases h1) fun z hz => by
    rcases List.mem_append.1 hz with h | h
    · obtain ⟨i, hi, _, rfl⟩ := mem_setOf.1 h
      exact mem_upL.2 ⟨by omega, by omega⟩
    · obtain ⟨i, hi, _, rfl⟩ := mem_setOf.1 h
      exact mem_upL.2 ⟨by omega, by omega⟩
  have h2 := nodup_le (a := upL m) (b := setOf m (oth m A) ++ setOf m A) (upL_nodup m) fun z hz => by
    obtain ⟨z1, z2⟩ := mem_upL.1 hz
    obtain ⟨i, rfl⟩ : ∃ i : Nat, z = (i : Int) := ⟨z.toNat, by omega⟩
    rw [List.mem_append]
    cases hb : A.testBit i with
    | true => exact .inr (mem_setN.2 ⟨by omega, hb⟩)
    | false => exact .inl (mem_setN.2 ⟨by omega, by rw [oth_bit (by omega), hb]; rfl⟩)
  rw [upL_len, List.length_append] at h1 h2
  unfold card
  omega
theorem oth_sub {m A B : Nat} (h : subN m A B) : subN m (oth m B) (oth m A) := fun i hi hb => by
  rw [oth_bit hi] at hb ⊢
  cases ha : A.testBit i with
  | true => rw [h i hi ha] at hb; cases hb
  | false => rfl
structure Vw (m : Nat) (es : List (Int × Int)) (kind : Int) (k : Nat) (level : Int) (σ : Nat → Nat) (V : Nat → Prop) (k' bd : Nat) : Prop where
  lt : ∀ A, A < 2 ^ m → σ A < 2 ^ m
  xor : ∀ A x, σ (A ^^^ 2 ^ x) = σ A ^^^ 2 ^ x
  inv : ∀ A, σ (σ A) = A
  vdef : ∀ A, V A ↔ hasK m es kind (setOf m (σ A))
  up : upV m V
  cardk : ∀ A, A < 2 ^ m → (card m A = k' ↔ card m (σ A) = k)
  fits : ∀ A, A < 2 ^ m → (card m A ≤ bd ↔ fitsP kind (card m (σ A)) level)
  km : k' ≤ m
theorem tar_wk {m k k' bd : Nat} {es : List (Int × Int)} {kind level : Int} {σ : Nat → Nat} {V : Nat → Prop} (H : Vw m es kind k level σ V k' bd) {zs : List (List Int)} (hzs : ThSt m es kind level zs) {A B : Nat} (hA : A < 2 ^ m) (hAz : setOf m (σ A) ∈ zs) (h : Tar m (fun C => V C ∧ card m C ≤ bd) A B) :
    B < 2 ^ m ∧ setOf m (σ B) ∈ zs ∧ Wk (nbL zs.length (stepsL addP zs)) ((zs.idxOf (setOf m (σ A)) : Nat) : Int) ((zs.idxOf (setOf m (σ B)) : Nat) : Int) := by
  induction h with
  | base => exact ⟨hA, hAz, .base⟩
  | @step B x _ hx hw ih =>
    obtain ⟨hB, mB, w⟩ := ih
    have hB' := xor_lt (m := m) hB hx
    have mB' : setOf m (σ (B ^^^ 2 ^ x)) ∈ zs := (hzs.2 _).2 ⟨⟨_, H.lt _ hB', rfl⟩, (H.vdef _).1 hw.1, (H.fits _ hB').1 hw.2⟩
    have e : σ (B ^^^ 2 ^ x) = σ B ^^^ 2 ^ x := H.xor B x
    refine ⟨hB', mB', .step w ?_⟩
    rw [e] at mB' ⊢
    exact add_near (H.lt B hB) hx mB mB'
theorem tar_toward {m T A : Nat} {W : Nat → Prop} (hT : T < 2 ^ m) (hA : A < 2 ^ m) (h : ∀ x, x ≤ m → W (toward T x A)) : Tar m W A T := by
  have key : ∀ x, x ≤ m → Tar m W A (toward T x A) := by
    intro x
    induction x with
    | zero => intro _; exact .base
    | succ x ih =>
      intro hx
      have h1 := ih (by omega)
      have h2 := h (x + 1) hx
      unfold toward at h2 ⊢
      split
      · exact h1
      · rename_i q
        rw [if_neg q] at h2
        exact .step h1 (by omega) h2
  have := key m (Nat.le_refl _)
  rwa [toward_end hT hA] at this
theorem tar_up {m A T bd : Nat} {V : Nat → Prop} (hV : upV m V) (hA : A < 2 ^ m) (hT : T < 2 ^ m) (hs : subN m A T) (vA : V A) (hc : card m T ≤ bd) : Tar m (fun C => V C ∧ card m C ≤ bd) A T ∧ Tar m (fun C => V C ∧ card m C ≤ bd) T A := by
  have side : ∀ x, subN m A (toward T x A) ∧ subN m (toward T x A) T ∧ subN m A (toward A x T) ∧ subN m (toward A x T) T := fun x => by
    refine ⟨fun i hi h => ?_, fun i hi h => ?_, fun i hi h => ?_, fun i hi h => ?_⟩
    · rw [toward_bit]
      split
      · exact hs i hi h
      · exact h
    · rw [toward_bit] at h
      split at h
      · exact h
      · exact hs i hi h
    · rw [toward_bit]
      split
      · exact h
      · exact hs i hi h
    · rw [toward_bit] at h
      split at h
      · exact hs i hi h
      · exact h
  constructor
  · refine tar_toward hT hA fun x hx => ⟨hV A _ hA (toward_lt hT hA) (side x).1 vA, ?_⟩
    have := card_mono (side x).2.1
    omega
  · refine tar_toward hA hT fun x hx => ⟨hV A _ hA (toward_lt hA hT) (side x).2.2.1 vA, ?_⟩
    have := card_mono (side x).2.2.2
    omega
def tightV (m : Nat) (V : Nat → Prop) (T : Nat) : Prop := V T ∧ ∀ x, x < m → T.testBit x = true → ¬ V (T ^^^ 2 ^ x)
theorem tight_in {m : Nat} {V : Nat → Prop} : ∀ (d A : Nat), A < 2 ^ m → V A → card m A ≤ d → ∃ T, T < 2 ^ m ∧ subN m T A ∧ tightV m V T := by
  intro d
  induction d with
  | zero =>
    intro A hA vA hc
    refine ⟨A, hA, subN_refl m A, vA, fun x hx hb => ?_⟩
    have := card_in hx hb
    omega
  | succ d ih =>
    intro A hA vA hc
    by_cases h : tightV m V A
    · exact ⟨A, hA, subN_refl m A, h⟩
    · obtain ⟨x, hx, hb, hv⟩ : ∃ x, x < m ∧ A.testBit x = true ∧ V (A ^^^ 2 ^ x) := by
        refine Classical.byContradiction fun q => h ⟨vA, fun x hx hb hv => q ⟨x, hx, hb, hv⟩⟩
      have := card_in hx hb
      obtain ⟨T, t1, t2, t3⟩ := ih (A ^^^ 2 ^ x) (xor_lt hA hx) hv (by omega)
      exact ⟨T, t1, subN_trans t2 (sub_rem hb), t3⟩
theorem or_facts {m A B : Nat} (hA : A < 2 ^ m) (hB : B < 2 ^ m) : A ||| B < 2 ^ m ∧ subN m A (A ||| B) ∧ subN m B (A ||| B) ∧ card m (A ||| B) ≤ card m A + card m B := by
  have hb : ∀ i, (A ||| B).testBit i = (A.testBit i || B.testBit i) := fun i => Nat.testBit_or ..
  refine ⟨Nat.or_lt_two_pow hA hB, fun i _ h => by rw [hb, h]; rfl, fun i _ h => by rw [hb, h]; simp, ?_⟩
  have := nodup_le (a := setOf m (A ||| B)) (b := setOf m A ++ setOf m B) (setOf_nodup m _) fun z hz => by
    obtain ⟨i, hi, hbi, rfl⟩ := mem_setOf.1 hz
    rw [hb] at hbi
    rw [List.mem_append]
    cases ha : A.testBit i with
    | true => exact .inl (mem_setN.2 ⟨hi, ha⟩)
    | false =>
      rw [ha, Bool.false_or] at hbi
      exact .inr (mem_setN.2 ⟨hi, hbi⟩)
  rw [List.length_append] at this
  exact this
theorem wide_tar {m bd Γ : Nat} {V : Nat → Prop} (hV : upV m V) {B : Nat} (hB : B < 2 ^ m) (vB : V B) (hΓ : ∀ T, T < 2 ^ m → tightV m V T → card m T ≤ Γ) (hbd : Γ + card m B ≤ bd ∨ m ≤ bd) {A : Nat} (hA : A < 2 ^ m) (vA : V A) (cA : card m A ≤ bd) : Tar m (fun C => V C ∧ card m C ≤ bd) A B := by
  obtain ⟨T, t1, t2, t3⟩ := tight_in (card m A) A hA vA (Nat.le_refl _)
  obtain ⟨u1, u2, u3, u4⟩ := or_facts t1 hB
  have c1 := card_le m (T ||| B)
  have c2 := hΓ T t1 t3
  have cU : card m (T ||| B) ≤ bd := by omega
  exact tar_trans (tar_trans (tar_up hV t1 hA t2 t3.1 cA).2 (tar_up hV t1 u1 u2 t3.1 cU).1) (tar_up hV hB u1 u3 vB cU).2
def sg (kind : Int) (m A : Nat) : Nat := if kind = 2 then oth m A else A
theorem sg_lt {kind : Int} {m A : Nat} (h : A < 2 ^ m) : sg kind m A < 2 ^ m := by
  unfold sg
  split
  · exact oth_lt h
  · exact h
theorem sg_xor {kind : Int} {m A x : Nat} : sg kind m (A ^^^ 2 ^ x) = sg kind m A ^^^ 2 ^ x := by
  unfold sg
  split
  · exact oth_xor m A x
  · rfl
theorem sg_inv {kind : Int} {m A : Nat} : sg kind m (sg kind m A) = A := by
  unfold sg
  split
  · exact oth_oth m A
  · rfl
theorem sg_bit {kind : Int} {m A i : Nat} (hi : i < m) : (sg kind m A).testBit i = (A.testBit i != decide (kind = 2)) := by
  unfold sg
  by_cases h : kind = 2
  · rw [if_pos h, oth_bit hi, decide_eq_true h]
    simp
  · rw [if_neg h, decide_eq_false h]
    simp
def vK (m : Nat) (es : List (Int × Int)) (kind : Int) (T : Nat) : Prop := hasK m es kind (setOf m (sg kind m T))
theorem vK_up (m : Nat) (es : List (Int × Int)) (kind : Int) : upV m (vK m es kind) := fun A B hA hB h v => by
  unfold vK sg at *
  by_cases hk : kind = 2
  · subst hk
    rw [if_pos rfl] at v ⊢
    exact hasK_down (A := oth m A) (sub_mem (oth_sub h)) v
  · rw [if_neg hk] at v ⊢
    exact hasK_up hk (sub_mem h) v
theorem vK_sg {m : Nat} {es : List (Int × Int)} {kind : Int} {A : Nat} : vK m es kind (sg kind m A) ↔ hasK m es kind (setOf m A) := by unfold vK; rw [sg_inv]
def tightM (m : Nat) (es : List (Int × Int)) (kind : Int) (A : Nat) : Prop := ∀ x, x < m → (A.testBit x != decide (kind = 2)) = true → ¬ hasK m es kind (setOf m (A ^^^ 2 ^ x))
theorem tight_iff {m : Nat} {es : List (Int × Int)} {kind : Int} {A : Nat} : tightV m (vK m es kind) (sg kind m A) ↔ hasK m es kind (setOf m A) ∧ tightM m es kind A := by
  unfold tightV tightM
  rw [vK_sg]
  refine and_congr_right fun _ => forall_congr' fun x => forall_congr' fun hx => ?_
  rw [sg_bit hx, ← sg_xor, vK_sg]
theorem card_sg {kind : Int} {m A : Nat} : card m (sg kind m A) = if kind = 2 then m - card m A else card m A := by
  unfold sg
  split
  · have := card_oth (m := m) (A := A)
    omega
  · rfl
theorem vw_any {m : Nat} {es : List (Int × Int)} {kind level : Int} {bd : Nat} (h : (bd : Int) = if kind = 2 then (m : Int) - level else level) : Vw m es kind (if kind = 2 then m else 0) level (sg kind m) (vK m es kind) 0 bd where
  lt := fun A h => sg_lt h
  xor := fun A x => sg_xor
  inv := fun A => sg_inv
  vdef := fun A => Iff.rfl
  up := vK_up m es kind
  cardk := fun A _ => by
    rw [card_sg]
    have := card_le m A
    split <;> omega
  fits := fun A _ => by
    unfold fitsP
    rw [card_sg]
    have := card_le m A
    by_cases hk : kind = 2
    · rw [if_pos hk, if_pos hk]
      rw [if_pos hk] at h
      omega
    · rw [if_neg hk, if_neg hk]
      rw [if_neg hk] at h
      omega
  km := Nat.zero_le _
theorem wide_one {m : Nat} {es : List (Int × Int)} {kind level : Int} {bd Γ : Nat} (hbd : (bd : Int) = if kind = 2 then (m : Int) - level else level) {zs : List (List Int)} (hzs : ThSt m es kind level zs) (hn : zs.length ≤ 1048576) {B : Nat} (hB : B < 2 ^ m) (vB : hasK m es kind (setOf m B)) (cB : card m (sg kind m B) ≤ bd)
    (hΓ : ∀ A, A < 2 ^ m → hasK m es kind (setOf m A) → tightM m es kind A → card m (sg kind m A) ≤ Γ) (hle : Γ + card m (sg kind m B) ≤ bd ∨ m ≤ bd) : cntN (nbL zs.length (stepsL addP zs)) zs.length ≤ 1 := by
  have H := vw_any (es := es) hbd
  have hBs : sg kind m B < 2 ^ m := sg_lt hB
  have mB : setOf m B ∈ zs := by
    refine (hzs.2 _).2 ⟨⟨B, hB, rfl⟩, vB, ?_⟩
    have := (H.fits _ hBs).1 cB
    rwa [sg_inv] at this
  have key : ∀ i : Nat, i < zs.length → Wk (nbL zs.length (stepsL addP zs)) (i : Int) ((zs.idxOf (setOf m B) : Nat) : Int) := fun i hi => by
    have hm : rdL zs (i : Int) ∈ zs := by rw [rdL_n hi]; exact List.getElem_mem hi
    obtain ⟨⟨A, hA, eA⟩, kA, fA⟩ := (hzs.2 _).1 hm
    have hAs : sg kind m A < 2 ^ m := sg_lt hA
    have cA : card m (sg kind m A) ≤ bd := (H.fits _ hAs).2 (by rw [sg_inv]; unfold card; rw [← eA]; exact fA)
    have t := wide_tar (vK_up m es kind) hBs (vK_sg.2 vB) (fun T hT ht => by
      have := hΓ (sg kind m T) (sg_lt hT) (by rw [← vK_sg, sg_inv]; exact ht.1) (by
        have h2 := (tight_iff (m := m) (es := es) (kind := kind) (A := sg kind m T)).1 (by rw [sg_inv]; exact ht)
        exact h2.2)
      rwa [sg_inv] at this) hle hAs (vK_sg.2 (by rw [← eA]; exact kA)) cA
    have := (tar_wk H hzs hAs (by rw [sg_inv, ← eA]; exact hm) t).2.2
    rw [sg_inv, sg_inv, ← eA] at this
    have hnd := lex_nodup hzs.1
    have hidx : zs.idxOf (rdL zs (i : Int)) = i := by
      rw [rdL_n hi]
      exact hnd.idxOf_getElem i hi
    rwa [hidx] at this
  have hok := stepsL_ok (p := addP) (xs := zs)
  by_cases h0 : zs.length = 0
  · have := cntN_le (nbL zs.length (stepsL addP zs)) zs.length
    omega
  · rw [cnt_one (by omega) fun i j hi hj => Wk_trans (key i hi) (Wk_symm (nbL_ok hn hok) (nbL_symL hok) (in_nat hj) (key j hj))]
    exact Nat.le_refl _
theorem xor_lift : ∀ x : Nat, x < 8 → shlI .u64 1 (x : Int) = ((2 ^ x : Nat) : Int)
  | 0, _ => by kernel_rfl
  | 1, _ => by kernel_rfl
  | 2, _ => by kernel_rfl
  | 3, _ => by kernel_rfl
  | 4, _ => by kernel_rfl
  | 5, _ => by kernel_rfl
  | 6, _ => by kernel_rfl
  | 7, _ => by kernel_rfl
  | n + 8, h => absurd h (by omega)
theorem xor64 {a b : Nat} (ha : a < 256) (hb : b < 256) : bitop .xor .u64 (a : Int) (b : Int) = ((a ^^^ b : Nat) : Int) := by
  have e1 := ofInt64 (n := a) (by omega)
  have e2 := ofInt64 (n := b) (by omega)
  have h1 : a ^^^ b < 256 := Nat.xor_lt_two_pow (n := 8) ha hb
  show IntKind.u64.wrap (((BitVec.ofInt 64 (a : Int) ^^^ BitVec.ofInt 64 (b : Int)).toNat : Nat) : Int) = _
  rw [BitVec.toNat_xor, e1, e2]
  exact wrap64 (by omega)
theorem turn_eq {m A x : Nat} (hm : m ≤ 8) (hA : A < 2 ^ m) (hx : x < m) : bitop .xor .u64 (A : Int) (shlI .u64 1 (x : Int)) = ((A ^^^ 2 ^ x : Nat) : Int) := by
  have := pow256 hm
  rw [xor_lift x (by omega), xor64 (by omega) (Nat.lt_of_lt_of_le (Nat.pow_lt_pow_right (by omega) hx) this)]
def shrB (kind : Int) (A x : Nat) : Bool := A.testBit x != decide (kind = 2)
theorem shr_impl (kind : Int) (A x : Nat) : (!(A.testBit x == ieq kind 2)) = shrB kind A x := by
  unfold shrB
  rw [ieq_d]
  cases A.testBit x <;> cases decide (kind = 2) <;> rfl
theorem shr_spec (kind : Int) (A x : Nat) : (A.testBit x == ine kind 2) = shrB kind A x := by
  unfold shrB
  rw [ine_d, decide_not]
  cases A.testBit x <;> cases decide (kind = 2) <;> rfl
theorem dec_mem {m A x : Nat} (hx : x < m) : decide ((x : Int) ∈ setOf m A) = A.testBit x := by
  cases h : A.testBit x with
  | true => exact decide_eq_true (mem_setN.2 ⟨hx, h⟩)
  | false => exact decide_eq_false fun q => by rw [(mem_setN.1 q).2] at h; cases h
end Go.Proofs.YtffeokcchabclaaGreat
