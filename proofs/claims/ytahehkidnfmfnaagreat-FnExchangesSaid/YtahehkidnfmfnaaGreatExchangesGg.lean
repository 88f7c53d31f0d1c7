/- Statements on data alone. -/
import Derived.Test.YtahehkidnfmfnaaGreatPvPure
import Derived.Test.YtahehkidnfmfnaaGreatExchangesGf
set_option linter.all false
set_option linter.all false
namespace Go.Proofs.YtahehkidnfmfnaaGreat
open Go Go.PV Classical
theorem hasV_of {g : Int × List (Int × Int)} {kind : Int} {s : List Int} (h : (hasV g kind s).1 = true) : ofK g kind s := by
 unfold hasV at h
 split at h
 ·rename_i q
  exact ⟨q.1, q.2, of_decide_eq_true h⟩
 ·cases h
theorem ofK_hasV {g : Int × List (Int × Int)} {kind : Int} {s : List Int} (h : ofK g kind s) : hasV g kind s = (true, true) := by
 unfold hasV
 rw [if_pos (show kCase g kind ∧ rising 0 (g.1 - 1) s from ⟨h.1, h.2.1⟩), decide_eq_true h.2.2]
theorem Exchanges_pure {N : Nat} (hN : 1048577 ≤ N) {code : List Int} (hw : ∀ y ∈ code, (Lit.int .u8 y).wf = true) : Zq51 N code = some ((true, ()), ()) := by
 unfold Zq51 Zq52
 rw [bind_some']
 simp only []
 rw [tLen_n]
 by_cases hb : 65536 < code.length
 ·rw [ilt_t (by omega), br_t]
 ·rw [ilt_f (by omega), br_f]
  have hco := code_ok hw (by omega)
  obtain ⟨g, kind, a, b, d1, d2, d3, d4⟩ := DrawExW_ok (N := N) hco hN
  obtain ⟨h, k, n, e1, e2⟩ := DrawExS_ok (N := N) hco hN
  obtain ⟨p, t, q, f1, f2⟩ := DrawThS_ok (N := N) hco hN
  have hx : g.2.length ≤ 1048576 := by omega
  obtain ⟨w, ok, ⟨w1, w2⟩, w3, w4, w5, w6⟩ := ExWay_more (g := g) (kind := kind) (a := a) (b := b) hx (by omega) (by omega) hN
  obtain ⟨ys, sx, sy, one, y1, y2, y3, y4, y5, y6, y7⟩ := Ex_all (g := h) (kind := k) (k := n) (by omega) hN
  obtain ⟨zs, sz, three, z1, z2, z3⟩ := Thr_any (g := p) (kind := t) (k := q) (by omega) hN
  have h1 := (Has_both (kind := kind) (s := a) hx (by omega) hN).2
  have h2 := (Has_both (kind := kind) (s := b) hx (by omega) hN).2
  rw [d1, bind_some']
  simp only [show ((g.1, g.2) : Int × List (Int × Int)) = g from rfl]
  rw [w4, bind_some', w3, bind_some']
  simp only [beq_self_eq_true, Bool.not_true, br_f]
  rw [rTable_eq (by omega) (fun x hx => by have := w2 x hx; omega) hN, bind_some']
  simp only [decide_true, Bool.not_true, br_f]
  rw [e1, bind_some']
  simp only [show ((h.1, h.2) : Int × List (Int × Int)) = h from rfl]
  rw [y4, bind_some', y3, bind_some']
  simp only [beq_self_eq_true, Bool.not_true, br_f]
  rw [rSpace_self y1 hN, bind_some']
  simp only [Bool.not_true, br_f]
  rw [y6, bind_some', y5, bind_some']
  simp only [beq_self_eq_true, Bool.not_true, br_f]
  rw [rSpace_self y2 hN, bind_some']
  simp only [Bool.not_true, br_f]
  have red : ∀ {X Y r : Option ((Bool × Unit) × Unit)}, (one = true → X = Y) → Y = r → br one X Y = r := fun {X Y r} hX hY => by
   cases one with
   | true => rw [br_t, hX rfl, hY]
   | false => rw [br_f, hY]
  have nope : ¬ (ofK g kind a ∧ ofK g kind b ∧ a.length = b.length) → (some ((!ok, ()), ()) : Option ((Bool × Unit) × Unit)) = some ((true, ()), ()) := fun z => by rw [w5 z]; rfl
  refine red (fun z => ?_) ?_
  ·rw [y7 z, bind_some']
   simp only [Bool.not_true, br_f]
   rw [rSpace_self y1 hN, bind_some']
   simp only [Bool.not_true, br_f]
   rw [rTable_eq y1.1 y1.2.1 hN, bind_some']
   simp only [decide_true, Bool.not_true, br_f]
  ·rw [f1, bind_some']
   simp only [show ((p.1, p.2) : Int × List (Int × Int)) = p from rfl]
   rw [z3, bind_some', z2, bind_some']
   simp only [beq_self_eq_true, Bool.not_true, br_f]
   rw [rSpace_self z1 hN, bind_some']
   simp only [Bool.not_true, br_f]
   rw [h1, bind_some', h2, bind_some']
   simp only []
   by_cases qa : ofK g kind a
   ·rw [ofK_hasV qa]
    simp only [Bool.not_true, br_f]
    by_cases qb : ofK g kind b
    ·rw [ofK_hasV qb]
     simp only [Bool.not_true, br_f]
     by_cases ql : a.length = b.length
     ·rw [ine_f (show tLen a = tLen b by rw [tLen_n, tLen_n, ql]), br_f]
      have hal : (tLen a) = (a.length : Int) := rfl
      by_cases q2 : kind = 2
      ·rw [ieq_t q2, br_t]
       exact exch_tail (level := IntKind.i64.wrap (tLen a - 1)) hx qa qb ql (by rw [if_pos q2, hal, wrap_ok (by omega) (by omega)]) (w6 qa qb ql) hN
      ·rw [ieq_f q2, br_f]
       exact exch_tail (level := IntKind.i64.wrap (tLen a + 1)) hx qa qb ql (by rw [if_neg q2, hal, wrap_ok (by omega) (by omega)]) (w6 qa qb ql) hN
     ·rw [ine_t (show tLen a ≠ tLen b by rw [tLen_n, tLen_n]; omega), br_t]
      exact nope fun z => ql z.2.2
    ·have nb := nope fun z => qb z.2.1
     cases v2 : (hasV g kind b).2 with
     | false => rw [Bool.not_false, br_t]; exact nb
     | true =>
      cases v1 : (hasV g kind b).1 with
      | false => rw [Bool.not_true, br_f, Bool.not_false, br_t]; exact nb
      | true => exact absurd (hasV_of v1) qb
   ·have na := nope fun z => qa z.1
    cases v2 : (hasV g kind a).2 with
    | false => rw [Bool.not_false, br_t]; exact na
    | true =>
     rw [Bool.not_true, br_f]
     cases u2 : (hasV g kind b).2 with
     | false => rw [Bool.not_false, br_t]; exact na
     | true =>
      rw [Bool.not_true, br_f]
      cases v1 : (hasV g kind a).1 with
      | false => rw [Bool.not_false, br_t]; exact na
      | true => exact absurd (hasV_of v1) qa
theorem Exchanges_pureT : ∀ x : argsT (psOf [LU8]), WfA [LU8] x → ∃ k m, (Zq51_S k).f x = some ((true, ()), m) :=
 fun x h => ⟨1048577, (), Exchanges_pure (Nat.le_refl _) h.1.2⟩
def bz (b : Bool) : Int := cond b 1 0
end Go.Proofs.YtahehkidnfmfnaaGreat
