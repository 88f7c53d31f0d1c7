/- Statements on data alone. -/
import Derived.Test.YtfilchmabmfmaaaGreatPvPure
import Derived.Test.YtfilchmabmfmaaaGreatParitiesGd
set_option linter.all false
set_option linter.all false
namespace Go.Proofs.YtfilchmabmfmaaaGreat
open Go Go.PV Classical
noncomputable def parTail (N : Nat) (o : List Int × (Int × Int)) (o1 o2 : Int) (o3 : List (List Int)) (o4 : List Int) : Option (((Int × ((List (List Int)) × (List Int))) × Unit) × (((List Int) × (Int × Int)) × Unit)) :=
  (br (ilt 0 (tLen o3))
        (((Zq70 N o 40).bind fun r2 =>
          (br (ieq r2.1.1 0)
            (((Zq67 N r2.2.1 [(-1), 7, 1]).bind fun r3 =>
              some (((r3.1.1, (o3, o4)), ()), (r3.2.1, ()))))
            ((br (ieq r2.1.1 1)
              ((chk (room o4 [0])
                (some (((o2, (o3, (tApp o4 [0]))), ()), (r2.2.1, ())))))
              ((br (ieq r2.1.1 2)
                (((Zq67 N (r2.2.1.1, (r2.2.1.2.1, r2.2.1.2.2)) [2, (-1)]).bind fun r4 =>
                  (chk (inb o4 0)
                    (some (((o2, (o3, (tSet o4 0 r4.1.1))), ()), (r4.2.1, ()))))))
                ((br (ieq r2.1.1 3)
                  (Zq69_l1 N (fun o5 o6 o7 o8 o9 => some (((o7, (o8, o9)), ()), (o5, ()))) N r2.2.1 o1 o2 o3 o4)
                  (some (((o2, (o3, o4)), ()), (r2.2.1, ()))))))))))))
        (some (((o2, (o3, o4)), ()), (o, ()))))
def smallP (p : Int × (List (List Int) × List Int)) : Prop := p.2.1.length ≤ 20 ∧ (∀ x ∈ p.2.1, x.length ≤ 20) ∧ p.2.2.length ≤ 20
theorem parTail_ok {N : Nat} {code : List Int} {k : Nat} {c : List Int × (Int × Int)} {o1 vars : Int} {rows : List (List Int)} {right : List Int} (hco : codeOk code) (hN : 1048577 ≤ N) (h : CurOk code k c) (hk : k ≤ 10000) (h1 : rows.length = right.length) (h2 : rows.length ≤ 6) (h3 : ∀ x ∈ rows, x.length ≤ 20) :
    ∃ p c', parTail N c o1 vars rows right = some ((p, ()), (c', ())) ∧ smallP p := by
  unfold parTail
  by_cases h0 : 0 < rows.length
  · rw [tLen_n, ilt_t (by omega), br_t]
    obtain ⟨x, c1, a1, a2, _⟩ := pick_ok (N := N) hco h (by omega) 40
    rw [a1, bind_some']
    simp only []
    by_cases e0 : x = 0
    · rw [ieq_t e0, br_t]
      obtain ⟨y, c2, b1, b2, _⟩ := among_ok (N := N) hco a2 (by omega) (l := [(-1), 7, 1]) (by simp)
      rw [b1, bind_some']
      exact ⟨_, _, rfl, by simp only; omega, h3, by simp only; omega⟩
    · rw [ieq_f e0, br_f]
      by_cases e1 : x = 1
      · rw [ieq_t e1, br_t, room_ok (by simp; omega), chk_t]
        exact ⟨_, _, rfl, by simp only; omega, h3, by simp only [tApp_d, List.length_append, List.length_singleton]; omega⟩
      · rw [ieq_f e1, br_f]
        by_cases e2 : x = 2
        · rw [ieq_t e2, br_t]
          obtain ⟨y, c2, b1, b2, _⟩ := among_ok (N := N) hco a2 (by omega) (l := [2, (-1)]) (by simp)
          rw [show ((c1.1, (c1.2.1, c1.2.2)) : List Int × (Int × Int)) = c1 from rfl, b1, bind_some', show inb right 0 = true from inb_n (n := 0) (by omega), chk_t]
          exact ⟨_, _, rfl, by simp only; omega, h3, by simp only [tSet, List.length_set]; omega⟩
        · rw [ieq_f e2, br_f]
          by_cases e3 : x = 3
          · rw [ieq_t e3, br_t]
            have go : ∀ (d K : Nat) (rows : List (List Int)) (right : List Int), rows.length + d = 7 → d < K → rows.length = right.length → (∀ x ∈ rows, x.length ≤ 20) → ∃ p c', Zq69_l1 N (fun o5 o6 o7 o8 o9 => some (((o7, (o8, o9)), ()), (o5, ()))) K c1 o1 vars rows right = some ((p, ()), (c', ())) ∧ smallP p := by
              intro d
              induction d with
              | zero =>
                intro K rows right hd hK h1 h3
                obtain ⟨K, rfl⟩ := succ_of hK
                simp only [Zq69_l1]
                rw [tLen_n, ilt_f (by omega), br_f]
                exact ⟨_, _, rfl, by simp only; omega, h3, by simp only; omega⟩
              | succ d ih =>
                intro K rows right hd hK h1 h3
                obtain ⟨K, rfl⟩ := succ_of hK
                simp only [Zq69_l1]
                rw [tLen_n, ilt_t (by omega), br_t, room_ok (by simp; omega), chk_t, room_ok (by simp; omega), chk_t]
                refine ih K _ _ (by simp [tApp_d]; omega) (by omega) (by simp [tApp_d]; omega) fun x hx => ?_
                rw [tApp_d] at hx
                rcases List.mem_append.1 hx with hx | hx
                · exact h3 x hx
                · rw [List.mem_singleton.1 hx]; simp
            exact go (7 - rows.length) N rows right (by omega) (by omega) h1 h3
          · rw [ieq_f e3, br_f]
            exact ⟨_, _, rfl, by simp only; omega, h3, by simp only; omega⟩
  · rw [tLen_n, ilt_f (by omega), br_f]
    exact ⟨_, _, rfl, by simp only; omega, h3, by simp only; omega⟩
theorem parity_ok {N : Nat} {code : List Int} {k : Nat} {c : List Int × (Int × Int)} (hco : codeOk code) (hN : 1048577 ≤ N) (h : CurOk code k c) (hk : k ≤ 5000) : ∃ p c', Zq69 N c = some ((p, ()), (c', ())) ∧ smallP p := by
  unfold Zq69
  obtain ⟨vars, c1, a1, a2, a3⟩ := among_ok (N := N) hco h (by omega) (l := [4, 3, 5, 6, 2, 1, 0]) (by simp)
  rw [a1, bind_some']
  simp only []
  obtain ⟨n, c2, b1, b2, b3⟩ := among_ok (N := N) hco a2 (by omega) (l := [1, 2, 3, 0, 6]) (by simp)
  rw [b1, bind_some']
  simp only []
  obtain ⟨m, rfl, hm⟩ : ∃ m : Nat, vars = (m : Int) ∧ m ≤ 6 := ⟨vars.toNat, by simp at a3; omega, by simp at a3; omega⟩
  obtain ⟨d, rfl, hd⟩ : ∃ d : Nat, n = (d : Int) ∧ d ≤ 6 := ⟨n.toNat, by simp at b3; omega, by simp at b3; omega⟩
  have go : ∀ (d K : Nat) (k : Nat) (c : List Int × (Int × Int)) (rows : List (List Int)) (right : List Int), CurOk code k c → k + 10 * d ≤ 10000 → rows.length + d ≤ 6 → d < K → rows.length = right.length → (∀ x ∈ rows, x.length ≤ 20) →
      ∃ p c', Zq69_l0 N (fun o o1 o2 o3 o4 => parTail N o o1 o2 o3 o4) K (d : Int) c 0 (m : Int) rows right = some ((p, ()), (c', ())) ∧ smallP p := by
    intro d
    induction d with
    | zero =>
      intro K k c rows right hc hk h2 hK h1 h3
      obtain ⟨K, rfl⟩ := succ_of hK
      simp only [Zq69_l0]
      rw [ilt_f (by omega), br_f]
      exact parTail_ok hco hN hc (by omega) h1 (by omega) h3
    | succ d ih =>
      intro K k c rows right hc hk h2 hK h1 h3
      obtain ⟨K, rfl⟩ := succ_of hK
      simp only [Zq69_l0]
      rw [ilt_t (by omega), br_t, show ((c.1, (c.2.1, c.2.2)) : List Int × (Int × Int)) = c from rfl]
      obtain ⟨x, c3, d1, d2, d3, d4, d5⟩ := pick_ok (N := N) hco hc (by omega) 64
      have d5 := d5 (by omega)
      obtain ⟨a, rfl⟩ : ∃ a : Nat, x = (a : Int) := ⟨x.toNat, by omega⟩
      rw [d1, bind_some']
      simp only []
      rw [l2Bits_set (by omega) (by omega) hN, bind_some']
      simp only []
      rw [room_ok (by simp; omega), chk_t, show ((c3.1, (c3.2.1, c3.2.2)) : List Int × (Int × Int)) = c3 from rfl]
      obtain ⟨y, c4, f1, f2, _⟩ := pick_ok (N := N) hco d2 (by omega) 2
      rw [f1, bind_some']
      simp only []
      rw [room_ok (by simp; omega), chk_t, wrap_ok (by omega) (by omega), show ((d + 1 : Nat) : Int) - 1 = (d : Int) by omega]
      refine ih K _ c4 _ _ f2 (by omega) (by simp [tApp_d]; omega) (by omega) (by simp [tApp_d]; omega) fun x hx => ?_
      rw [tApp_d] at hx
      rcases List.mem_append.1 hx with hx | hx
      · exact h3 x hx
      · rw [List.mem_singleton.1 hx]
        have := setOf_len m a
        omega
  exact go d N _ c2 [] [] b2 (by omega) (by simp; omega) (by omega) rfl (by simp)
theorem DrawPar_ok {N : Nat} {code : List Int} (hco : codeOk code) (hN : 1048577 ≤ N) : ∃ p : Int × (List (List Int) × List Int), Zq63 N code = some (((p.1, (p.2.1, p.2.2)), ()), ()) ∧ smallP p := by
  unfold Zq63 Zq62
  obtain ⟨p, c', e1, e2⟩ := parity_ok (N := N) hco hN cur0 (by omega)
  rw [e1, bind_some', bind_some']
  exact ⟨p, rfl, e2⟩
theorem Parities_pure {N : Nat} (hNe : N = 1048577) {code : List Int} (hw : ∀ y ∈ code, (Lit.int .u8 y).wf = true) : Zq40 N code = some ((true, ()), ()) := by
  have hN : 1048577 ≤ N := by omega
  unfold Zq40 Zq41
  rw [bind_some']
  simp only []
  rw [tLen_n]
  by_cases hb : 65536 < code.length
  · rw [ilt_t (by omega), br_t]
  · rw [ilt_f (by omega), br_f]
    have hco := code_ok hw (by omega)
    obtain ⟨p, d1, d2, d3, d4⟩ := DrawPar_ok (N := N) hco hN
    have hx : p.2.1.length ≤ 1048576 := by omega
    have hxs : ∀ x ∈ p.2.1, x.length ≤ 1048576 := fun x h => by have := d3 x h; omega
    have hy : p.2.2.length ≤ 1048576 := by omega
    rw [d1, bind_some']
    simp only [show ((p.1, (p.2.1, p.2.2)) : Int × (List (List Int) × List Int)) = p from rfl]
    obtain ⟨g0, g1, g2⟩ := ParitySpace_both hNe hx hxs hy
    have l1 := Zq64_eq hx hxs hy hN
    have l2 := Zq13_eq hx hxs hy hN
    have f1 := Zq65_eq hNe hx hxs hy
    have f2 := Zq15_eq hNe hx hxs hy
    have i1 := Zq10_eq hx hxs hy hN
    have hll := looseR_len p
    obtain ⟨s1, s2⟩ := parF_small (p := p)
    simp only [g1, g2, bind_some', i1, l1, l2, f1, f2, show (((parV p).1.1, (parV p).1.2) : List (List Int) × List (Int × Int)) = (parV p).1 from rfl, rSpace_self g0 hN, rInts_eq (show (looseR p).1.length ≤ 1099511627776 by omega) (show (looseR p).1.length < N by omega), rTable_eq (show (parF p).1.2.length ≤ 1048576 by omega) s2 hN, show (((parF p).1.1, (parF p).1.2) : Int × List (List Int)) = (parF p).1 from rfl, beq_self_eq_true, decide_true, Bool.not_true, br_f]
    rw [ine_f rfl, br_f]
    by_cases hp : goodP p
    · have v1 : (parV p) = ((parX p, stepsL isCh (parX p)), true) := by unfold parV; rw [if_pos hp]; rfl
      have v2 : (looseR p).2 = true := by unfold looseR; rw [if_pos hp]
      have v3 : (parF p).2 = true := by unfold parF; rw [if_pos hp]
      rw [v1, v2, v3, decide_eq_true hp, par_IsClosed hp hN]
      simp only [beq_self_eq_true, Bool.not_true, br_f, bind_some']
      have := par_l0 hp hN (parX p).length 0 N (by omega) (by
        have := (sols_ok (m := p.1.toNat) (by have := hp.1; omega) (evenB p)).2.2.1
        have : (parX p).length ≤ 64 := this
        omega)
      exact this
    · have v1 : (parV p).2 = false := by unfold parV; rw [if_neg hp]
      have v2 : (looseR p).2 = false := by unfold looseR; rw [if_neg hp]
      have v3 : (parF p).2 = false := by unfold parF; rw [if_neg hp]
      rw [v1, v2, v3, decide_eq_false hp]
      rfl
theorem Parities_pureT : ∀ x : argsT (psOf [LU8]), WfA [LU8] x → ∃ k m, (Zq40_S k).f x = some ((true, ()), m) :=
  fun x h => ⟨1048577, (), Parities_pure rfl h.1.2⟩
end Go.Proofs.YtfilchmabmfmaaaGreat
