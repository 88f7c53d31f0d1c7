/- Functions of the program as functions on data. -/
import Derived.Test.YtbnebekejbhopaaIsSolutionFa
set_option linter.all false
namespace Go.Proofs.Ytbnebekejbhopaa
open Go Go.PV
/-! ### impl_IsSolution -/
noncomputable def impl_IsSolution_G (N : Nat) : GTab := gOf [(22, impl_IsFormula_S N), (57, impl_isAssignment_S N), (71, impl_Formula_solves_S N)]
theorem impl_IsSolution_gok (N : Nat) : GOk Try.prog (impl_IsSolution_G N) := gOf_ok ⟨impl_IsFormula_pc N, impl_isAssignment_pc N, impl_Formula_solves_pc N, trivial⟩
noncomputable def impl_IsSolution_code : Code := (Try.f32.body).getD .skip
noncomputable def impl_IsSolution (N : Nat) (f : (Int × (List (List Int)))) (bits : (List Int)) : Option ((Bool × Bool × Unit) × (Unit)) :=
  ((impl_IsFormula N (f.1, f.2)).bind fun r =>
    (br (!r.1.1)
      (some ((false, false, ()), ()))
      (((impl_isAssignment N f.1 bits).bind fun r1 =>
        (br (!r1.1.1)
          (some ((false, false, ()), ()))
          (((impl_Formula_solves N (f.1, f.2) bits).bind fun r2 =>
            some ((r2.1.1, true, ()), ()))))))))
abbrev impl_IsSolution_ps : List (PV.Mode × Ty) := [(.ro, QILLI), (.ro, LI)]
abbrev impl_IsSolution_rs : List (Bool × Ty) := [(true, .bool), (true, .bool)]
noncomputable def impl_IsSolution_S (N : Nat) : FSum := ⟨impl_IsSolution_ps, impl_IsSolution_rs, fun x => impl_IsSolution N x.1 x.2.1⟩
theorem impl_IsSolution_run (N : Nat) (x : argsT impl_IsSolution_ps) : impl_IsSolution N x.1 x.2.1 = funF (impl_IsSolution_G N) tab [] Try.f32 impl_IsSolution_ps impl_IsSolution_rs x := by kernel_rfl
theorem impl_IsSolution_pc (N : Nat) : PC Try.prog 32 (impl_IsSolution_S N) := by
  have e : impl_IsSolution_S N = ⟨impl_IsSolution_ps, impl_IsSolution_rs, funF (impl_IsSolution_G N) tab [] Try.f32 impl_IsSolution_ps impl_IsSolution_rs⟩ := congrArg (FSum.mk impl_IsSolution_ps impl_IsSolution_rs) (funext (impl_IsSolution_run N))
  rw [e]
  exact fun_ok (c := impl_IsSolution_code) progOk (impl_IsSolution_gok N) (draw_ok progOk (impl_IsSolution_gok N)) Try.call32 Try.func32 (by kernel_rfl) (lsOk_at (L := []) trivial) (by kernel_rfl) (by kernel_rfl) (by kernel_rfl) (by kernel_rfl) (by kernel_rfl)

/-! ### laws_eqIntS -/
noncomputable def laws_eqIntS_G (N : Nat) : GTab := gOf []
theorem laws_eqIntS_gok (N : Nat) : GOk Try.prog (laws_eqIntS_G N) := gOf_ok trivial
noncomputable def laws_eqIntS_code : Code := (Try.f18.body).getD .skip
noncomputable def laws_eqIntS_l0_sh : Sh := ⟨[(0, .one (.ro LI)), (1, .one (.ro LI)), (5, .one (.ro I))], []⟩
noncomputable def laws_eqIntS_l0_ex : List (Ex × Sh) := [(.ret, ⟨[(4, .one (.ro .bool))], []⟩), (.exit 0, ⟨[], []⟩)]
noncomputable def laws_eqIntS_l0 {R : Type} (N : Nat) (k0 : Bool → Option R) (k1 : Unit → Option R) : Nat → (List Int) → (List Int) → Int → Option R
  | 0, _, _, _ => none
  | K + 1, a1, b1, i =>
    (br (ilt i (tLen a1))
      ((chk (inb a1 i)
        (chk (inb b1 i)
        (br (ine (rdI a1 i) (rdI b1 i))
        (k0 false)
        (laws_eqIntS_l0 N k0 k1 K a1 b1 (IntKind.i64.wrap (i + 1)))))))
      (k1 ()))
noncomputable def laws_eqIntS_l0_again {R : Type} (N : Nat) (ks : (j : Nat) → ((laws_eqIntS_l0_ex.getD j (.ret, Sh.none)).2).T → Option R) (k : Nat) (x : laws_eqIntS_l0_sh.T) : Option R :=
  laws_eqIntS_l0 N (fun y0 => ks 0 ((y0, ()), ())) (fun (_ : Unit) => ks 1 ((), ())) k x.1.1 x.1.2.1 x.1.2.2.1
noncomputable def laws_eqIntS_l0_s (N : Nat) : LSum := ⟨laws_eqIntS_l0_sh, laws_eqIntS_l0_ex, fun x ks => laws_eqIntS_l0_again N ks N x⟩
theorem laws_eqIntS_l0_step (N : Nat) (R : Type) (k : Nat) (x : laws_eqIntS_l0_sh.T) (ks : (j : Nat) → ((laws_eqIntS_l0_ex.getD j (.ret, Sh.none)).2).T → Option R) : laws_eqIntS_l0_again N ks (k + 1) x = roundF (laws_eqIntS_G N) tab [] (loopAt laws_eqIntS_code 0) laws_eqIntS_l0_sh laws_eqIntS_l0_ex (fun y => laws_eqIntS_l0_again N ks k y) ks x := by kernel_rfl
theorem laws_eqIntS_l0_ok (N : Nat) : LoopOk Try.prog Try.f18.ntmps (laws_eqIntS_l0_s N) (loopAt laws_eqIntS_code 0) :=
  loop_ok (l := laws_eqIntS_l0_s N) progOk (laws_eqIntS_gok N) (draw_ok progOk (laws_eqIntS_gok N)) (fun R k x ks => laws_eqIntS_l0_again N ks k x) (fun _ _ _ => rfl) (fun R k x ks => laws_eqIntS_l0_step N R k x ks) (fun R x ks r h => ⟨N, h⟩) (lsOk_at (L := []) trivial) (by kernel_rfl) (by kernel_rfl)
noncomputable def laws_eqIntS (N : Nat) (a : (List Int)) (b : (List Int)) : Option ((Bool × Unit) × (Unit)) :=
  (br (ine (tLen a) (tLen b))
    (some ((false, ()), ()))
    (laws_eqIntS_l0 N (fun x => some ((x, ()), ())) (fun (_ : Unit) => some ((true, ()), ())) N a b 0))
abbrev laws_eqIntS_ps : List (PV.Mode × Ty) := [(.ro, LI), (.ro, LI)]
abbrev laws_eqIntS_rs : List (Bool × Ty) := [(true, .bool)]
noncomputable def laws_eqIntS_S (N : Nat) : FSum := ⟨laws_eqIntS_ps, laws_eqIntS_rs, fun x => laws_eqIntS N x.1 x.2.1⟩
theorem laws_eqIntS_run (N : Nat) (x : argsT laws_eqIntS_ps) : laws_eqIntS N x.1 x.2.1 = funF (laws_eqIntS_G N) tab [laws_eqIntS_l0_s N] Try.f18 laws_eqIntS_ps laws_eqIntS_rs x := by kernel_rfl
theorem laws_eqIntS_pc (N : Nat) : PC Try.prog 18 (laws_eqIntS_S N) := by
  have e : laws_eqIntS_S N = ⟨laws_eqIntS_ps, laws_eqIntS_rs, funF (laws_eqIntS_G N) tab [laws_eqIntS_l0_s N] Try.f18 laws_eqIntS_ps laws_eqIntS_rs⟩ := congrArg (FSum.mk laws_eqIntS_ps laws_eqIntS_rs) (funext (laws_eqIntS_run N))
  rw [e]
  exact fun_ok (c := laws_eqIntS_code) progOk (laws_eqIntS_gok N) (draw_ok progOk (laws_eqIntS_gok N)) Try.call18 Try.func18 (by kernel_rfl) (lsOk_at (L := [laws_eqIntS_l0_s N]) ⟨laws_eqIntS_l0_ok N, trivial⟩) (by kernel_rfl) (by kernel_rfl) (by kernel_rfl) (by kernel_rfl) (by kernel_rfl)

/-! ### laws_eqIntSS -/
noncomputable def laws_eqIntSS_G (N : Nat) : GTab := gOf [(18, laws_eqIntS_S N)]
theorem laws_eqIntSS_gok (N : Nat) : GOk Try.prog (laws_eqIntSS_G N) := gOf_ok ⟨laws_eqIntS_pc N, trivial⟩
noncomputable def laws_eqIntSS_code : Code := (Try.f63.body).getD .skip
noncomputable def laws_eqIntSS_l0_sh : Sh := ⟨[(0, .one (.ro LLI)), (1, .one (.ro LLI)), (5, .one (.ro I))], []⟩
noncomputable def laws_eqIntSS_l0_ex : List (Ex × Sh) := [(.ret, ⟨[(4, .one (.ro .bool))], []⟩), (.exit 0, ⟨[], []⟩)]
noncomputable def laws_eqIntSS_l0 {R : Type} (N : Nat) (k0 : Bool → Option R) (k1 : Unit → Option R) : Nat → (List (List Int)) → (List (List Int)) → Int → Option R
  | 0, _, _, _ => none
  | K + 1, a1, b1, i =>
    (br (ilt i (tLen a1))
      ((chk (inb a1 i)
        (chk (inb b1 i)
        ((laws_eqIntS N (rdL a1 i) (rdL b1 i)).bind fun r =>
        (br (!r.1.1)
          (k0 false)
          (laws_eqIntSS_l0 N k0 k1 K a1 b1 (IntKind.i64.wrap (i + 1))))))))
      (k1 ()))
noncomputable def laws_eqIntSS_l0_again {R : Type} (N : Nat) (ks : (j : Nat) → ((laws_eqIntSS_l0_ex.getD j (.ret, Sh.none)).2).T → Option R) (k : Nat) (x : laws_eqIntSS_l0_sh.T) : Option R :=
  laws_eqIntSS_l0 N (fun y0 => ks 0 ((y0, ()), ())) (fun (_ : Unit) => ks 1 ((), ())) k x.1.1 x.1.2.1 x.1.2.2.1
noncomputable def laws_eqIntSS_l0_s (N : Nat) : LSum := ⟨laws_eqIntSS_l0_sh, laws_eqIntSS_l0_ex, fun x ks => laws_eqIntSS_l0_again N ks N x⟩
theorem laws_eqIntSS_l0_step (N : Nat) (R : Type) (k : Nat) (x : laws_eqIntSS_l0_sh.T) (ks : (j : Nat) → ((laws_eqIntSS_l0_ex.getD j (.ret, Sh.none)).2).T → Option R) : laws_eqIntSS_l0_again N ks (k + 1) x = roundF (laws_eqIntSS_G N) tab [] (loopAt laws_eqIntSS_code 0) laws_eqIntSS_l0_sh laws_eqIntSS_l0_ex (fun y => laws_eqIntSS_l0_again N ks k y) ks x := by kernel_rfl
theorem laws_eqIntSS_l0_ok (N : Nat) : LoopOk Try.prog Try.f63.ntmps (laws_eqIntSS_l0_s N) (loopAt laws_eqIntSS_code 0) :=
  loop_ok (l := laws_eqIntSS_l0_s N) progOk (laws_eqIntSS_gok N) (draw_ok progOk (laws_eqIntSS_gok N)) (fun R k x ks => laws_eqIntSS_l0_again N ks k x) (fun _ _ _ => rfl) (fun R k x ks => laws_eqIntSS_l0_step N R k x ks) (fun R x ks r h => ⟨N, h⟩) (lsOk_at (L := []) trivial) (by kernel_rfl) (by kernel_rfl)
noncomputable def laws_eqIntSS (N : Nat) (a : (List (List Int))) (b : (List (List Int))) : Option ((Bool × Unit) × (Unit)) :=
  (br (ine (tLen a) (tLen b))
    (some ((false, ()), ()))
    (laws_eqIntSS_l0 N (fun x => some ((x, ()), ())) (fun (_ : Unit) => some ((true, ()), ())) N a b 0))
abbrev laws_eqIntSS_ps : List (PV.Mode × Ty) := [(.ro, LLI), (.ro, LLI)]
abbrev laws_eqIntSS_rs : List (Bool × Ty) := [(true, .bool)]
noncomputable def laws_eqIntSS_S (N : Nat) : FSum := ⟨laws_eqIntSS_ps, laws_eqIntSS_rs, fun x => laws_eqIntSS N x.1 x.2.1⟩
theorem laws_eqIntSS_run (N : Nat) (x : argsT laws_eqIntSS_ps) : laws_eqIntSS N x.1 x.2.1 = funF (laws_eqIntSS_G N) tab [laws_eqIntSS_l0_s N] Try.f63 laws_eqIntSS_ps laws_eqIntSS_rs x := by kernel_rfl
theorem laws_eqIntSS_pc (N : Nat) : PC Try.prog 63 (laws_eqIntSS_S N) := by
  have e : laws_eqIntSS_S N = ⟨laws_eqIntSS_ps, laws_eqIntSS_rs, funF (laws_eqIntSS_G N) tab [laws_eqIntSS_l0_s N] Try.f63 laws_eqIntSS_ps laws_eqIntSS_rs⟩ := congrArg (FSum.mk laws_eqIntSS_ps laws_eqIntSS_rs) (funext (laws_eqIntSS_run N))
  rw [e]
  exact fun_ok (c := laws_eqIntSS_code) progOk (laws_eqIntSS_gok N) (draw_ok progOk (laws_eqIntSS_gok N)) Try.call63 Try.func63 (by kernel_rfl) (lsOk_at (L := [laws_eqIntSS_l0_s N]) ⟨laws_eqIntSS_l0_ok N, trivial⟩) (by kernel_rfl) (by kernel_rfl) (by kernel_rfl) (by kernel_rfl) (by kernel_rfl)

/-! ### laws_eqFormula -/
noncomputable def laws_eqFormula_G (N : Nat) : GTab := gOf [(63, laws_eqIntSS_S N)]
theorem laws_eqFormula_gok (N : Nat) : GOk Try.prog (laws_eqFormula_G N) := gOf_ok ⟨laws_eqIntSS_pc N, trivial⟩
noncomputable def laws_eqFormula_code : Code := (Try.f23.body).getD .skip
noncomputable def laws_eqFormula (N : Nat) (a : (Int × (List (List Int)))) (b : (Int × (List (List Int)))) : Option ((Bool × Unit) × (Unit)) :=
  (br (ine a.1 b.1)
    (some ((false, ()), ()))
    (((laws_eqIntSS N a.2 b.2).bind fun r =>
      (br (!r.1.1)
        (some ((false, ()), ()))
        (some ((true, ()), ()))))))
abbrev laws_eqFormula_ps : List (PV.Mode × Ty) := [(.ro, QILLI), (.ro, QILLI)]
abbrev laws_eqFormula_rs : List (Bool × Ty) := [(true, .bool)]
noncomputable def laws_eqFormula_S (N : Nat) : FSum := ⟨laws_eqFormula_ps, laws_eqFormula_rs, fun x => laws_eqFormula N x.1 x.2.1⟩
theorem laws_eqFormula_run (N : Nat) (x : argsT laws_eqFormula_ps) : laws_eqFormula N x.1 x.2.1 = funF (laws_eqFormula_G N) tab [] Try.f23 laws_eqFormula_ps laws_eqFormula_rs x := by kernel_rfl
theorem laws_eqFormula_pc (N : Nat) : PC Try.prog 23 (laws_eqFormula_S N) := by
  have e : laws_eqFormula_S N = ⟨laws_eqFormula_ps, laws_eqFormula_rs, funF (laws_eqFormula_G N) tab [] Try.f23 laws_eqFormula_ps laws_eqFormula_rs⟩ := congrArg (FSum.mk laws_eqFormula_ps laws_eqFormula_rs) (funext (laws_eqFormula_run N))
  rw [e]
  exact fun_ok (c := laws_eqFormula_code) progOk (laws_eqFormula_gok N) (draw_ok progOk (laws_eqFormula_gok N)) Try.call23 Try.func23 (by kernel_rfl) (lsOk_at (L := []) trivial) (by kernel_rfl) (by kernel_rfl) (by kernel_rfl) (by kernel_rfl) (by kernel_rfl)

/-! ### laws_FnExactIsSolution -/
noncomputable def laws_FnExactIsSolution_G (N : Nat) : GTab := gOf [(19, laws_szFormula_S N), (21, laws_toFormula_S N), (16, laws_toIntS_S N), (31, spec_IsSolution_S N), (32, impl_IsSolution_S N), (23, laws_eqFormula_S N), (18, laws_eqIntS_S N)]
theorem laws_FnExactIsSolution_gok (N : Nat) : GOk Try.prog (laws_FnExactIsSolution_G N) := gOf_ok ⟨laws_szFormula_pc N, laws_toFormula_pc N, laws_toIntS_pc N, spec_IsSolution_pc N, impl_IsSolution_pc N, laws_eqFormula_pc N, laws_eqIntS_pc N, trivial⟩
noncomputable def laws_FnExactIsSolution_code : Code := (Try.f7.body).getD .skip
noncomputable def laws_FnExactIsSolution (N : Nat) (aF : (Int × (List (List Int)))) (aBits : (List Int)) : Option ((Bool × Unit) × (Unit)) :=
  (br (ilt 1048576 (tLen aBits))
    (some ((true, ()), ()))
    (((laws_szFormula N (aF.1, aF.2) 1048576).bind fun r =>
      (br (ilt r.1.1 0)
        (some ((true, ()), ()))
        (((laws_toFormula N (aF.1, aF.2)).bind fun r1 =>
          ((laws_toIntS N aBits).bind fun r2 =>
            ((spec_IsSolution N (r1.1.1.1, r1.1.1.2) r2.1.1).bind fun r3 =>
              ((laws_toFormula N (aF.1, aF.2)).bind fun r4 =>
                ((laws_toIntS N aBits).bind fun r5 =>
                  ((impl_IsSolution N (r4.1.1.1, r4.1.1.2) r5.1.1).bind fun r6 =>
                    (br (!(r6.1.1 == r3.1.1))
                      (some ((false, ()), ()))
                      ((br (!(r6.1.2.1 == r3.1.2.1))
                        (some ((false, ()), ()))
                        (((laws_toFormula N (aF.1, aF.2)).bind fun r7 =>
                          ((laws_eqFormula N (r4.1.1.1, r4.1.1.2) (r7.1.1.1, r7.1.1.2)).bind fun r8 =>
                            (br (!r8.1.1)
                              (some ((false, ()), ()))
                              (((laws_toIntS N aBits).bind fun r9 =>
                                ((laws_eqIntS N r5.1.1 r9.1.1).bind fun r10 =>
                                  (br (!r10.1.1)
                                    (some ((false, ()), ()))
                                    (some ((true, ()), ()))))))))))))))))))))))))
abbrev laws_FnExactIsSolution_ps : List (PV.Mode × Ty) := [(.ro, QILLI), (.ro, LI)]
abbrev laws_FnExactIsSolution_rs : List (Bool × Ty) := [(true, .bool)]
noncomputable def laws_FnExactIsSolution_S (N : Nat) : FSum := ⟨laws_FnExactIsSolution_ps, laws_FnExactIsSolution_rs, fun x => laws_FnExactIsSolution N x.1 x.2.1⟩
theorem laws_FnExactIsSolution_run (N : Nat) (x : argsT laws_FnExactIsSolution_ps) : laws_FnExactIsSolution N x.1 x.2.1 = funF (laws_FnExactIsSolution_G N) tab [] Try.f7 laws_FnExactIsSolution_ps laws_FnExactIsSolution_rs x := by kernel_rfl
theorem laws_FnExactIsSolution_pc (N : Nat) : PC Try.prog 7 (laws_FnExactIsSolution_S N) := by
  have e : laws_FnExactIsSolution_S N = ⟨laws_FnExactIsSolution_ps, laws_FnExactIsSolution_rs, funF (laws_FnExactIsSolution_G N) tab [] Try.f7 laws_FnExactIsSolution_ps laws_FnExactIsSolution_rs⟩ := congrArg (FSum.mk laws_FnExactIsSolution_ps laws_FnExactIsSolution_rs) (funext (laws_FnExactIsSolution_run N))
  rw [e]
  exact fun_ok (c := laws_FnExactIsSolution_code) progOk (laws_FnExactIsSolution_gok N) (draw_ok progOk (laws_FnExactIsSolution_gok N)) Try.call7 Try.func7 (by kernel_rfl) (lsOk_at (L := []) trivial) (by kernel_rfl) (by kernel_rfl) (by kernel_rfl) (by kernel_rfl) (by kernel_rfl)
end Go.Proofs.Ytbnebekejbhopaa
