/- Functions of the program as functions on data. -/
import Derived.Test.YtbnebekejbhopaaFixVarFa
set_option linter.all false
namespace Go.Proofs.Ytbnebekejbhopaa
open Go Go.PV
/-! ### laws_FnExactFixVar -/
noncomputable def laws_FnExactFixVar_G (N : Nat) : GTab := gOf [(19, laws_szFormula_S N), (21, laws_toFormula_S N), (38, spec_FixVar_S N), (39, impl_FixVar_S N), (23, laws_eqFormula_S N), (40, laws_markFormula_S N), (41, laws_heldFormula_S N)]
theorem laws_FnExactFixVar_gok (N : Nat) : GOk Try.prog (laws_FnExactFixVar_G N) := gOf_ok ⟨laws_szFormula_pc N, laws_toFormula_pc N, spec_FixVar_pc N, impl_FixVar_pc N, laws_eqFormula_pc N, laws_markFormula_pc N, laws_heldFormula_pc N, trivial⟩
noncomputable def laws_FnExactFixVar_code : Code := (Try.f9.body).getD .skip
noncomputable def laws_FnExactFixVar (N : Nat) (c : (Int × (List (List Int)))) (c1 : Int) (c2 : Int) : Option ((Bool × Unit) × (Unit)) :=
  ((laws_szFormula N (c.1, c.2) 1048576).bind fun r =>
    (br (ilt r.1.1 0)
      (some ((true, ()), ()))
      (((laws_toFormula N (c.1, c.2)).bind fun r1 =>
        ((spec_FixVar N (r1.1.1.1, r1.1.1.2) c1 c2).bind fun r2 =>
          ((laws_toFormula N (c.1, c.2)).bind fun r3 =>
            ((impl_FixVar N (r3.1.1.1, r3.1.1.2) c1 c2).bind fun r4 =>
              ((laws_eqFormula N (r4.1.1.1, r4.1.1.2) (r2.1.1.1, r2.1.1.2)).bind fun r5 =>
                (br (!r5.1.1)
                  (some ((false, ()), ()))
                  ((br (!(r4.1.2.1 == r2.1.2.1))
                    (some ((false, ()), ()))
                    (((laws_toFormula N (c.1, c.2)).bind fun r6 =>
                      ((laws_eqFormula N (r3.1.1.1, r3.1.1.2) (r6.1.1.1, r6.1.1.2)).bind fun r7 =>
                        (br (!r7.1.1)
                          (some ((false, ()), ()))
                          (((laws_markFormula N (r3.1.1.1, r3.1.1.2) 1).bind fun r8 =>
                            (br (ilt r8.1.1 0)
                              (some ((false, ()), ()))
                              (((laws_eqFormula N (r4.1.1.1, r4.1.1.2) (r2.1.1.1, r2.1.1.2)).bind fun r9 =>
                                (br (!r9.1.1)
                                  (some ((false, ()), ()))
                                  ((br (!(r4.1.2.1 == r2.1.2.1))
                                    (some ((false, ()), ()))
                                    (((laws_markFormula N (r4.1.1.1, r4.1.1.2) 1).bind fun r10 =>
                                      ((laws_heldFormula N (r4.1.1.1, r10.2.1.2) 1).bind fun r11 =>
                                        (br (ilt r11.1.1 0)
                                          (some ((false, ()), ()))
                                          ((br (ine r11.1.1 r10.1.1)
                                            (some ((false, ()), ()))
                                            (((laws_toFormula N (c.1, c.2)).bind fun r12 =>
                                              ((impl_FixVar N (r12.1.1.1, r12.1.1.2) c1 c2).bind fun r13 =>
                                                ((laws_eqFormula N (r13.1.1.1, r13.1.1.2) (r2.1.1.1, r2.1.1.2)).bind fun r14 =>
                                                  (br (!r14.1.1)
                                                    (some ((false, ()), ()))
                                                    ((br (!(r13.1.2.1 == r2.1.2.1))
                                                      (some ((false, ()), ()))
                                                      (((laws_heldFormula N (r4.1.1.1, r10.2.1.2) 1).bind fun r15 =>
                                                        (br (ilt r15.1.1 0)
                                                          (some ((false, ()), ()))
                                                          ((br (ine r15.1.1 r10.1.1)
                                                            (some ((false, ()), ()))
                                                            (some ((true, ()), ())))))))))))))))))))))))))))))))))))))))))))
abbrev laws_FnExactFixVar_ps : List (PV.Mode × Ty) := [(.ro, QILLI), (.ro, I), (.ro, I)]
abbrev laws_FnExactFixVar_rs : List (Bool × Ty) := [(true, .bool)]
noncomputable def laws_FnExactFixVar_S (N : Nat) : FSum := ⟨laws_FnExactFixVar_ps, laws_FnExactFixVar_rs, fun x => laws_FnExactFixVar N x.1 x.2.1 x.2.2.1⟩
theorem laws_FnExactFixVar_run (N : Nat) (x : argsT laws_FnExactFixVar_ps) : laws_FnExactFixVar N x.1 x.2.1 x.2.2.1 = funF (laws_FnExactFixVar_G N) tab [] Try.f9 laws_FnExactFixVar_ps laws_FnExactFixVar_rs x := by kernel_rfl
theorem laws_FnExactFixVar_pc (N : Nat) : PC Try.prog 9 (laws_FnExactFixVar_S N) := by
  have e : laws_FnExactFixVar_S N = ⟨laws_FnExactFixVar_ps, laws_FnExactFixVar_rs, funF (laws_FnExactFixVar_G N) tab [] Try.f9 laws_FnExactFixVar_ps laws_FnExactFixVar_rs⟩ := congrArg (FSum.mk laws_FnExactFixVar_ps laws_FnExactFixVar_rs) (funext (laws_FnExactFixVar_run N))
  rw [e]
  exact fun_ok (c := laws_FnExactFixVar_code) progOk (laws_FnExactFixVar_gok N) (draw_ok progOk (laws_FnExactFixVar_gok N)) Try.call9 Try.func9 (by kernel_rfl) (lsOk_at (L := []) trivial) (by kernel_rfl) (by kernel_rfl) (by kernel_rfl) (by kernel_rfl) (by kernel_rfl)
end Go.Proofs.Ytbnebekejbhopaa
