/- Functions of the program as functions on data. -/
import Derived.Test.YtfbkjgeaoafejaaColourSpaceFc
set_option linter.all false
namespace Go.Proofs.Ytfbkjgeaoafejaa
open Go Go.PV
/-! ### laws_FnExactColourSpace -/
abbrev laws_FnExactColourSpace_ps : List (PV.Mode × Ty) := [(.ro, QILQII), (.ro, I)]
abbrev laws_FnExactColourSpace_rs : List (Bool × Ty) := [(true, .bool)]
noncomputable def laws_FnExactColourSpace_G (N : Nat) : GTab := gOf [(15, laws_szGraph_S N), (17, laws_toGraph_S N), (55, spec_ColourSpace_S N), (56, impl_ColourSpace_S N), (44, laws_eqSpace_S N), (20, laws_eqGraph_S N), (21, laws_markGraph_S N), (47, laws_markSpace_S N), (48, laws_heldSpace_S N)]
theorem laws_FnExactColourSpace_gok (N : Nat) : GOk Try.prog (laws_FnExactColourSpace_G N) := gOf_ok ⟨laws_szGraph_pc N, laws_toGraph_pc N, spec_ColourSpace_pc N, impl_ColourSpace_pc N, laws_eqSpace_pc N, laws_eqGraph_pc N, laws_markGraph_pc N, laws_markSpace_pc N, laws_heldSpace_pc N, trivial⟩
noncomputable def laws_FnExactColourSpace_code : Code := (Try.f12.body).getD .skip
noncomputable def laws_FnExactColourSpace (N : Nat) (c : (Int × (List (Int × Int)))) (c1 : Int) : Option ((Bool × Unit) × (Unit)) :=
  ((laws_szGraph N (c.1, c.2) 1048576).bind fun r =>
    (br (ilt r.1.1 0)
      (some ((true, ()), ()))
      (((laws_toGraph N (c.1, c.2)).bind fun r1 =>
        ((spec_ColourSpace N (r1.1.1.1, r1.1.1.2) c1).bind fun r2 =>
          ((laws_toGraph N (c.1, c.2)).bind fun r3 =>
            ((impl_ColourSpace N (r3.1.1.1, r3.1.1.2) c1).bind fun r4 =>
              ((laws_eqSpace N (r4.1.1.1, r4.1.1.2) (r2.1.1.1, r2.1.1.2)).bind fun r5 =>
                (br (!r5.1.1)
                  (some ((false, ()), ()))
                  ((br (!(r4.1.2.1 == r2.1.2.1))
                    (some ((false, ()), ()))
                    (((laws_toGraph N (c.1, c.2)).bind fun r6 =>
                      ((laws_eqGraph N (r3.1.1.1, r3.1.1.2) (r6.1.1.1, r6.1.1.2)).bind fun r7 =>
                        (br (!r7.1.1)
                          (some ((false, ()), ()))
                          (((laws_markGraph N (r3.1.1.1, r3.1.1.2) 1).bind fun r8 =>
                            (br (ilt r8.1.1 0)
                              (some ((false, ()), ()))
                              (((laws_eqSpace N (r4.1.1.1, r4.1.1.2) (r2.1.1.1, r2.1.1.2)).bind fun r9 =>
                                (br (!r9.1.1)
                                  (some ((false, ()), ()))
                                  ((br (!(r4.1.2.1 == r2.1.2.1))
                                    (some ((false, ()), ()))
                                    (((laws_markSpace N (r4.1.1.1, r4.1.1.2) 1).bind fun r10 =>
                                      ((laws_heldSpace N (r10.2.1.1, r10.2.1.2) 1).bind fun r11 =>
                                        (br (ilt r11.1.1 0)
                                          (some ((false, ()), ()))
                                          ((br (ine r11.1.1 r10.1.1)
                                            (some ((false, ()), ()))
                                            (((laws_toGraph N (c.1, c.2)).bind fun r12 =>
                                              ((impl_ColourSpace N (r12.1.1.1, r12.1.1.2) c1).bind fun r13 =>
                                                ((laws_eqSpace N (r13.1.1.1, r13.1.1.2) (r2.1.1.1, r2.1.1.2)).bind fun r14 =>
                                                  (br (!r14.1.1)
                                                    (some ((false, ()), ()))
                                                    ((br (!(r13.1.2.1 == r2.1.2.1))
                                                      (some ((false, ()), ()))
                                                      (((laws_heldSpace N (r10.2.1.1, r10.2.1.2) 1).bind fun r15 =>
                                                        (br (ilt r15.1.1 0)
                                                          (some ((false, ()), ()))
                                                          ((br (ine r15.1.1 r10.1.1)
                                                            (some ((false, ()), ()))
                                                            (some ((true, ()), ())))))))))))))))))))))))))))))))))))))))))))
noncomputable def laws_FnExactColourSpace_S (N : Nat) : FSum := ⟨laws_FnExactColourSpace_ps, laws_FnExactColourSpace_rs, fun x => laws_FnExactColourSpace N x.1 x.2.1⟩
theorem laws_FnExactColourSpace_run (N : Nat) (x : argsT laws_FnExactColourSpace_ps) : laws_FnExactColourSpace N x.1 x.2.1 = funF (laws_FnExactColourSpace_G N) tab [] Try.f12 laws_FnExactColourSpace_ps laws_FnExactColourSpace_rs x := by kernel_rfl
theorem laws_FnExactColourSpace_pc (N : Nat) : PC Try.prog 12 (laws_FnExactColourSpace_S N) := by
  have e : laws_FnExactColourSpace_S N = ⟨laws_FnExactColourSpace_ps, laws_FnExactColourSpace_rs, funF (laws_FnExactColourSpace_G N) tab [] Try.f12 laws_FnExactColourSpace_ps laws_FnExactColourSpace_rs⟩ := congrArg (FSum.mk laws_FnExactColourSpace_ps laws_FnExactColourSpace_rs) (funext (laws_FnExactColourSpace_run N))
  rw [e]
  exact fun_ok (c := laws_FnExactColourSpace_code) progOk (laws_FnExactColourSpace_gok N) (draw_ok progOk (laws_FnExactColourSpace_gok N)) Try.call12 Try.func12 (by kernel_rfl) (lsOk_at (L := []) trivial) (by kernel_rfl) (by kernel_rfl) (by kernel_rfl) (by kernel_rfl) (by kernel_rfl)
end Go.Proofs.Ytfbkjgeaoafejaa
