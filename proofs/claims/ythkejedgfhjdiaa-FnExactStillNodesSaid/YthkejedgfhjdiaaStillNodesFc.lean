/- Functions of the program as functions on data. -/
import Derived.Test.YthkejedgfhjdiaaStillNodesFb
set_option linter.all false
namespace Go.Proofs.Ythkejedgfhjdiaa
open Go Go.PV
/-! ### laws_heldIntS -/
noncomputable def laws_heldIntS_G (N : Nat) : GTab := gOf []
theorem laws_heldIntS_gok (N : Nat) : GOk Try.prog (laws_heldIntS_G N) := gOf_ok trivial
noncomputable def laws_heldIntS_code : Code := (Try.f39.body).getD .skip
noncomputable def laws_heldIntS_l0_sh : Sh := ⟨[(0, .one (.ro LI)), (1, .one (.ro I)), (5, .one (.ro I))], []⟩
noncomputable def laws_heldIntS_l0_ex : List (Ex × Sh) := [(.ret, ⟨[(4, .one (.ro I))], []⟩), (.exit 0, ⟨[(1, .one (.ro I))], []⟩)]
noncomputable def laws_heldIntS_l0 {R : Type} (N : Nat) (k0 : Int → Option R) (k1 : Int → Option R) : Nat → (List Int) → Int → Int → Option R
  | 0, _, _, _ => none
  | K + 1, a1, kv1, i =>
    (br (ilt i (tLen a1))
      ((chk (inb a1 i)
        (br (ine (rdI a1 i) kv1)
        (k0 (-1))
        (laws_heldIntS_l0 N k0 k1 K a1 (IntKind.i64.wrap (kv1 + 1)) (IntKind.i64.wrap (i + 1))))))
      (k1 kv1))
noncomputable def laws_heldIntS_l0_again {R : Type} (N : Nat) (ks : (j : Nat) → ((laws_heldIntS_l0_ex.getD j (.ret, Sh.none)).2).T → Option R) (k : Nat) (x : laws_heldIntS_l0_sh.T) : Option R :=
  laws_heldIntS_l0 N (fun y0 => ks 0 ((y0, ()), ())) (fun y0 => ks 1 ((y0, ()), ())) k x.1.1 x.1.2.1 x.1.2.2.1
noncomputable def laws_heldIntS_l0_s (N : Nat) : LSum := ⟨laws_heldIntS_l0_sh, laws_heldIntS_l0_ex, fun x ks => laws_heldIntS_l0_again N ks N x⟩
theorem laws_heldIntS_l0_step (N : Nat) (R : Type) (k : Nat) (x : laws_heldIntS_l0_sh.T) (ks : (j : Nat) → ((laws_heldIntS_l0_ex.getD j (.ret, Sh.none)).2).T → Option R) : laws_heldIntS_l0_again N ks (k + 1) x = roundF (laws_heldIntS_G N) tab [] (loopAt laws_heldIntS_code 0) laws_heldIntS_l0_sh laws_heldIntS_l0_ex (fun y => laws_heldIntS_l0_again N ks k y) ks x := by kernel_rfl
theorem laws_heldIntS_l0_ok (N : Nat) : LoopOk Try.prog Try.f39.ntmps (laws_heldIntS_l0_s N) (loopAt laws_heldIntS_code 0) :=
  loop_ok (l := laws_heldIntS_l0_s N) progOk (laws_heldIntS_gok N) (draw_ok progOk (laws_heldIntS_gok N)) (fun R k x ks => laws_heldIntS_l0_again N ks k x) (fun _ _ _ => rfl) (fun R k x ks => laws_heldIntS_l0_step N R k x ks) (fun R x ks r h => ⟨N, h⟩) (lsOk_at (L := []) trivial) (by kernel_rfl) (by kernel_rfl)
noncomputable def laws_heldIntS (N : Nat) (a : (List Int)) (kv : Int) : Option ((Int × Unit) × (Unit)) :=
  laws_heldIntS_l0 N (fun x => some ((x, ()), ())) (fun kv1 => some ((kv1, ()), ())) N a kv 0
abbrev laws_heldIntS_ps : List (PV.Mode × Ty) := [(.ro, LI), (.ro, I)]
abbrev laws_heldIntS_rs : List (Bool × Ty) := [(true, I)]
noncomputable def laws_heldIntS_S (N : Nat) : FSum := ⟨laws_heldIntS_ps, laws_heldIntS_rs, fun x => laws_heldIntS N x.1 x.2.1⟩
theorem laws_heldIntS_run (N : Nat) (x : argsT laws_heldIntS_ps) : laws_heldIntS N x.1 x.2.1 = funF (laws_heldIntS_G N) tab [laws_heldIntS_l0_s N] Try.f39 laws_heldIntS_ps laws_heldIntS_rs x := by kernel_rfl
theorem laws_heldIntS_pc (N : Nat) : PC Try.prog 39 (laws_heldIntS_S N) := by
  have e : laws_heldIntS_S N = ⟨laws_heldIntS_ps, laws_heldIntS_rs, funF (laws_heldIntS_G N) tab [laws_heldIntS_l0_s N] Try.f39 laws_heldIntS_ps laws_heldIntS_rs⟩ := congrArg (FSum.mk laws_heldIntS_ps laws_heldIntS_rs) (funext (laws_heldIntS_run N))
  rw [e]
  exact fun_ok (c := laws_heldIntS_code) progOk (laws_heldIntS_gok N) (draw_ok progOk (laws_heldIntS_gok N)) Try.call39 Try.func39 (by kernel_rfl) (lsOk_at (L := [laws_heldIntS_l0_s N]) ⟨laws_heldIntS_l0_ok N, trivial⟩) (by kernel_rfl) (by kernel_rfl) (by kernel_rfl) (by kernel_rfl) (by kernel_rfl)

/-! ### laws_FnExactStillNodes -/
noncomputable def laws_FnExactStillNodes_G (N : Nat) : GTab := gOf [(30, laws_szGraph_S N), (32, laws_toGraph_S N), (33, laws_toIntS_S N), (46, spec_StillNodes_S N), (47, impl_StillNodes_S N), (35, laws_eqIntS_S N), (36, laws_eqGraph_S N), (37, laws_markGraph_S N), (38, laws_markIntS_S N), (39, laws_heldIntS_S N)]
theorem laws_FnExactStillNodes_gok (N : Nat) : GOk Try.prog (laws_FnExactStillNodes_G N) := gOf_ok ⟨laws_szGraph_pc N, laws_toGraph_pc N, laws_toIntS_pc N, spec_StillNodes_pc N, impl_StillNodes_pc N, laws_eqIntS_pc N, laws_eqGraph_pc N, laws_markGraph_pc N, laws_markIntS_pc N, laws_heldIntS_pc N, trivial⟩
noncomputable def laws_FnExactStillNodes_code : Code := (Try.f9.body).getD .skip
noncomputable def laws_FnExactStillNodes (N : Nat) (c : (Int × (List (Int × Int)))) (c1 : Int) (c2 : (List Int)) : Option ((Bool × Unit) × (Unit)) :=
  (br (ilt 1048576 (tLen c2))
    (some ((true, ()), ()))
    (((laws_szGraph N (c.1, c.2) 1048576).bind fun r =>
      (br (ilt r.1.1 0)
        (some ((true, ()), ()))
        (((laws_toGraph N (c.1, c.2)).bind fun r1 =>
          ((laws_toIntS N c2).bind fun r2 =>
            ((spec_StillNodes N (r1.1.1.1, r1.1.1.2) c1 r2.1.1).bind fun r3 =>
              ((laws_toGraph N (c.1, c.2)).bind fun r4 =>
                ((laws_toIntS N c2).bind fun r5 =>
                  ((impl_StillNodes N (r4.1.1.1, r4.1.1.2) c1 r5.1.1).bind fun r6 =>
                    ((laws_eqIntS N r6.1.1 r3.1.1).bind fun r7 =>
                      (br (!r7.1.1)
                        (some ((false, ()), ()))
                        ((br (!(r6.1.2.1 == r3.1.2.1))
                          (some ((false, ()), ()))
                          (((laws_toGraph N (c.1, c.2)).bind fun r8 =>
                            ((laws_eqGraph N (r4.1.1.1, r4.1.1.2) (r8.1.1.1, r8.1.1.2)).bind fun r9 =>
                              (br (!r9.1.1)
                                (some ((false, ()), ()))
                                (((laws_toIntS N c2).bind fun r10 =>
                                  ((laws_eqIntS N r5.1.1 r10.1.1).bind fun r11 =>
                                    (br (!r11.1.1)
                                      (some ((false, ()), ()))
                                      (((laws_markGraph N (r4.1.1.1, r4.1.1.2) 1).bind fun r12 =>
                                        ((laws_markIntS N r5.1.1 r12.1.1).bind fun r13 =>
                                          (br (ilt r13.1.1 0)
                                            (some ((false, ()), ()))
                                            (((laws_eqIntS N r6.1.1 r3.1.1).bind fun r14 =>
                                              (br (!r14.1.1)
                                                (some ((false, ()), ()))
                                                ((br (!(r6.1.2.1 == r3.1.2.1))
                                                  (some ((false, ()), ()))
                                                  (((laws_markIntS N r6.1.1 1).bind fun r15 =>
                                                    ((laws_heldIntS N r15.2.1 1).bind fun r16 =>
                                                      (br (ilt r16.1.1 0)
                                                        (some ((false, ()), ()))
                                                        ((br (ine r16.1.1 r15.1.1)
                                                          (some ((false, ()), ()))
                                                          (((laws_toGraph N (c.1, c.2)).bind fun r17 =>
                                                            ((laws_toIntS N c2).bind fun r18 =>
                                                              ((impl_StillNodes N (r17.1.1.1, r17.1.1.2) c1 r18.1.1).bind fun r19 =>
                                                                ((laws_eqIntS N r19.1.1 r3.1.1).bind fun r20 =>
                                                                  (br (!r20.1.1)
                                                                    (some ((false, ()), ()))
                                                                    ((br (!(r19.1.2.1 == r3.1.2.1))
                                                                      (some ((false, ()), ()))
                                                                      (((laws_heldIntS N r15.2.1 1).bind fun r21 =>
                                                                        (br (ilt r21.1.1 0)
                                                                          (some ((false, ()), ()))
                                                                          ((br (ine r21.1.1 r15.1.1)
                                                                            (some ((false, ()), ()))
                                                                            (some ((true, ()), ())))))))))))))))))))))))))))))))))))))))))))))))))))))
abbrev laws_FnExactStillNodes_ps : List (PV.Mode × Ty) := [(.ro, QILQII), (.ro, I), (.ro, LI)]
abbrev laws_FnExactStillNodes_rs : List (Bool × Ty) := [(true, .bool)]
noncomputable def laws_FnExactStillNodes_S (N : Nat) : FSum := ⟨laws_FnExactStillNodes_ps, laws_FnExactStillNodes_rs, fun x => laws_FnExactStillNodes N x.1 x.2.1 x.2.2.1⟩
theorem laws_FnExactStillNodes_run (N : Nat) (x : argsT laws_FnExactStillNodes_ps) : laws_FnExactStillNodes N x.1 x.2.1 x.2.2.1 = funF (laws_FnExactStillNodes_G N) tab [] Try.f9 laws_FnExactStillNodes_ps laws_FnExactStillNodes_rs x := by kernel_rfl
theorem laws_FnExactStillNodes_pc (N : Nat) : PC Try.prog 9 (laws_FnExactStillNodes_S N) := by
  have e : laws_FnExactStillNodes_S N = ⟨laws_FnExactStillNodes_ps, laws_FnExactStillNodes_rs, funF (laws_FnExactStillNodes_G N) tab [] Try.f9 laws_FnExactStillNodes_ps laws_FnExactStillNodes_rs⟩ := congrArg (FSum.mk laws_FnExactStillNodes_ps laws_FnExactStillNodes_rs) (funext (laws_FnExactStillNodes_run N))
  rw [e]
  exact fun_ok (c := laws_FnExactStillNodes_code) progOk (laws_FnExactStillNodes_gok N) (draw_ok progOk (laws_FnExactStillNodes_gok N)) Try.call9 Try.func9 (by kernel_rfl) (lsOk_at (L := []) trivial) (by kernel_rfl) (by kernel_rfl) (by kernel_rfl) (by kernel_rfl) (by kernel_rfl)
end Go.Proofs.Ythkejedgfhjdiaa
