/- Functions of the program as functions on data. -/
import Derived.Test.YtbnjcjpnpidhmaaGreatThresholdWayFd
set_option linter.all false
namespace Go.Proofs.YtbnjcjpnpidhmaaGreat
open Go Go.PV
/-! ### laws_heldIntS -/
abbrev laws_heldIntS_ps : List (PV.Mode × Ty) := [(.ro, LI), (.ro, I)]
abbrev laws_heldIntS_rs : List (Bool × Ty) := [(true, I)]
noncomputable def laws_heldIntS_G (N : Nat) : GTab := gOf []
theorem laws_heldIntS_gok (N : Nat) : GOk Tryz.prog (laws_heldIntS_G N) := gOf_ok trivial
noncomputable def laws_heldIntS_code : Code := (Tryz.f119.body).getD .skip
noncomputable def laws_heldIntS_l0_sh : Sh := ⟨[(0, .one (.ro LI)), (1, .one (.ro I)), (5, .one (.ro I))], []⟩
noncomputable def laws_heldIntS_l0_ex : List (Ex × Sh) := [(.ret, ⟨[(4, .one (.ro I))], []⟩), (.exit 0, ⟨[(1, .one (.ro I))], []⟩)]
noncomputable def laws_heldIntS_l0 {R : Type} (N : Nat) (k0 : Int → Option R) (k1 : Int → Option R) : Nat → (List Int) → Int → Int → Option R
  | 0, _, _, _ => none
  | K + 1, a1, kv1, i =>
    (br (ilt i (tLen a1))
      ((chk (inb a1 i)
        (br (ine (rdI a1 i) kv1)
        (k0 (-1))
        (laws_heldIntS_l0 N k0 k1 K a1 (IntKind.i64.wrap (kv1 + 1)) (IntKind.i64.wrap (i + 1))))))
      (k1 kv1))
noncomputable def laws_heldIntS_l0_again {R : Type} (N : Nat) (ks : (j : Nat) → ((laws_heldIntS_l0_ex.getD j (.ret, Sh.none)).2).T → Option R) (k : Nat) (x : laws_heldIntS_l0_sh.T) : Option R :=
  laws_heldIntS_l0 N (fun y0 => ks 0 ((y0, ()), ())) (fun y0 => ks 1 ((y0, ()), ())) k x.1.1 x.1.2.1 x.1.2.2.1
noncomputable def laws_heldIntS_l0_s (N : Nat) : LSum := ⟨laws_heldIntS_l0_sh, laws_heldIntS_l0_ex, fun x ks => laws_heldIntS_l0_again N ks N x⟩
theorem laws_heldIntS_l0_step (N : Nat) (R : Type) (k : Nat) (x : laws_heldIntS_l0_sh.T) (ks : (j : Nat) → ((laws_heldIntS_l0_ex.getD j (.ret, Sh.none)).2).T → Option R) : laws_heldIntS_l0_again N ks (k + 1) x = roundF (laws_heldIntS_G N) tab [] (loopAt laws_heldIntS_code 0) laws_heldIntS_l0_sh laws_heldIntS_l0_ex (fun y => laws_heldIntS_l0_again N ks k y) ks x := by kernel_rfl
theorem laws_heldIntS_l0_ok (N : Nat) : LoopOk Tryz.prog Tryz.f119.ntmps (laws_heldIntS_l0_s N) (loopAt laws_heldIntS_code 0) :=
  loop_ok (l := laws_heldIntS_l0_s N) progOk (laws_heldIntS_gok N) (draw_ok progOk (laws_heldIntS_gok N)) (fun R k x ks => laws_heldIntS_l0_again N ks k x) (fun _ _ _ => rfl) (fun R k x ks => laws_heldIntS_l0_step N R k x ks) (fun R x ks r h => ⟨N, h⟩) (lsOk_at (L := []) trivial) (by kernel_rfl) (by kernel_rfl)
noncomputable def laws_heldIntS (N : Nat) (a : (List Int)) (kv : Int) : Option ((Int × Unit) × (Unit)) :=
  laws_heldIntS_l0 N (fun x => some ((x, ()), ())) (fun kv1 => some ((kv1, ()), ())) N a kv 0
noncomputable def laws_heldIntS_S (N : Nat) : FSum := ⟨laws_heldIntS_ps, laws_heldIntS_rs, fun x => laws_heldIntS N x.1 x.2.1⟩
theorem laws_heldIntS_run (N : Nat) (x : argsT laws_heldIntS_ps) : laws_heldIntS N x.1 x.2.1 = funF (laws_heldIntS_G N) tab [laws_heldIntS_l0_s N] Tryz.f119 laws_heldIntS_ps laws_heldIntS_rs x := by kernel_rfl
theorem laws_heldIntS_pc (N : Nat) : PC Tryz.prog 119 (laws_heldIntS_S N) := by
  have e : laws_heldIntS_S N = ⟨laws_heldIntS_ps, laws_heldIntS_rs, funF (laws_heldIntS_G N) tab [laws_heldIntS_l0_s N] Tryz.f119 laws_heldIntS_ps laws_heldIntS_rs⟩ := congrArg (FSum.mk laws_heldIntS_ps laws_heldIntS_rs) (funext (laws_heldIntS_run N))
  rw [e]
  exact fun_ok (c := laws_heldIntS_code) progOk (laws_heldIntS_gok N) (draw_ok progOk (laws_heldIntS_gok N)) Tryz.call119 Tryz.func119 (by kernel_rfl) (lsOk_at (L := [laws_heldIntS_l0_s N]) ⟨laws_heldIntS_l0_ok N, trivial⟩) (by kernel_rfl) (by kernel_rfl) (by kernel_rfl) (by kernel_rfl) (by kernel_rfl)

/-! ### laws_heldIntSS -/
abbrev laws_heldIntSS_ps : List (PV.Mode × Ty) := [(.ro, LLI), (.ro, I)]
abbrev laws_heldIntSS_rs : List (Bool × Ty) := [(true, I)]
noncomputable def laws_heldIntSS_G (N : Nat) : GTab := gOf [(119, laws_heldIntS_S N)]
theorem laws_heldIntSS_gok (N : Nat) : GOk Tryz.prog (laws_heldIntSS_G N) := gOf_ok ⟨laws_heldIntS_pc N, trivial⟩
noncomputable def laws_heldIntSS_code : Code := (Tryz.f24.body).getD .skip
noncomputable def laws_heldIntSS_l0_sh : Sh := ⟨[(0, .one (.ro LLI)), (1, .one (.ro I)), (5, .one (.ro I))], []⟩
noncomputable def laws_heldIntSS_l0_ex : List (Ex × Sh) := [(.ret, ⟨[(4, .one (.ro I))], []⟩), (.exit 0, ⟨[(1, .one (.ro I))], []⟩)]
noncomputable def laws_heldIntSS_l0 {R : Type} (N : Nat) (k0 : Int → Option R) (k1 : Int → Option R) : Nat → (List (List Int)) → Int → Int → Option R
  | 0, _, _, _ => none
  | K + 1, a1, kv1, i =>
    (br (ilt i (tLen a1))
      ((chk (inb a1 i)
        ((laws_heldIntS N (rdL a1 i) kv1).bind fun r =>
        (br (ilt r.1.1 0)
          (k0 (-1))
          (laws_heldIntSS_l0 N k0 k1 K a1 r.1.1 (IntKind.i64.wrap (i + 1)))))))
      (k1 kv1))
noncomputable def laws_heldIntSS_l0_again {R : Type} (N : Nat) (ks : (j : Nat) → ((laws_heldIntSS_l0_ex.getD j (.ret, Sh.none)).2).T → Option R) (k : Nat) (x : laws_heldIntSS_l0_sh.T) : Option R :=
  laws_heldIntSS_l0 N (fun y0 => ks 0 ((y0, ()), ())) (fun y0 => ks 1 ((y0, ()), ())) k x.1.1 x.1.2.1 x.1.2.2.1
noncomputable def laws_heldIntSS_l0_s (N : Nat) : LSum := ⟨laws_heldIntSS_l0_sh, laws_heldIntSS_l0_ex, fun x ks => laws_heldIntSS_l0_again N ks N x⟩
theorem laws_heldIntSS_l0_step (N : Nat) (R : Type) (k : Nat) (x : laws_heldIntSS_l0_sh.T) (ks : (j : Nat) → ((laws_heldIntSS_l0_ex.getD j (.ret, Sh.none)).2).T → Option R) : laws_heldIntSS_l0_again N ks (k + 1) x = roundF (laws_heldIntSS_G N) tab [] (loopAt laws_heldIntSS_code 0) laws_heldIntSS_l0_sh laws_heldIntSS_l0_ex (fun y => laws_heldIntSS_l0_again N ks k y) ks x := by kernel_rfl
theorem laws_heldIntSS_l0_ok (N : Nat) : LoopOk Tryz.prog Tryz.f24.ntmps (laws_heldIntSS_l0_s N) (loopAt laws_heldIntSS_code 0) :=
  loop_ok (l := laws_heldIntSS_l0_s N) progOk (laws_heldIntSS_gok N) (draw_ok progOk (laws_heldIntSS_gok N)) (fun R k x ks => laws_heldIntSS_l0_again N ks k x) (fun _ _ _ => rfl) (fun R k x ks => laws_heldIntSS_l0_step N R k x ks) (fun R x ks r h => ⟨N, h⟩) (lsOk_at (L := []) trivial) (by kernel_rfl) (by kernel_rfl)
noncomputable def laws_heldIntSS (N : Nat) (a : (List (List Int))) (kv : Int) : Option ((Int × Unit) × (Unit)) :=
  laws_heldIntSS_l0 N (fun x => some ((x, ()), ())) (fun kv1 => some ((kv1, ()), ())) N a kv 0
noncomputable def laws_heldIntSS_S (N : Nat) : FSum := ⟨laws_heldIntSS_ps, laws_heldIntSS_rs, fun x => laws_heldIntSS N x.1 x.2.1⟩
theorem laws_heldIntSS_run (N : Nat) (x : argsT laws_heldIntSS_ps) : laws_heldIntSS N x.1 x.2.1 = funF (laws_heldIntSS_G N) tab [laws_heldIntSS_l0_s N] Tryz.f24 laws_heldIntSS_ps laws_heldIntSS_rs x := by kernel_rfl
theorem laws_heldIntSS_pc (N : Nat) : PC Tryz.prog 24 (laws_heldIntSS_S N) := by
  have e : laws_heldIntSS_S N = ⟨laws_heldIntSS_ps, laws_heldIntSS_rs, funF (laws_heldIntSS_G N) tab [laws_heldIntSS_l0_s N] Tryz.f24 laws_heldIntSS_ps laws_heldIntSS_rs⟩ := congrArg (FSum.mk laws_heldIntSS_ps laws_heldIntSS_rs) (funext (laws_heldIntSS_run N))
  rw [e]
  exact fun_ok (c := laws_heldIntSS_code) progOk (laws_heldIntSS_gok N) (draw_ok progOk (laws_heldIntSS_gok N)) Tryz.call24 Tryz.func24 (by kernel_rfl) (lsOk_at (L := [laws_heldIntSS_l0_s N]) ⟨laws_heldIntSS_l0_ok N, trivial⟩) (by kernel_rfl) (by kernel_rfl) (by kernel_rfl) (by kernel_rfl) (by kernel_rfl)

/-! ### laws_FnExactThresholdWay -/
abbrev laws_FnExactThresholdWay_ps : List (PV.Mode × Ty) := [(.ro, QILQII), (.ro, I), (.ro, LI), (.ro, LI)]
abbrev laws_FnExactThresholdWay_rs : List (Bool × Ty) := [(true, .bool)]
noncomputable def laws_FnExactThresholdWay_G (N : Nat) : GTab := gOf [(11, laws_szGraph_S N), (13, laws_toGraph_S N), (14, laws_toIntS_S N), (18, spec_ThresholdWay_S N), (19, impl_ThresholdWay_S N), (20, laws_eqIntSS_S N), (16, laws_eqGraph_S N), (17, laws_eqIntS_S N), (21, laws_markGraph_S N), (22, laws_markIntS_S N), (23, laws_markIntSS_S N), (24, laws_heldIntSS_S N)]
theorem laws_FnExactThresholdWay_gok (N : Nat) : GOk Tryz.prog (laws_FnExactThresholdWay_G N) := gOf_ok ⟨laws_szGraph_pc N, laws_toGraph_pc N, laws_toIntS_pc N, spec_ThresholdWay_pc N, impl_ThresholdWay_pc N, laws_eqIntSS_pc N, laws_eqGraph_pc N, laws_eqIntS_pc N, laws_markGraph_pc N, laws_markIntS_pc N, laws_markIntSS_pc N, laws_heldIntSS_pc N, trivial⟩
noncomputable def laws_FnExactThresholdWay_code : Code := (Tryz.f4.body).getD .skip
noncomputable def laws_FnExactThresholdWay (N : Nat) (c : (Int × (List (Int × Int)))) (c1 : Int) (c2 : (List Int)) (c3 : (List Int)) : Option ((Bool × Unit) × (Unit)) :=
  (br (ilt 1048576 (tLen c2))
    (some ((true, ()), ()))
    ((br (ilt 1048576 (tLen c3))
      (some ((true, ()), ()))
      (((laws_szGraph N (c.1, c.2) 1048576).bind fun r =>
        (br (ilt r.1.1 0)
          (some ((true, ()), ()))
          (((laws_toGraph N (c.1, c.2)).bind fun r1 =>
            ((laws_toIntS N c2).bind fun r2 =>
              ((laws_toIntS N c3).bind fun r3 =>
                ((spec_ThresholdWay N (r1.1.1.1, r1.1.1.2) c1 r2.1.1 r3.1.1).bind fun r4 =>
                  ((laws_toGraph N (c.1, c.2)).bind fun r5 =>
                    ((laws_toIntS N c2).bind fun r6 =>
                      ((laws_toIntS N c3).bind fun r7 =>
                        ((impl_ThresholdWay N (r5.1.1.1, r5.1.1.2) c1 r6.1.1 r7.1.1).bind fun r8 =>
                          ((laws_eqIntSS N r8.1.1 r4.1.1).bind fun r9 =>
                            (br (!r9.1.1)
                              (some ((false, ()), ()))
                              ((br (!(r8.1.2.1 == r4.1.2.1))
                                (some ((false, ()), ()))
                                (((laws_toGraph N (c.1, c.2)).bind fun r10 =>
                                  ((laws_eqGraph N (r5.1.1.1, r5.1.1.2) (r10.1.1.1, r10.1.1.2)).bind fun r11 =>
                                    (br (!r11.1.1)
                                      (some ((false, ()), ()))
                                      (((laws_toIntS N c2).bind fun r12 =>
                                        ((laws_eqIntS N r6.1.1 r12.1.1).bind fun r13 =>
                                          (br (!r13.1.1)
                                            (some ((false, ()), ()))
                                            (((laws_toIntS N c3).bind fun r14 =>
                                              ((laws_eqIntS N r7.1.1 r14.1.1).bind fun r15 =>
                                                (br (!r15.1.1)
                                                  (some ((false, ()), ()))
                                                  (((laws_markGraph N (r5.1.1.1, r5.1.1.2) 1).bind fun r16 =>
                                                    ((laws_markIntS N r6.1.1 r16.1.1).bind fun r17 =>
                                                      ((laws_markIntS N r7.1.1 r17.1.1).bind fun r18 =>
                                                        (br (ilt r18.1.1 0)
                                                          (some ((false, ()), ()))
                                                          (((laws_eqIntSS N r8.1.1 r4.1.1).bind fun r19 =>
                                                            (br (!r19.1.1)
                                                              (some ((false, ()), ()))
                                                              ((br (!(r8.1.2.1 == r4.1.2.1))
                                                                (some ((false, ()), ()))
                                                                (((laws_markIntSS N r8.1.1 1).bind fun r20 =>
                                                                  ((laws_heldIntSS N r20.2.1 1).bind fun r21 =>
                                                                    (br (ilt r21.1.1 0)
                                                                      (some ((false, ()), ()))
                                                                      ((br (ine r21.1.1 r20.1.1)
                                                                        (some ((false, ()), ()))
                                                                        (((laws_toGraph N (c.1, c.2)).bind fun r22 =>
                                                                          ((laws_toIntS N c2).bind fun r23 =>
                                                                            ((laws_toIntS N c3).bind fun r24 =>
                                                                              ((impl_ThresholdWay N (r22.1.1.1, r22.1.1.2) c1 r23.1.1 r24.1.1).bind fun r25 =>
                                                                                ((laws_eqIntSS N r25.1.1 r4.1.1).bind fun r26 =>
                                                                                  (br (!r26.1.1)
                                                                                    (some ((false, ()), ()))
                                                                                    ((br (!(r25.1.2.1 == r4.1.2.1))
                                                                                      (some ((false, ()), ()))
                                                                                      (((laws_heldIntSS N r20.2.1 1).bind fun r27 =>
                                                                                        (br (ilt r27.1.1 0)
                                                                                          (some ((false, ()), ()))
                                                                                          ((br (ine r27.1.1 r20.1.1)
                                                                                            (some ((false, ()), ()))
                                                                                            (some ((true, ()), ())))))))))))))))))))))))))))))))))))))))))))))))))))))))))))))))
noncomputable def laws_FnExactThresholdWay_S (N : Nat) : FSum := ⟨laws_FnExactThresholdWay_ps, laws_FnExactThresholdWay_rs, fun x => laws_FnExactThresholdWay N x.1 x.2.1 x.2.2.1 x.2.2.2.1⟩
theorem laws_FnExactThresholdWay_run (N : Nat) (x : argsT laws_FnExactThresholdWay_ps) : laws_FnExactThresholdWay N x.1 x.2.1 x.2.2.1 x.2.2.2.1 = funF (laws_FnExactThresholdWay_G N) tab [] Tryz.f4 laws_FnExactThresholdWay_ps laws_FnExactThresholdWay_rs x := by kernel_rfl
theorem laws_FnExactThresholdWay_pc (N : Nat) : PC Tryz.prog 4 (laws_FnExactThresholdWay_S N) := by
  have e : laws_FnExactThresholdWay_S N = ⟨laws_FnExactThresholdWay_ps, laws_FnExactThresholdWay_rs, funF (laws_FnExactThresholdWay_G N) tab [] Tryz.f4 laws_FnExactThresholdWay_ps laws_FnExactThresholdWay_rs⟩ := congrArg (FSum.mk laws_FnExactThresholdWay_ps laws_FnExactThresholdWay_rs) (funext (laws_FnExactThresholdWay_run N))
  rw [e]
  exact fun_ok (c := laws_FnExactThresholdWay_code) progOk (laws_FnExactThresholdWay_gok N) (draw_ok progOk (laws_FnExactThresholdWay_gok N)) Tryz.call4 Tryz.func4 (by kernel_rfl) (lsOk_at (L := []) trivial) (by kernel_rfl) (by kernel_rfl) (by kernel_rfl) (by kernel_rfl) (by kernel_rfl)
end Go.Proofs.YtbnjcjpnpidhmaaGreat
