/- Functions of the program as functions on data. -/
import Derived.Test.YthkejedgfhjdiaaParityFormulaFb
set_option linter.all false
namespace Go.Proofs.Ythkejedgfhjdiaa
open Go Go.PV
/-! ### laws_heldIntS -/
abbrev laws_heldIntS_ps : List (PV.Mode × Ty) := [(.ro, LI), (.ro, I)]
abbrev laws_heldIntS_rs : List (Bool × Ty) := [(true, I)]
noncomputable def laws_heldIntS_G (N : Nat) : GTab := gOf []
theorem laws_heldIntS_gok (N : Nat) : GOk Try.prog (laws_heldIntS_G N) := gOf_ok trivial
noncomputable def laws_heldIntS_code : Code := (Try.f39.body).getD .skip
noncomputable def laws_heldIntS_l0_sh : Sh := ⟨[(0, .one (.ro LI)), (1, .one (.ro I)), (5, .one (.ro I))], []⟩
noncomputable def laws_heldIntS_l0_ex : List (Ex × Sh) := [(.ret, ⟨[(4, .one (.ro I))], []⟩), (.exit 0, ⟨[(1, .one (.ro I))], []⟩)]
noncomputable def laws_heldIntS_l0 {R : Type} (N : Nat) (k0 : Int → Option R) (k1 : Int → Option R) : Nat → (List Int) → Int → Int → Option R
  | 0, _, _, _ => none
  | K + 1, a1, kv1, i =>
    (br (ilt i (tLen a1))
      ((chk (inb a1 i)
        (br (ine (rdI a1 i) kv1)
        (k0 (-1))
        (laws_heldIntS_l0 N k0 k1 K a1 (IntKind.i64.wrap (kv1 + 1)) (IntKind.i64.wrap (i + 1))))))
      (k1 kv1))
noncomputable def laws_heldIntS_l0_again {R : Type} (N : Nat) (ks : (j : Nat) → ((laws_heldIntS_l0_ex.getD j (.ret, Sh.none)).2).T → Option R) (k : Nat) (x : laws_heldIntS_l0_sh.T) : Option R :=
  laws_heldIntS_l0 N (fun y0 => ks 0 ((y0, ()), ())) (fun y0 => ks 1 ((y0, ()), ())) k x.1.1 x.1.2.1 x.1.2.2.1
noncomputable def laws_heldIntS_l0_s (N : Nat) : LSum := ⟨laws_heldIntS_l0_sh, laws_heldIntS_l0_ex, fun x ks => laws_heldIntS_l0_again N ks N x⟩
theorem laws_heldIntS_l0_step (N : Nat) (R : Type) (k : Nat) (x : laws_heldIntS_l0_sh.T) (ks : (j : Nat) → ((laws_heldIntS_l0_ex.getD j (.ret, Sh.none)).2).T → Option R) : laws_heldIntS_l0_again N ks (k + 1) x = roundF (laws_heldIntS_G N) tab [] (loopAt laws_heldIntS_code 0) laws_heldIntS_l0_sh laws_heldIntS_l0_ex (fun y => laws_heldIntS_l0_again N ks k y) ks x := by kernel_rfl
theorem laws_heldIntS_l0_ok (N : Nat) : LoopOk Try.prog Try.f39.ntmps (laws_heldIntS_l0_s N) (loopAt laws_heldIntS_code 0) :=
  loop_ok (l := laws_heldIntS_l0_s N) progOk (laws_heldIntS_gok N) (draw_ok progOk (laws_heldIntS_gok N)) (fun R k x ks => laws_heldIntS_l0_again N ks k x) (fun _ _ _ => rfl) (fun R k x ks => laws_heldIntS_l0_step N R k x ks) (fun R x ks r h => ⟨N, h⟩) (lsOk_at (L := []) trivial) (by kernel_rfl) (by kernel_rfl)
noncomputable def laws_heldIntS (N : Nat) (a : (List Int)) (kv : Int) : Option ((Int × Unit) × (Unit)) :=
  laws_heldIntS_l0 N (fun x => some ((x, ()), ())) (fun kv1 => some ((kv1, ()), ())) N a kv 0
noncomputable def laws_heldIntS_S (N : Nat) : FSum := ⟨laws_heldIntS_ps, laws_heldIntS_rs, fun x => laws_heldIntS N x.1 x.2.1⟩
theorem laws_heldIntS_run (N : Nat) (x : argsT laws_heldIntS_ps) : laws_heldIntS N x.1 x.2.1 = funF (laws_heldIntS_G N) tab [laws_heldIntS_l0_s N] Try.f39 laws_heldIntS_ps laws_heldIntS_rs x := by kernel_rfl
theorem laws_heldIntS_pc (N : Nat) : PC Try.prog 39 (laws_heldIntS_S N) := by
  have e : laws_heldIntS_S N = ⟨laws_heldIntS_ps, laws_heldIntS_rs, funF (laws_heldIntS_G N) tab [laws_heldIntS_l0_s N] Try.f39 laws_heldIntS_ps laws_heldIntS_rs⟩ := congrArg (FSum.mk laws_heldIntS_ps laws_heldIntS_rs) (funext (laws_heldIntS_run N))
  rw [e]
  exact fun_ok (c := laws_heldIntS_code) progOk (laws_heldIntS_gok N) (draw_ok progOk (laws_heldIntS_gok N)) Try.call39 Try.func39 (by kernel_rfl) (lsOk_at (L := [laws_heldIntS_l0_s N]) ⟨laws_heldIntS_l0_ok N, trivial⟩) (by kernel_rfl) (by kernel_rfl) (by kernel_rfl) (by kernel_rfl) (by kernel_rfl)

/-! ### laws_heldIntSS -/
abbrev laws_heldIntSS_ps : List (PV.Mode × Ty) := [(.ro, LLI), (.ro, I)]
abbrev laws_heldIntSS_rs : List (Bool × Ty) := [(true, I)]
noncomputable def laws_heldIntSS_G (N : Nat) : GTab := gOf [(39, laws_heldIntS_S N)]
theorem laws_heldIntSS_gok (N : Nat) : GOk Try.prog (laws_heldIntSS_G N) := gOf_ok ⟨laws_heldIntS_pc N, trivial⟩
noncomputable def laws_heldIntSS_code : Code := (Try.f69.body).getD .skip
noncomputable def laws_heldIntSS_l0_sh : Sh := ⟨[(0, .one (.ro LLI)), (1, .one (.ro I)), (5, .one (.ro I))], []⟩
noncomputable def laws_heldIntSS_l0_ex : List (Ex × Sh) := [(.ret, ⟨[(4, .one (.ro I))], []⟩), (.exit 0, ⟨[(1, .one (.ro I))], []⟩)]
noncomputable def laws_heldIntSS_l0 {R : Type} (N : Nat) (k0 : Int → Option R) (k1 : Int → Option R) : Nat → (List (List Int)) → Int → Int → Option R
  | 0, _, _, _ => none
  | K + 1, a1, kv1, i =>
    (br (ilt i (tLen a1))
      ((chk (inb a1 i)
        ((laws_heldIntS N (rdL a1 i) kv1).bind fun r =>
        (br (ilt r.1.1 0)
          (k0 (-1))
          (laws_heldIntSS_l0 N k0 k1 K a1 r.1.1 (IntKind.i64.wrap (i + 1)))))))
      (k1 kv1))
noncomputable def laws_heldIntSS_l0_again {R : Type} (N : Nat) (ks : (j : Nat) → ((laws_heldIntSS_l0_ex.getD j (.ret, Sh.none)).2).T → Option R) (k : Nat) (x : laws_heldIntSS_l0_sh.T) : Option R :=
  laws_heldIntSS_l0 N (fun y0 => ks 0 ((y0, ()), ())) (fun y0 => ks 1 ((y0, ()), ())) k x.1.1 x.1.2.1 x.1.2.2.1
noncomputable def laws_heldIntSS_l0_s (N : Nat) : LSum := ⟨laws_heldIntSS_l0_sh, laws_heldIntSS_l0_ex, fun x ks => laws_heldIntSS_l0_again N ks N x⟩
theorem laws_heldIntSS_l0_step (N : Nat) (R : Type) (k : Nat) (x : laws_heldIntSS_l0_sh.T) (ks : (j : Nat) → ((laws_heldIntSS_l0_ex.getD j (.ret, Sh.none)).2).T → Option R) : laws_heldIntSS_l0_again N ks (k + 1) x = roundF (laws_heldIntSS_G N) tab [] (loopAt laws_heldIntSS_code 0) laws_heldIntSS_l0_sh laws_heldIntSS_l0_ex (fun y => laws_heldIntSS_l0_again N ks k y) ks x := by kernel_rfl
theorem laws_heldIntSS_l0_ok (N : Nat) : LoopOk Try.prog Try.f69.ntmps (laws_heldIntSS_l0_s N) (loopAt laws_heldIntSS_code 0) :=
  loop_ok (l := laws_heldIntSS_l0_s N) progOk (laws_heldIntSS_gok N) (draw_ok progOk (laws_heldIntSS_gok N)) (fun R k x ks => laws_heldIntSS_l0_again N ks k x) (fun _ _ _ => rfl) (fun R k x ks => laws_heldIntSS_l0_step N R k x ks) (fun R x ks r h => ⟨N, h⟩) (lsOk_at (L := []) trivial) (by kernel_rfl) (by kernel_rfl)
noncomputable def laws_heldIntSS (N : Nat) (a : (List (List Int))) (kv : Int) : Option ((Int × Unit) × (Unit)) :=
  laws_heldIntSS_l0 N (fun x => some ((x, ()), ())) (fun kv1 => some ((kv1, ()), ())) N a kv 0
noncomputable def laws_heldIntSS_S (N : Nat) : FSum := ⟨laws_heldIntSS_ps, laws_heldIntSS_rs, fun x => laws_heldIntSS N x.1 x.2.1⟩
theorem laws_heldIntSS_run (N : Nat) (x : argsT laws_heldIntSS_ps) : laws_heldIntSS N x.1 x.2.1 = funF (laws_heldIntSS_G N) tab [laws_heldIntSS_l0_s N] Try.f69 laws_heldIntSS_ps laws_heldIntSS_rs x := by kernel_rfl
theorem laws_heldIntSS_pc (N : Nat) : PC Try.prog 69 (laws_heldIntSS_S N) := by
  have e : laws_heldIntSS_S N = ⟨laws_heldIntSS_ps, laws_heldIntSS_rs, funF (laws_heldIntSS_G N) tab [laws_heldIntSS_l0_s N] Try.f69 laws_heldIntSS_ps laws_heldIntSS_rs⟩ := congrArg (FSum.mk laws_heldIntSS_ps laws_heldIntSS_rs) (funext (laws_heldIntSS_run N))
  rw [e]
  exact fun_ok (c := laws_heldIntSS_code) progOk (laws_heldIntSS_gok N) (draw_ok progOk (laws_heldIntSS_gok N)) Try.call69 Try.func69 (by kernel_rfl) (lsOk_at (L := [laws_heldIntSS_l0_s N]) ⟨laws_heldIntSS_l0_ok N, trivial⟩) (by kernel_rfl) (by kernel_rfl) (by kernel_rfl) (by kernel_rfl) (by kernel_rfl)

/-! ### laws_heldFormula -/
abbrev laws_heldFormula_ps : List (PV.Mode × Ty) := [(.ro, QILLI), (.ro, I)]
abbrev laws_heldFormula_rs : List (Bool × Ty) := [(true, I)]
noncomputable def laws_heldFormula_G (N : Nat) : GTab := gOf [(69, laws_heldIntSS_S N)]
theorem laws_heldFormula_gok (N : Nat) : GOk Try.prog (laws_heldFormula_G N) := gOf_ok ⟨laws_heldIntSS_pc N, trivial⟩
noncomputable def laws_heldFormula_code : Code := (Try.f23.body).getD .skip
noncomputable def laws_heldFormula (N : Nat) (a : (Int × (List (List Int)))) (kv : Int) : Option ((Int × Unit) × (Unit)) :=
  ((laws_heldIntSS N a.2 kv).bind fun r =>
    (br (ilt r.1.1 0)
      (some (((-1), ()), ()))
      (some ((r.1.1, ()), ()))))
noncomputable def laws_heldFormula_S (N : Nat) : FSum := ⟨laws_heldFormula_ps, laws_heldFormula_rs, fun x => laws_heldFormula N x.1 x.2.1⟩
theorem laws_heldFormula_run (N : Nat) (x : argsT laws_heldFormula_ps) : laws_heldFormula N x.1 x.2.1 = funF (laws_heldFormula_G N) tab [] Try.f23 laws_heldFormula_ps laws_heldFormula_rs x := by kernel_rfl
theorem laws_heldFormula_pc (N : Nat) : PC Try.prog 23 (laws_heldFormula_S N) := by
  have e : laws_heldFormula_S N = ⟨laws_heldFormula_ps, laws_heldFormula_rs, funF (laws_heldFormula_G N) tab [] Try.f23 laws_heldFormula_ps laws_heldFormula_rs⟩ := congrArg (FSum.mk laws_heldFormula_ps laws_heldFormula_rs) (funext (laws_heldFormula_run N))
  rw [e]
  exact fun_ok (c := laws_heldFormula_code) progOk (laws_heldFormula_gok N) (draw_ok progOk (laws_heldFormula_gok N)) Try.call23 Try.func23 (by kernel_rfl) (lsOk_at (L := []) trivial) (by kernel_rfl) (by kernel_rfl) (by kernel_rfl) (by kernel_rfl) (by kernel_rfl)

/-! ### laws_FnExactParityFormula -/
abbrev laws_FnExactParityFormula_ps : List (PV.Mode × Ty) := [(.ro, QIQLLILI)]
abbrev laws_FnExactParityFormula_rs : List (Bool × Ty) := [(true, .bool)]
noncomputable def laws_FnExactParityFormula_G (N : Nat) : GTab := gOf [(24, laws_szParity_S N), (26, laws_toParity_S N), (25, spec_ParityFormula_S N), (27, impl_ParityFormula_S N), (19, laws_eqFormula_S N), (28, laws_eqParity_S N), (29, laws_markParity_S N), (22, laws_markFormula_S N), (23, laws_heldFormula_S N)]
theorem laws_FnExactParityFormula_gok (N : Nat) : GOk Try.prog (laws_FnExactParityFormula_G N) := gOf_ok ⟨laws_szParity_pc N, laws_toParity_pc N, spec_ParityFormula_pc N, impl_ParityFormula_pc N, laws_eqFormula_pc N, laws_eqParity_pc N, laws_markParity_pc N, laws_markFormula_pc N, laws_heldFormula_pc N, trivial⟩
noncomputable def laws_FnExactParityFormula_code : Code := (Try.f4.body).getD .skip
noncomputable def laws_FnExactParityFormula (N : Nat) (c : (Int × ((List (List Int)) × (List Int)))) : Option ((Bool × Unit) × (Unit)) :=
  ((laws_szParity N (c.1, (c.2.1, c.2.2)) 1048576).bind fun r =>
    (br (ilt r.1.1 0)
      (some ((true, ()), ()))
      (((laws_toParity N (c.1, (c.2.1, c.2.2))).bind fun r1 =>
        ((spec_ParityFormula N (r1.1.1.1, (r1.1.1.2.1, r1.1.1.2.2))).bind fun r2 =>
          ((laws_toParity N (c.1, (c.2.1, c.2.2))).bind fun r3 =>
            ((impl_ParityFormula N (r3.1.1.1, (r3.1.1.2.1, r3.1.1.2.2))).bind fun r4 =>
              ((laws_eqFormula N (r4.1.1.1, r4.1.1.2) (r2.1.1.1, r2.1.1.2)).bind fun r5 =>
                (br (!r5.1.1)
                  (some ((false, ()), ()))
                  ((br (!(r4.1.2.1 == r2.1.2.1))
                    (some ((false, ()), ()))
                    (((laws_toParity N (c.1, (c.2.1, c.2.2))).bind fun r6 =>
                      ((laws_eqParity N (r3.1.1.1, (r3.1.1.2.1, r3.1.1.2.2)) (r6.1.1.1, (r6.1.1.2.1, r6.1.1.2.2))).bind fun r7 =>
                        (br (!r7.1.1)
                          (some ((false, ()), ()))
                          (((laws_markParity N (r3.1.1.1, (r3.1.1.2.1, r3.1.1.2.2)) 1).bind fun r8 =>
                            (br (ilt r8.1.1 0)
                              (some ((false, ()), ()))
                              (((laws_eqFormula N (r4.1.1.1, r4.1.1.2) (r2.1.1.1, r2.1.1.2)).bind fun r9 =>
                                (br (!r9.1.1)
                                  (some ((false, ()), ()))
                                  ((br (!(r4.1.2.1 == r2.1.2.1))
                                    (some ((false, ()), ()))
                                    (((laws_markFormula N (r4.1.1.1, r4.1.1.2) 1).bind fun r10 =>
                                      ((laws_heldFormula N (r4.1.1.1, r10.2.1.2) 1).bind fun r11 =>
                                        (br (ilt r11.1.1 0)
                                          (some ((false, ()), ()))
                                          ((br (ine r11.1.1 r10.1.1)
                                            (some ((false, ()), ()))
                                            (((laws_toParity N (c.1, (c.2.1, c.2.2))).bind fun r12 =>
                                              ((impl_ParityFormula N (r12.1.1.1, (r12.1.1.2.1, r12.1.1.2.2))).bind fun r13 =>
                                                ((laws_eqFormula N (r13.1.1.1, r13.1.1.2) (r2.1.1.1, r2.1.1.2)).bind fun r14 =>
                                                  (br (!r14.1.1)
                                                    (some ((false, ()), ()))
                                                    ((br (!(r13.1.2.1 == r2.1.2.1))
                                                      (some ((false, ()), ()))
                                                      (((laws_heldFormula N (r4.1.1.1, r10.2.1.2) 1).bind fun r15 =>
                                                        (br (ilt r15.1.1 0)
                                                          (some ((false, ()), ()))
                                                          ((br (ine r15.1.1 r10.1.1)
                                                            (some ((false, ()), ()))
                                                            (some ((true, ()), ())))))))))))))))))))))))))))))))))))))))))))
noncomputable def laws_FnExactParityFormula_S (N : Nat) : FSum := ⟨laws_FnExactParityFormula_ps, laws_FnExactParityFormula_rs, fun x => laws_FnExactParityFormula N x.1⟩
theorem laws_FnExactParityFormula_run (N : Nat) (x : argsT laws_FnExactParityFormula_ps) : laws_FnExactParityFormula N x.1 = funF (laws_FnExactParityFormula_G N) tab [] Try.f4 laws_FnExactParityFormula_ps laws_FnExactParityFormula_rs x := by kernel_rfl
theorem laws_FnExactParityFormula_pc (N : Nat) : PC Try.prog 4 (laws_FnExactParityFormula_S N) := by
  have e : laws_FnExactParityFormula_S N = ⟨laws_FnExactParityFormula_ps, laws_FnExactParityFormula_rs, funF (laws_FnExactParityFormula_G N) tab [] Try.f4 laws_FnExactParityFormula_ps laws_FnExactParityFormula_rs⟩ := congrArg (FSum.mk laws_FnExactParityFormula_ps laws_FnExactParityFormula_rs) (funext (laws_FnExactParityFormula_run N))
  rw [e]
  exact fun_ok (c := laws_FnExactParityFormula_code) progOk (laws_FnExactParityFormula_gok N) (draw_ok progOk (laws_FnExactParityFormula_gok N)) Try.call4 Try.func4 (by kernel_rfl) (lsOk_at (L := []) trivial) (by kernel_rfl) (by kernel_rfl) (by kernel_rfl) (by kernel_rfl) (by kernel_rfl)
end Go.Proofs.Ythkejedgfhjdiaa
