/- Functions of the program as functions on data. -/
import Derived.Test.YtgelipdkheahdaaThresholdSpaceFc
set_option linter.all false
namespace Go.Proofs.Ytgelipdkheahdaa
open Go Go.PV
/-! ### laws_heldIntS -/
abbrev laws_heldIntS_ps : List (PV.Mode × Ty) := [(.ro, LI), (.ro, I)]
abbrev laws_heldIntS_rs : List (Bool × Ty) := [(true, I)]
noncomputable def laws_heldIntS_G (N : Nat) : GTab := gOf []
theorem laws_heldIntS_gok (N : Nat) : GOk Try.prog (laws_heldIntS_G N) := gOf_ok trivial
noncomputable def laws_heldIntS_code : Code := (Try.f88.body).getD .skip
noncomputable def laws_heldIntS_l0_sh : Sh := ⟨[(0, .one (.ro LI)), (1, .one (.ro I)), (5, .one (.ro I))], []⟩
noncomputable def laws_heldIntS_l0_ex : List (Ex × Sh) := [(.ret, ⟨[(4, .one (.ro I))], []⟩), (.exit 0, ⟨[(1, .one (.ro I))], []⟩)]
noncomputable def laws_heldIntS_l0 {R : Type} (N : Nat) (k0 : Int → Option R) (k1 : Int → Option R) : Nat → (List Int) → Int → Int → Option R
  | 0, _, _, _ => none
  | K + 1, a1, kv1, i =>
    (br (ilt i (tLen a1))
      ((chk (inb a1 i)
        (br (ine (rdI a1 i) kv1)
        (k0 (-1))
        (laws_heldIntS_l0 N k0 k1 K a1 (IntKind.i64.wrap (kv1 + 1)) (IntKind.i64.wrap (i + 1))))))
      (k1 kv1))
noncomputable def laws_heldIntS_l0_again {R : Type} (N : Nat) (ks : (j : Nat) → ((laws_heldIntS_l0_ex.getD j (.ret, Sh.none)).2).T → Option R) (k : Nat) (x : laws_heldIntS_l0_sh.T) : Option R :=
  laws_heldIntS_l0 N (fun y0 => ks 0 ((y0, ()), ())) (fun y0 => ks 1 ((y0, ()), ())) k x.1.1 x.1.2.1 x.1.2.2.1
noncomputable def laws_heldIntS_l0_s (N : Nat) : LSum := ⟨laws_heldIntS_l0_sh, laws_heldIntS_l0_ex, fun x ks => laws_heldIntS_l0_again N ks N x⟩
theorem laws_heldIntS_l0_step (N : Nat) (R : Type) (k : Nat) (x : laws_heldIntS_l0_sh.T) (ks : (j : Nat) → ((laws_heldIntS_l0_ex.getD j (.ret, Sh.none)).2).T → Option R) : laws_heldIntS_l0_again N ks (k + 1) x = roundF (laws_heldIntS_G N) tab [] (loopAt laws_heldIntS_code 0) laws_heldIntS_l0_sh laws_heldIntS_l0_ex (fun y => laws_heldIntS_l0_again N ks k y) ks x := by kernel_rfl
theorem laws_heldIntS_l0_ok (N : Nat) : LoopOk Try.prog Try.f88.ntmps (laws_heldIntS_l0_s N) (loopAt laws_heldIntS_code 0) :=
  loop_ok (l := laws_heldIntS_l0_s N) progOk (laws_heldIntS_gok N) (draw_ok progOk (laws_heldIntS_gok N)) (fun R k x ks => laws_heldIntS_l0_again N ks k x) (fun _ _ _ => rfl) (fun R k x ks => laws_heldIntS_l0_step N R k x ks) (fun R x ks r h => ⟨N, h⟩) (lsOk_at (L := []) trivial) (by kernel_rfl) (by kernel_rfl)
noncomputable def laws_heldIntS (N : Nat) (a : (List Int)) (kv : Int) : Option ((Int × Unit) × (Unit)) :=
  laws_heldIntS_l0 N (fun x => some ((x, ()), ())) (fun kv1 => some ((kv1, ()), ())) N a kv 0
noncomputable def laws_heldIntS_S (N : Nat) : FSum := ⟨laws_heldIntS_ps, laws_heldIntS_rs, fun x => laws_heldIntS N x.1 x.2.1⟩
theorem laws_heldIntS_run (N : Nat) (x : argsT laws_heldIntS_ps) : laws_heldIntS N x.1 x.2.1 = funF (laws_heldIntS_G N) tab [laws_heldIntS_l0_s N] Try.f88 laws_heldIntS_ps laws_heldIntS_rs x := by kernel_rfl
theorem laws_heldIntS_pc (N : Nat) : PC Try.prog 88 (laws_heldIntS_S N) := by
  have e : laws_heldIntS_S N = ⟨laws_heldIntS_ps, laws_heldIntS_rs, funF (laws_heldIntS_G N) tab [laws_heldIntS_l0_s N] Try.f88 laws_heldIntS_ps laws_heldIntS_rs⟩ := congrArg (FSum.mk laws_heldIntS_ps laws_heldIntS_rs) (funext (laws_heldIntS_run N))
  rw [e]
  exact fun_ok (c := laws_heldIntS_code) progOk (laws_heldIntS_gok N) (draw_ok progOk (laws_heldIntS_gok N)) Try.call88 Try.func88 (by kernel_rfl) (lsOk_at (L := [laws_heldIntS_l0_s N]) ⟨laws_heldIntS_l0_ok N, trivial⟩) (by kernel_rfl) (by kernel_rfl) (by kernel_rfl) (by kernel_rfl) (by kernel_rfl)

/-! ### laws_heldIntSS -/
abbrev laws_heldIntSS_ps : List (PV.Mode × Ty) := [(.ro, LLI), (.ro, I)]
abbrev laws_heldIntSS_rs : List (Bool × Ty) := [(true, I)]
noncomputable def laws_heldIntSS_G (N : Nat) : GTab := gOf [(88, laws_heldIntS_S N)]
theorem laws_heldIntSS_gok (N : Nat) : GOk Try.prog (laws_heldIntSS_G N) := gOf_ok ⟨laws_heldIntS_pc N, trivial⟩
noncomputable def laws_heldIntSS_code : Code := (Try.f52.body).getD .skip
noncomputable def laws_heldIntSS_l0_sh : Sh := ⟨[(0, .one (.ro LLI)), (1, .one (.ro I)), (5, .one (.ro I))], []⟩
noncomputable def laws_heldIntSS_l0_ex : List (Ex × Sh) := [(.ret, ⟨[(4, .one (.ro I))], []⟩), (.exit 0, ⟨[(1, .one (.ro I))], []⟩)]
noncomputable def laws_heldIntSS_l0 {R : Type} (N : Nat) (k0 : Int → Option R) (k1 : Int → Option R) : Nat → (List (List Int)) → Int → Int → Option R
  | 0, _, _, _ => none
  | K + 1, a1, kv1, i =>
    (br (ilt i (tLen a1))
      ((chk (inb a1 i)
        ((laws_heldIntS N (rdL a1 i) kv1).bind fun r =>
        (br (ilt r.1.1 0)
          (k0 (-1))
          (laws_heldIntSS_l0 N k0 k1 K a1 r.1.1 (IntKind.i64.wrap (i + 1)))))))
      (k1 kv1))
noncomputable def laws_heldIntSS_l0_again {R : Type} (N : Nat) (ks : (j : Nat) → ((laws_heldIntSS_l0_ex.getD j (.ret, Sh.none)).2).T → Option R) (k : Nat) (x : laws_heldIntSS_l0_sh.T) : Option R :=
  laws_heldIntSS_l0 N (fun y0 => ks 0 ((y0, ()), ())) (fun y0 => ks 1 ((y0, ()), ())) k x.1.1 x.1.2.1 x.1.2.2.1
noncomputable def laws_heldIntSS_l0_s (N : Nat) : LSum := ⟨laws_heldIntSS_l0_sh, laws_heldIntSS_l0_ex, fun x ks => laws_heldIntSS_l0_again N ks N x⟩
theorem laws_heldIntSS_l0_step (N : Nat) (R : Type) (k : Nat) (x : laws_heldIntSS_l0_sh.T) (ks : (j : Nat) → ((laws_heldIntSS_l0_ex.getD j (.ret, Sh.none)).2).T → Option R) : laws_heldIntSS_l0_again N ks (k + 1) x = roundF (laws_heldIntSS_G N) tab [] (loopAt laws_heldIntSS_code 0) laws_heldIntSS_l0_sh laws_heldIntSS_l0_ex (fun y => laws_heldIntSS_l0_again N ks k y) ks x := by kernel_rfl
theorem laws_heldIntSS_l0_ok (N : Nat) : LoopOk Try.prog Try.f52.ntmps (laws_heldIntSS_l0_s N) (loopAt laws_heldIntSS_code 0) :=
  loop_ok (l := laws_heldIntSS_l0_s N) progOk (laws_heldIntSS_gok N) (draw_ok progOk (laws_heldIntSS_gok N)) (fun R k x ks => laws_heldIntSS_l0_again N ks k x) (fun _ _ _ => rfl) (fun R k x ks => laws_heldIntSS_l0_step N R k x ks) (fun R x ks r h => ⟨N, h⟩) (lsOk_at (L := []) trivial) (by kernel_rfl) (by kernel_rfl)
noncomputable def laws_heldIntSS (N : Nat) (a : (List (List Int))) (kv : Int) : Option ((Int × Unit) × (Unit)) :=
  laws_heldIntSS_l0 N (fun x => some ((x, ()), ())) (fun kv1 => some ((kv1, ()), ())) N a kv 0
noncomputable def laws_heldIntSS_S (N : Nat) : FSum := ⟨laws_heldIntSS_ps, laws_heldIntSS_rs, fun x => laws_heldIntSS N x.1 x.2.1⟩
theorem laws_heldIntSS_run (N : Nat) (x : argsT laws_heldIntSS_ps) : laws_heldIntSS N x.1 x.2.1 = funF (laws_heldIntSS_G N) tab [laws_heldIntSS_l0_s N] Try.f52 laws_heldIntSS_ps laws_heldIntSS_rs x := by kernel_rfl
theorem laws_heldIntSS_pc (N : Nat) : PC Try.prog 52 (laws_heldIntSS_S N) := by
  have e : laws_heldIntSS_S N = ⟨laws_heldIntSS_ps, laws_heldIntSS_rs, funF (laws_heldIntSS_G N) tab [laws_heldIntSS_l0_s N] Try.f52 laws_heldIntSS_ps laws_heldIntSS_rs⟩ := congrArg (FSum.mk laws_heldIntSS_ps laws_heldIntSS_rs) (funext (laws_heldIntSS_run N))
  rw [e]
  exact fun_ok (c := laws_heldIntSS_code) progOk (laws_heldIntSS_gok N) (draw_ok progOk (laws_heldIntSS_gok N)) Try.call52 Try.func52 (by kernel_rfl) (lsOk_at (L := [laws_heldIntSS_l0_s N]) ⟨laws_heldIntSS_l0_ok N, trivial⟩) (by kernel_rfl) (by kernel_rfl) (by kernel_rfl) (by kernel_rfl) (by kernel_rfl)

/-! ### laws_heldIntA2S -/
abbrev laws_heldIntA2S_ps : List (PV.Mode × Ty) := [(.ro, LQII), (.ro, I)]
abbrev laws_heldIntA2S_rs : List (Bool × Ty) := [(true, I)]
noncomputable def laws_heldIntA2S_G (N : Nat) : GTab := gOf []
theorem laws_heldIntA2S_gok (N : Nat) : GOk Try.prog (laws_heldIntA2S_G N) := gOf_ok trivial
noncomputable def laws_heldIntA2S_code : Code := (Try.f53.body).getD .skip
noncomputable def laws_heldIntA2S_l0_0_sh : Sh := ⟨[(0, .one (.ro LQII)), (1, .one (.ro I)), (5, .one (.ro I)), (6, .one (.num .i64 0))], []⟩
noncomputable def laws_heldIntA2S_l0_0_ex : List (Ex × Sh) := [(.ret, ⟨[(4, .one (.ro I))], []⟩), (.exit 2, ⟨[(0, .one (.ro LQII)), (1, .one (.ro I)), (5, .one (.ro I))], []⟩)]
noncomputable def laws_heldIntA2S_l0_0 {R : Type} (N : Nat) (k0 : Int → Option R) (k1 : (List (Int × Int)) → Int → Int → Option R) (_ : Nat) (a3 : (List (Int × Int))) (kv3 : Int) (i2 : Int) : Option R :=
  (chk (inb a3 i2)
    (br (ine ((rdP a3 i2).1) kv3)
    (k0 (-1))
    ((chk (inb a3 i2)
      (br (ine ((rdP a3 i2).2) (IntKind.i64.wrap (kv3 + 1)))
      (k0 (-1))
      (k1 a3 (IntKind.i64.wrap ((IntKind.i64.wrap (kv3 + 1)) + 1)) i2))))))
noncomputable def laws_heldIntA2S_l0_0_again {R : Type} (N : Nat) (ks : (j : Nat) → ((laws_heldIntA2S_l0_0_ex.getD j (.ret, Sh.none)).2).T → Option R) (x : laws_heldIntA2S_l0_0_sh.T) : Option R :=
  laws_heldIntA2S_l0_0 N (fun y0 => ks 0 ((y0, ()), ())) (fun y0 y1 y2 => ks 1 ((y0, y1, y2, ()), ())) N x.1.1 x.1.2.1 x.1.2.2.1
noncomputable def laws_heldIntA2S_l0_0_s (N : Nat) : LSum := ⟨laws_heldIntA2S_l0_0_sh, laws_heldIntA2S_l0_0_ex, fun x ks => laws_heldIntA2S_l0_0_again N ks x⟩
theorem laws_heldIntA2S_l0_0_unr (N : Nat) (R : Type) (x : laws_heldIntA2S_l0_0_sh.T) (ks : (j : Nat) → ((laws_heldIntA2S_l0_0_ex.getD j (.ret, Sh.none)).2).T → Option R) : laws_heldIntA2S_l0_0_again N ks x = unrF (laws_heldIntA2S_G N) tab (loopAt (loopAt laws_heldIntA2S_code 0) 0) laws_heldIntA2S_l0_0_ex ks 3 (fill laws_heldIntA2S_l0_0_sh x) := by kernel_rfl
theorem laws_heldIntA2S_l0_0_ok (N : Nat) : LoopOk Try.prog Try.f53.ntmps (laws_heldIntA2S_l0_0_s N) (loopAt (loopAt laws_heldIntA2S_code 0) 0) :=
  unroll_ok (l := laws_heldIntA2S_l0_0_s N) progOk (laws_heldIntA2S_gok N) (draw_ok progOk (laws_heldIntA2S_gok N)) (fun R x ks r h => ⟨3, (laws_heldIntA2S_l0_0_unr N R x ks).symm.trans h⟩) (by kernel_rfl) (by kernel_rfl)
noncomputable def laws_heldIntA2S_l0_sh : Sh := ⟨[(0, .one (.ro LQII)), (1, .one (.ro I)), (5, .one (.ro I))], []⟩
noncomputable def laws_heldIntA2S_l0_ex : List (Ex × Sh) := [(.ret, ⟨[(4, .one (.ro I))], []⟩), (.exit 0, ⟨[(1, .one (.ro I))], []⟩)]
noncomputable def laws_heldIntA2S_l0 {R : Type} (N : Nat) (k0 : Int → Option R) (k1 : Int → Option R) : Nat → (List (Int × Int)) → Int → Int → Option R
  | 0, _, _, _ => none
  | K + 1, a1, kv1, i =>
    (br (ilt i (tLen a1))
      (laws_heldIntA2S_l0_0 N (fun x => k0 x) (fun a2 kv2 i1 => laws_heldIntA2S_l0 N k0 k1 K a2 kv2 (IntKind.i64.wrap (i1 + 1))) N a1 kv1 i)
      (k1 kv1))
noncomputable def laws_heldIntA2S_l0_again {R : Type} (N : Nat) (ks : (j : Nat) → ((laws_heldIntA2S_l0_ex.getD j (.ret, Sh.none)).2).T → Option R) (k : Nat) (x : laws_heldIntA2S_l0_sh.T) : Option R :=
  laws_heldIntA2S_l0 N (fun y0 => ks 0 ((y0, ()), ())) (fun y0 => ks 1 ((y0, ()), ())) k x.1.1 x.1.2.1 x.1.2.2.1
noncomputable def laws_heldIntA2S_l0_s (N : Nat) : LSum := ⟨laws_heldIntA2S_l0_sh, laws_heldIntA2S_l0_ex, fun x ks => laws_heldIntA2S_l0_again N ks N x⟩
theorem laws_heldIntA2S_l0_step (N : Nat) (R : Type) (k : Nat) (x : laws_heldIntA2S_l0_sh.T) (ks : (j : Nat) → ((laws_heldIntA2S_l0_ex.getD j (.ret, Sh.none)).2).T → Option R) : laws_heldIntA2S_l0_again N ks (k + 1) x = roundF (laws_heldIntA2S_G N) tab [laws_heldIntA2S_l0_0_s N] (loopAt laws_heldIntA2S_code 0) laws_heldIntA2S_l0_sh laws_heldIntA2S_l0_ex (fun y => laws_heldIntA2S_l0_again N ks k y) ks x := by kernel_rfl
theorem laws_heldIntA2S_l0_ok (N : Nat) : LoopOk Try.prog Try.f53.ntmps (laws_heldIntA2S_l0_s N) (loopAt laws_heldIntA2S_code 0) :=
  loop_ok (l := laws_heldIntA2S_l0_s N) progOk (laws_heldIntA2S_gok N) (draw_ok progOk (laws_heldIntA2S_gok N)) (fun R k x ks => laws_heldIntA2S_l0_again N ks k x) (fun _ _ _ => rfl) (fun R k x ks => laws_heldIntA2S_l0_step N R k x ks) (fun R x ks r h => ⟨N, h⟩) (lsOk_at (L := [laws_heldIntA2S_l0_0_s N]) ⟨laws_heldIntA2S_l0_0_ok N, trivial⟩) (by kernel_rfl) (by kernel_rfl)
noncomputable def laws_heldIntA2S (N : Nat) (a : (List (Int × Int))) (kv : Int) : Option ((Int × Unit) × (Unit)) :=
  laws_heldIntA2S_l0 N (fun x => some ((x, ()), ())) (fun kv1 => some ((kv1, ()), ())) N a kv 0
noncomputable def laws_heldIntA2S_S (N : Nat) : FSum := ⟨laws_heldIntA2S_ps, laws_heldIntA2S_rs, fun x => laws_heldIntA2S N x.1 x.2.1⟩
theorem laws_heldIntA2S_run (N : Nat) (x : argsT laws_heldIntA2S_ps) : laws_heldIntA2S N x.1 x.2.1 = funF (laws_heldIntA2S_G N) tab [laws_heldIntA2S_l0_s N] Try.f53 laws_heldIntA2S_ps laws_heldIntA2S_rs x := by kernel_rfl
theorem laws_heldIntA2S_pc (N : Nat) : PC Try.prog 53 (laws_heldIntA2S_S N) := by
  have e : laws_heldIntA2S_S N = ⟨laws_heldIntA2S_ps, laws_heldIntA2S_rs, funF (laws_heldIntA2S_G N) tab [laws_heldIntA2S_l0_s N] Try.f53 laws_heldIntA2S_ps laws_heldIntA2S_rs⟩ := congrArg (FSum.mk laws_heldIntA2S_ps laws_heldIntA2S_rs) (funext (laws_heldIntA2S_run N))
  rw [e]
  exact fun_ok (c := laws_heldIntA2S_code) progOk (laws_heldIntA2S_gok N) (draw_ok progOk (laws_heldIntA2S_gok N)) Try.call53 Try.func53 (by kernel_rfl) (lsOk_at (L := [laws_heldIntA2S_l0_s N]) ⟨laws_heldIntA2S_l0_ok N, trivial⟩) (by kernel_rfl) (by kernel_rfl) (by kernel_rfl) (by kernel_rfl) (by kernel_rfl)

/-! ### laws_heldSpace -/
abbrev laws_heldSpace_ps : List (PV.Mode × Ty) := [(.ro, QLLILQII), (.ro, I)]
abbrev laws_heldSpace_rs : List (Bool × Ty) := [(true, I)]
noncomputable def laws_heldSpace_G (N : Nat) : GTab := gOf [(52, laws_heldIntSS_S N), (53, laws_heldIntA2S_S N)]
theorem laws_heldSpace_gok (N : Nat) : GOk Try.prog (laws_heldSpace_G N) := gOf_ok ⟨laws_heldIntSS_pc N, laws_heldIntA2S_pc N, trivial⟩
noncomputable def laws_heldSpace_code : Code := (Try.f19.body).getD .skip
noncomputable def laws_heldSpace (N : Nat) (a : ((List (List Int)) × (List (Int × Int)))) (kv : Int) : Option ((Int × Unit) × (Unit)) :=
  ((laws_heldIntSS N a.1 kv).bind fun r =>
    (br (ilt r.1.1 0)
      (some (((-1), ()), ()))
      (((laws_heldIntA2S N a.2 r.1.1).bind fun r1 =>
        (br (ilt r1.1.1 0)
          (some (((-1), ()), ()))
          (some ((r1.1.1, ()), ())))))))
noncomputable def laws_heldSpace_S (N : Nat) : FSum := ⟨laws_heldSpace_ps, laws_heldSpace_rs, fun x => laws_heldSpace N x.1 x.2.1⟩
theorem laws_heldSpace_run (N : Nat) (x : argsT laws_heldSpace_ps) : laws_heldSpace N x.1 x.2.1 = funF (laws_heldSpace_G N) tab [] Try.f19 laws_heldSpace_ps laws_heldSpace_rs x := by kernel_rfl
theorem laws_heldSpace_pc (N : Nat) : PC Try.prog 19 (laws_heldSpace_S N) := by
  have e : laws_heldSpace_S N = ⟨laws_heldSpace_ps, laws_heldSpace_rs, funF (laws_heldSpace_G N) tab [] Try.f19 laws_heldSpace_ps laws_heldSpace_rs⟩ := congrArg (FSum.mk laws_heldSpace_ps laws_heldSpace_rs) (funext (laws_heldSpace_run N))
  rw [e]
  exact fun_ok (c := laws_heldSpace_code) progOk (laws_heldSpace_gok N) (draw_ok progOk (laws_heldSpace_gok N)) Try.call19 Try.func19 (by kernel_rfl) (lsOk_at (L := []) trivial) (by kernel_rfl) (by kernel_rfl) (by kernel_rfl) (by kernel_rfl) (by kernel_rfl)

/-! ### laws_FnExactThresholdSpace -/
abbrev laws_FnExactThresholdSpace_ps : List (PV.Mode × Ty) := [(.ro, QILQII), (.ro, I), (.ro, I)]
abbrev laws_FnExactThresholdSpace_rs : List (Bool × Ty) := [(true, .bool)]
noncomputable def laws_FnExactThresholdSpace_G (N : Nat) : GTab := gOf [(9, laws_szGraph_S N), (11, laws_toGraph_S N), (22, spec_ThresholdSpace_S N), (23, impl_ThresholdSpace_S N), (16, laws_eqSpace_S N), (13, laws_eqGraph_S N), (17, laws_markGraph_S N), (18, laws_markSpace_S N), (19, laws_heldSpace_S N)]
theorem laws_FnExactThresholdSpace_gok (N : Nat) : GOk Try.prog (laws_FnExactThresholdSpace_G N) := gOf_ok ⟨laws_szGraph_pc N, laws_toGraph_pc N, spec_ThresholdSpace_pc N, impl_ThresholdSpace_pc N, laws_eqSpace_pc N, laws_eqGraph_pc N, laws_markGraph_pc N, laws_markSpace_pc N, laws_heldSpace_pc N, trivial⟩
noncomputable def laws_FnExactThresholdSpace_code : Code := (Try.f6.body).getD .skip
noncomputable def laws_FnExactThresholdSpace (N : Nat) (c : (Int × (List (Int × Int)))) (c1 : Int) (c2 : Int) : Option ((Bool × Unit) × (Unit)) :=
  ((laws_szGraph N (c.1, c.2) 1048576).bind fun r =>
    (br (ilt r.1.1 0)
      (some ((true, ()), ()))
      (((laws_toGraph N (c.1, c.2)).bind fun r1 =>
        ((spec_ThresholdSpace N (r1.1.1.1, r1.1.1.2) c1 c2).bind fun r2 =>
          ((laws_toGraph N (c.1, c.2)).bind fun r3 =>
            ((impl_ThresholdSpace N (r3.1.1.1, r3.1.1.2) c1 c2).bind fun r4 =>
              ((laws_eqSpace N (r4.1.1.1, r4.1.1.2) (r2.1.1.1, r2.1.1.2)).bind fun r5 =>
                (br (!r5.1.1)
                  (some ((false, ()), ()))
                  ((br (!(r4.1.2.1 == r2.1.2.1))
                    (some ((false, ()), ()))
                    (((laws_toGraph N (c.1, c.2)).bind fun r6 =>
                      ((laws_eqGraph N (r3.1.1.1, r3.1.1.2) (r6.1.1.1, r6.1.1.2)).bind fun r7 =>
                        (br (!r7.1.1)
                          (some ((false, ()), ()))
                          (((laws_markGraph N (r3.1.1.1, r3.1.1.2) 1).bind fun r8 =>
                            (br (ilt r8.1.1 0)
                              (some ((false, ()), ()))
                              (((laws_eqSpace N (r4.1.1.1, r4.1.1.2) (r2.1.1.1, r2.1.1.2)).bind fun r9 =>
                                (br (!r9.1.1)
                                  (some ((false, ()), ()))
                                  ((br (!(r4.1.2.1 == r2.1.2.1))
                                    (some ((false, ()), ()))
                                    (((laws_markSpace N (r4.1.1.1, r4.1.1.2) 1).bind fun r10 =>
                                      ((laws_heldSpace N (r10.2.1.1, r10.2.1.2) 1).bind fun r11 =>
                                        (br (ilt r11.1.1 0)
                                          (some ((false, ()), ()))
                                          ((br (ine r11.1.1 r10.1.1)
                                            (some ((false, ()), ()))
                                            (((laws_toGraph N (c.1, c.2)).bind fun r12 =>
                                              ((impl_ThresholdSpace N (r12.1.1.1, r12.1.1.2) c1 c2).bind fun r13 =>
                                                ((laws_eqSpace N (r13.1.1.1, r13.1.1.2) (r2.1.1.1, r2.1.1.2)).bind fun r14 =>
                                                  (br (!r14.1.1)
                                                    (some ((false, ()), ()))
                                                    ((br (!(r13.1.2.1 == r2.1.2.1))
                                                      (some ((false, ()), ()))
                                                      (((laws_heldSpace N (r10.2.1.1, r10.2.1.2) 1).bind fun r15 =>
                                                        (br (ilt r15.1.1 0)
                                                          (some ((false, ()), ()))
                                                          ((br (ine r15.1.1 r10.1.1)
                                                            (some ((false, ()), ()))
                                                            (some ((true, ()), ())))))))))))))))))))))))))))))))))))))))))))
noncomputable def laws_FnExactThresholdSpace_S (N : Nat) : FSum := ⟨laws_FnExactThresholdSpace_ps, laws_FnExactThresholdSpace_rs, fun x => laws_FnExactThresholdSpace N x.1 x.2.1 x.2.2.1⟩
theorem laws_FnExactThresholdSpace_run (N : Nat) (x : argsT laws_FnExactThresholdSpace_ps) : laws_FnExactThresholdSpace N x.1 x.2.1 x.2.2.1 = funF (laws_FnExactThresholdSpace_G N) tab [] Try.f6 laws_FnExactThresholdSpace_ps laws_FnExactThresholdSpace_rs x := by kernel_rfl
theorem laws_FnExactThresholdSpace_pc (N : Nat) : PC Try.prog 6 (laws_FnExactThresholdSpace_S N) := by
  have e : laws_FnExactThresholdSpace_S N = ⟨laws_FnExactThresholdSpace_ps, laws_FnExactThresholdSpace_rs, funF (laws_FnExactThresholdSpace_G N) tab [] Try.f6 laws_FnExactThresholdSpace_ps laws_FnExactThresholdSpace_rs⟩ := congrArg (FSum.mk laws_FnExactThresholdSpace_ps laws_FnExactThresholdSpace_rs) (funext (laws_FnExactThresholdSpace_run N))
  rw [e]
  exact fun_ok (c := laws_FnExactThresholdSpace_code) progOk (laws_FnExactThresholdSpace_gok N) (draw_ok progOk (laws_FnExactThresholdSpace_gok N)) Try.call6 Try.func6 (by kernel_rfl) (lsOk_at (L := []) trivial) (by kernel_rfl) (by kernel_rfl) (by kernel_rfl) (by kernel_rfl) (by kernel_rfl)
end Go.Proofs.Ytgelipdkheahdaa
