/- Functions of the program as functions on data. -/
import Derived.Test.YtbnebekejbhopaaFixVarTa
set_option linter.all false
namespace Go.Proofs.Ytbnebekejbhopaa
open Go Go.PV
/-! ### laws_szIntS -/
noncomputable def laws_szIntS_G (N : Nat) : GTab := gOf []
theorem laws_szIntS_gok (N : Nat) : GOk Try.prog (laws_szIntS_G N) := gOf_ok trivial
noncomputable def laws_szIntS_code : Code := (Try.f64.body).getD .skip
noncomputable def laws_szIntS (N : Nat) (a : (List Int)) (left : Int) : Option ((Int × Unit) × (Unit)) :=
  (br (ilt (IntKind.i64.wrap (left - (tLen a))) 0)
    (some (((-1), ()), ()))
    (some (((IntKind.i64.wrap (left - (tLen a))), ()), ())))
abbrev laws_szIntS_ps : List (PV.Mode × Ty) := [(.ro, LI), (.ro, I)]
abbrev laws_szIntS_rs : List (Bool × Ty) := [(true, I)]
noncomputable def laws_szIntS_S (N : Nat) : FSum := ⟨laws_szIntS_ps, laws_szIntS_rs, fun x => laws_szIntS N x.1 x.2.1⟩
theorem laws_szIntS_run (N : Nat) (x : argsT laws_szIntS_ps) : laws_szIntS N x.1 x.2.1 = funF (laws_szIntS_G N) tab [] Try.f64 laws_szIntS_ps laws_szIntS_rs x := by kernel_rfl
theorem laws_szIntS_pc (N : Nat) : PC Try.prog 64 (laws_szIntS_S N) := by
  have e : laws_szIntS_S N = ⟨laws_szIntS_ps, laws_szIntS_rs, funF (laws_szIntS_G N) tab [] Try.f64 laws_szIntS_ps laws_szIntS_rs⟩ := congrArg (FSum.mk laws_szIntS_ps laws_szIntS_rs) (funext (laws_szIntS_run N))
  rw [e]
  exact fun_ok (c := laws_szIntS_code) progOk (laws_szIntS_gok N) (draw_ok progOk (laws_szIntS_gok N)) Try.call64 Try.func64 (by kernel_rfl) (lsOk_at (L := []) trivial) (by kernel_rfl) (by kernel_rfl) (by kernel_rfl) (by kernel_rfl) (by kernel_rfl)

/-! ### laws_szIntSS -/
noncomputable def laws_szIntSS_G (N : Nat) : GTab := gOf [(64, laws_szIntS_S N)]
theorem laws_szIntSS_gok (N : Nat) : GOk Try.prog (laws_szIntSS_G N) := gOf_ok ⟨laws_szIntS_pc N, trivial⟩
noncomputable def laws_szIntSS_code : Code := (Try.f59.body).getD .skip
noncomputable def laws_szIntSS_l0_sh : Sh := ⟨[(0, .one (.ro LLI)), (1, .one (.ro I)), (5, .one (.ro I))], []⟩
noncomputable def laws_szIntSS_l0_ex : List (Ex × Sh) := [(.ret, ⟨[(4, .one (.ro I))], []⟩), (.exit 0, ⟨[(1, .one (.ro I))], []⟩)]
noncomputable def laws_szIntSS_l0 {R : Type} (N : Nat) (k0 : Int → Option R) (k1 : Int → Option R) : Nat → (List (List Int)) → Int → Int → Option R
  | 0, _, _, _ => none
  | K + 1, a1, left1, i =>
    (br (ilt i (tLen a1))
      ((chk (inb a1 i)
        ((laws_szIntS N (rdL a1 i) left1).bind fun r =>
        (br (ilt r.1.1 0)
          (k0 (-1))
          (laws_szIntSS_l0 N k0 k1 K a1 r.1.1 (IntKind.i64.wrap (i + 1)))))))
      (k1 left1))
noncomputable def laws_szIntSS_l0_again {R : Type} (N : Nat) (ks : (j : Nat) → ((laws_szIntSS_l0_ex.getD j (.ret, Sh.none)).2).T → Option R) (k : Nat) (x : laws_szIntSS_l0_sh.T) : Option R :=
  laws_szIntSS_l0 N (fun y0 => ks 0 ((y0, ()), ())) (fun y0 => ks 1 ((y0, ()), ())) k x.1.1 x.1.2.1 x.1.2.2.1
noncomputable def laws_szIntSS_l0_s (N : Nat) : LSum := ⟨laws_szIntSS_l0_sh, laws_szIntSS_l0_ex, fun x ks => laws_szIntSS_l0_again N ks N x⟩
theorem laws_szIntSS_l0_step (N : Nat) (R : Type) (k : Nat) (x : laws_szIntSS_l0_sh.T) (ks : (j : Nat) → ((laws_szIntSS_l0_ex.getD j (.ret, Sh.none)).2).T → Option R) : laws_szIntSS_l0_again N ks (k + 1) x = roundF (laws_szIntSS_G N) tab [] (loopAt laws_szIntSS_code 0) laws_szIntSS_l0_sh laws_szIntSS_l0_ex (fun y => laws_szIntSS_l0_again N ks k y) ks x := by kernel_rfl
theorem laws_szIntSS_l0_ok (N : Nat) : LoopOk Try.prog Try.f59.ntmps (laws_szIntSS_l0_s N) (loopAt laws_szIntSS_code 0) :=
  loop_ok (l := laws_szIntSS_l0_s N) progOk (laws_szIntSS_gok N) (draw_ok progOk (laws_szIntSS_gok N)) (fun R k x ks => laws_szIntSS_l0_again N ks k x) (fun _ _ _ => rfl) (fun R k x ks => laws_szIntSS_l0_step N R k x ks) (fun R x ks r h => ⟨N, h⟩) (lsOk_at (L := []) trivial) (by kernel_rfl) (by kernel_rfl)
noncomputable def laws_szIntSS (N : Nat) (a : (List (List Int))) (left : Int) : Option ((Int × Unit) × (Unit)) :=
  (br (ilt (IntKind.i64.wrap (left - (tLen a))) 0)
    (some (((-1), ()), ()))
    (laws_szIntSS_l0 N (fun x => some ((x, ()), ())) (fun left1 => some ((left1, ()), ())) N a (IntKind.i64.wrap (left - (tLen a))) 0))
abbrev laws_szIntSS_ps : List (PV.Mode × Ty) := [(.ro, LLI), (.ro, I)]
abbrev laws_szIntSS_rs : List (Bool × Ty) := [(true, I)]
noncomputable def laws_szIntSS_S (N : Nat) : FSum := ⟨laws_szIntSS_ps, laws_szIntSS_rs, fun x => laws_szIntSS N x.1 x.2.1⟩
theorem laws_szIntSS_run (N : Nat) (x : argsT laws_szIntSS_ps) : laws_szIntSS N x.1 x.2.1 = funF (laws_szIntSS_G N) tab [laws_szIntSS_l0_s N] Try.f59 laws_szIntSS_ps laws_szIntSS_rs x := by kernel_rfl
theorem laws_szIntSS_pc (N : Nat) : PC Try.prog 59 (laws_szIntSS_S N) := by
  have e : laws_szIntSS_S N = ⟨laws_szIntSS_ps, laws_szIntSS_rs, funF (laws_szIntSS_G N) tab [laws_szIntSS_l0_s N] Try.f59 laws_szIntSS_ps laws_szIntSS_rs⟩ := congrArg (FSum.mk laws_szIntSS_ps laws_szIntSS_rs) (funext (laws_szIntSS_run N))
  rw [e]
  exact fun_ok (c := laws_szIntSS_code) progOk (laws_szIntSS_gok N) (draw_ok progOk (laws_szIntSS_gok N)) Try.call59 Try.func59 (by kernel_rfl) (lsOk_at (L := [laws_szIntSS_l0_s N]) ⟨laws_szIntSS_l0_ok N, trivial⟩) (by kernel_rfl) (by kernel_rfl) (by kernel_rfl) (by kernel_rfl) (by kernel_rfl)

/-! ### laws_szFormula -/
noncomputable def laws_szFormula_G (N : Nat) : GTab := gOf [(59, laws_szIntSS_S N)]
theorem laws_szFormula_gok (N : Nat) : GOk Try.prog (laws_szFormula_G N) := gOf_ok ⟨laws_szIntSS_pc N, trivial⟩
noncomputable def laws_szFormula_code : Code := (Try.f19.body).getD .skip
noncomputable def laws_szFormula (N : Nat) (a : (Int × (List (List Int)))) (left : Int) : Option ((Int × Unit) × (Unit)) :=
  ((laws_szIntSS N a.2 left).bind fun r =>
    (br (ilt r.1.1 0)
      (some (((-1), ()), ()))
      (some ((r.1.1, ()), ()))))
abbrev laws_szFormula_ps : List (PV.Mode × Ty) := [(.ro, QILLI), (.ro, I)]
abbrev laws_szFormula_rs : List (Bool × Ty) := [(true, I)]
noncomputable def laws_szFormula_S (N : Nat) : FSum := ⟨laws_szFormula_ps, laws_szFormula_rs, fun x => laws_szFormula N x.1 x.2.1⟩
theorem laws_szFormula_run (N : Nat) (x : argsT laws_szFormula_ps) : laws_szFormula N x.1 x.2.1 = funF (laws_szFormula_G N) tab [] Try.f19 laws_szFormula_ps laws_szFormula_rs x := by kernel_rfl
theorem laws_szFormula_pc (N : Nat) : PC Try.prog 19 (laws_szFormula_S N) := by
  have e : laws_szFormula_S N = ⟨laws_szFormula_ps, laws_szFormula_rs, funF (laws_szFormula_G N) tab [] Try.f19 laws_szFormula_ps laws_szFormula_rs⟩ := congrArg (FSum.mk laws_szFormula_ps laws_szFormula_rs) (funext (laws_szFormula_run N))
  rw [e]
  exact fun_ok (c := laws_szFormula_code) progOk (laws_szFormula_gok N) (draw_ok progOk (laws_szFormula_gok N)) Try.call19 Try.func19 (by kernel_rfl) (lsOk_at (L := []) trivial) (by kernel_rfl) (by kernel_rfl) (by kernel_rfl) (by kernel_rfl) (by kernel_rfl)

/-! ### laws_toIntS -/
noncomputable def laws_toIntS_G (N : Nat) : GTab := gOf []
theorem laws_toIntS_gok (N : Nat) : GOk Try.prog (laws_toIntS_G N) := gOf_ok trivial
noncomputable def laws_toIntS_code : Code := (Try.f16.body).getD .skip
noncomputable def laws_toIntS_l0_sh : Sh := ⟨[(0, .one (.ro LI)), (3, .one (.ref 0)), (4, .one (.ro I))], [.sl 3 I .own]⟩
noncomputable def laws_toIntS_l0_ex : List (Ex × Sh) := [(.exit 0, ⟨[(3, .one (.ref 0))], [.sl 3 I .own]⟩)]
noncomputable def laws_toIntS_l0 {R : Type} (N : Nat) (k0 : (List Int) → Option R) : Nat → (List Int) → Int → (List Int) → Option R
  | 0, _, _, _ => none
  | K + 1, a1, i, o =>
    (br (ilt i (tLen a1))
      ((chk (inb a1 i)
        (chk (inb o i)
        (laws_toIntS_l0 N k0 K a1 (IntKind.i64.wrap (i + 1)) (tSet o i (rdI a1 i))))))
      (k0 o))
noncomputable def laws_toIntS_l0_again {R : Type} (N : Nat) (ks : (j : Nat) → ((laws_toIntS_l0_ex.getD j (.ret, Sh.none)).2).T → Option R) (k : Nat) (x : laws_toIntS_l0_sh.T) : Option R :=
  laws_toIntS_l0 N (fun y0 => ks 0 (((), ()), (y0, ()))) k x.1.1 x.1.2.2.1 x.2.1
noncomputable def laws_toIntS_l0_s (N : Nat) : LSum := ⟨laws_toIntS_l0_sh, laws_toIntS_l0_ex, fun x ks => laws_toIntS_l0_again N ks N x⟩
theorem laws_toIntS_l0_step (N : Nat) (R : Type) (k : Nat) (x : laws_toIntS_l0_sh.T) (ks : (j : Nat) → ((laws_toIntS_l0_ex.getD j (.ret, Sh.none)).2).T → Option R) : laws_toIntS_l0_again N ks (k + 1) x = roundF (laws_toIntS_G N) tab [] (loopAt laws_toIntS_code 0) laws_toIntS_l0_sh laws_toIntS_l0_ex (fun y => laws_toIntS_l0_again N ks k y) ks x := by kernel_rfl
theorem laws_toIntS_l0_ok (N : Nat) : LoopOk Try.prog Try.f16.ntmps (laws_toIntS_l0_s N) (loopAt laws_toIntS_code 0) :=
  loop_ok (l := laws_toIntS_l0_s N) progOk (laws_toIntS_gok N) (draw_ok progOk (laws_toIntS_gok N)) (fun R k x ks => laws_toIntS_l0_again N ks k x) (fun _ _ _ => rfl) (fun R k x ks => laws_toIntS_l0_step N R k x ks) (fun R x ks r h => ⟨N, h⟩) (lsOk_at (L := []) trivial) (by kernel_rfl) (by kernel_rfl)
noncomputable def laws_toIntS (N : Nat) (a : (List Int)) : Option (((List Int) × Unit) × (Unit)) :=
  (chk (ile 0 (tLen a) && ile (tLen a) (tLen a) && fits (tLen a))
    (laws_toIntS_l0 N (fun o => some ((o, ()), ())) N a 0 (tRep (tLen a) 0)))
abbrev laws_toIntS_ps : List (PV.Mode × Ty) := [(.ro, LI)]
abbrev laws_toIntS_rs : List (Bool × Ty) := [(true, LI)]
noncomputable def laws_toIntS_S (N : Nat) : FSum := ⟨laws_toIntS_ps, laws_toIntS_rs, fun x => laws_toIntS N x.1⟩
theorem laws_toIntS_run (N : Nat) (x : argsT laws_toIntS_ps) : laws_toIntS N x.1 = funF (laws_toIntS_G N) tab [laws_toIntS_l0_s N] Try.f16 laws_toIntS_ps laws_toIntS_rs x := by kernel_rfl
theorem laws_toIntS_pc (N : Nat) : PC Try.prog 16 (laws_toIntS_S N) := by
  have e : laws_toIntS_S N = ⟨laws_toIntS_ps, laws_toIntS_rs, funF (laws_toIntS_G N) tab [laws_toIntS_l0_s N] Try.f16 laws_toIntS_ps laws_toIntS_rs⟩ := congrArg (FSum.mk laws_toIntS_ps laws_toIntS_rs) (funext (laws_toIntS_run N))
  rw [e]
  exact fun_ok (c := laws_toIntS_code) progOk (laws_toIntS_gok N) (draw_ok progOk (laws_toIntS_gok N)) Try.call16 Try.func16 (by kernel_rfl) (lsOk_at (L := [laws_toIntS_l0_s N]) ⟨laws_toIntS_l0_ok N, trivial⟩) (by kernel_rfl) (by kernel_rfl) (by kernel_rfl) (by kernel_rfl) (by kernel_rfl)

/-! ### laws_toIntSS -/
noncomputable def laws_toIntSS_G (N : Nat) : GTab := gOf [(16, laws_toIntS_S N)]
theorem laws_toIntSS_gok (N : Nat) : GOk Try.prog (laws_toIntSS_G N) := gOf_ok ⟨laws_toIntS_pc N, trivial⟩
noncomputable def laws_toIntSS_code : Code := (Try.f61.body).getD .skip
noncomputable def laws_toIntSS_l0_sh : Sh := ⟨[(0, .one (.ro LLI)), (3, .one (.ref 0)), (4, .one (.ro I))], [.sl 22 LI .deep]⟩
noncomputable def laws_toIntSS_l0_ex : List (Ex × Sh) := [(.exit 0, ⟨[(3, .one (.ref 0))], [.sl 22 LI .deep]⟩)]
noncomputable def laws_toIntSS_l0 {R : Type} (N : Nat) (k0 : (List (List Int)) → Option R) : Nat → (List (List Int)) → Int → (List (List Int)) → Option R
  | 0, _, _, _ => none
  | K + 1, a1, i, o =>
    (br (ilt i (tLen a1))
      ((chk (inb a1 i)
        ((laws_toIntS N (rdL a1 i)).bind fun r =>
        (chk (inb o i)
          (laws_toIntSS_l0 N k0 K a1 (IntKind.i64.wrap (i + 1)) (tSet o i r.1.1))))))
      (k0 o))
noncomputable def laws_toIntSS_l0_again {R : Type} (N : Nat) (ks : (j : Nat) → ((laws_toIntSS_l0_ex.getD j (.ret, Sh.none)).2).T → Option R) (k : Nat) (x : laws_toIntSS_l0_sh.T) : Option R :=
  laws_toIntSS_l0 N (fun y0 => ks 0 (((), ()), (y0, ()))) k x.1.1 x.1.2.2.1 x.2.1
noncomputable def laws_toIntSS_l0_s (N : Nat) : LSum := ⟨laws_toIntSS_l0_sh, laws_toIntSS_l0_ex, fun x ks => laws_toIntSS_l0_again N ks N x⟩
theorem laws_toIntSS_l0_step (N : Nat) (R : Type) (k : Nat) (x : laws_toIntSS_l0_sh.T) (ks : (j : Nat) → ((laws_toIntSS_l0_ex.getD j (.ret, Sh.none)).2).T → Option R) : laws_toIntSS_l0_again N ks (k + 1) x = roundF (laws_toIntSS_G N) tab [] (loopAt laws_toIntSS_code 0) laws_toIntSS_l0_sh laws_toIntSS_l0_ex (fun y => laws_toIntSS_l0_again N ks k y) ks x := by kernel_rfl
theorem laws_toIntSS_l0_ok (N : Nat) : LoopOk Try.prog Try.f61.ntmps (laws_toIntSS_l0_s N) (loopAt laws_toIntSS_code 0) :=
  loop_ok (l := laws_toIntSS_l0_s N) progOk (laws_toIntSS_gok N) (draw_ok progOk (laws_toIntSS_gok N)) (fun R k x ks => laws_toIntSS_l0_again N ks k x) (fun _ _ _ => rfl) (fun R k x ks => laws_toIntSS_l0_step N R k x ks) (fun R x ks r h => ⟨N, h⟩) (lsOk_at (L := []) trivial) (by kernel_rfl) (by kernel_rfl)
noncomputable def laws_toIntSS (N : Nat) (a : (List (List Int))) : Option (((List (List Int)) × Unit) × (Unit)) :=
  (chk (ile 0 (tLen a) && ile (tLen a) (tLen a) && fits (tLen a))
    (laws_toIntSS_l0 N (fun o => some ((o, ()), ())) N a 0 (tRep (tLen a) [])))
abbrev laws_toIntSS_ps : List (PV.Mode × Ty) := [(.ro, LLI)]
abbrev laws_toIntSS_rs : List (Bool × Ty) := [(true, LLI)]
noncomputable def laws_toIntSS_S (N : Nat) : FSum := ⟨laws_toIntSS_ps, laws_toIntSS_rs, fun x => laws_toIntSS N x.1⟩
theorem laws_toIntSS_run (N : Nat) (x : argsT laws_toIntSS_ps) : laws_toIntSS N x.1 = funF (laws_toIntSS_G N) tab [laws_toIntSS_l0_s N] Try.f61 laws_toIntSS_ps laws_toIntSS_rs x := by kernel_rfl
theorem laws_toIntSS_pc (N : Nat) : PC Try.prog 61 (laws_toIntSS_S N) := by
  have e : laws_toIntSS_S N = ⟨laws_toIntSS_ps, laws_toIntSS_rs, funF (laws_toIntSS_G N) tab [laws_toIntSS_l0_s N] Try.f61 laws_toIntSS_ps laws_toIntSS_rs⟩ := congrArg (FSum.mk laws_toIntSS_ps laws_toIntSS_rs) (funext (laws_toIntSS_run N))
  rw [e]
  exact fun_ok (c := laws_toIntSS_code) progOk (laws_toIntSS_gok N) (draw_ok progOk (laws_toIntSS_gok N)) Try.call61 Try.func61 (by kernel_rfl) (lsOk_at (L := [laws_toIntSS_l0_s N]) ⟨laws_toIntSS_l0_ok N, trivial⟩) (by kernel_rfl) (by kernel_rfl) (by kernel_rfl) (by kernel_rfl) (by kernel_rfl)

/-! ### laws_toFormula -/
noncomputable def laws_toFormula_G (N : Nat) : GTab := gOf [(61, laws_toIntSS_S N)]
theorem laws_toFormula_gok (N : Nat) : GOk Try.prog (laws_toFormula_G N) := gOf_ok ⟨laws_toIntSS_pc N, trivial⟩
noncomputable def laws_toFormula_code : Code := (Try.f21.body).getD .skip
noncomputable def laws_toFormula (N : Nat) (a : (Int × (List (List Int)))) : Option (((Int × (List (List Int))) × Unit) × (Unit)) :=
  ((laws_toIntSS N a.2).bind fun r =>
    some (((a.1, r.1.1), ()), ()))
abbrev laws_toFormula_ps : List (PV.Mode × Ty) := [(.ro, QILLI)]
abbrev laws_toFormula_rs : List (Bool × Ty) := [(true, QILLI)]
noncomputable def laws_toFormula_S (N : Nat) : FSum := ⟨laws_toFormula_ps, laws_toFormula_rs, fun x => laws_toFormula N x.1⟩
theorem laws_toFormula_run (N : Nat) (x : argsT laws_toFormula_ps) : laws_toFormula N x.1 = funF (laws_toFormula_G N) tab [] Try.f21 laws_toFormula_ps laws_toFormula_rs x := by kernel_rfl
theorem laws_toFormula_pc (N : Nat) : PC Try.prog 21 (laws_toFormula_S N) := by
  have e : laws_toFormula_S N = ⟨laws_toFormula_ps, laws_toFormula_rs, funF (laws_toFormula_G N) tab [] Try.f21 laws_toFormula_ps laws_toFormula_rs⟩ := congrArg (FSum.mk laws_toFormula_ps laws_toFormula_rs) (funext (laws_toFormula_run N))
  rw [e]
  exact fun_ok (c := laws_toFormula_code) progOk (laws_toFormula_gok N) (draw_ok progOk (laws_toFormula_gok N)) Try.call21 Try.func21 (by kernel_rfl) (lsOk_at (L := []) trivial) (by kernel_rfl) (by kernel_rfl) (by kernel_rfl) (by kernel_rfl) (by kernel_rfl)

/-! ### spec_l1In -/
noncomputable def spec_l1In_G (N : Nat) : GTab := gOf []
theorem spec_l1In_gok (N : Nat) : GOk Try.prog (spec_l1In_G N) := gOf_ok trivial
noncomputable def spec_l1In_code : Code := (Try.f79.body).getD .skip
noncomputable def spec_l1In (N : Nat) (x : Int) (a : Int) (b : Int) : Option ((Bool × Unit) × (Unit)) :=
  (br (ile a x)
    (some (((ile x b), ()), ()))
    (some ((false, ()), ())))
abbrev spec_l1In_ps : List (PV.Mode × Ty) := [(.ro, I), (.ro, I), (.ro, I)]
abbrev spec_l1In_rs : List (Bool × Ty) := [(true, .bool)]
noncomputable def spec_l1In_S (N : Nat) : FSum := ⟨spec_l1In_ps, spec_l1In_rs, fun x => spec_l1In N x.1 x.2.1 x.2.2.1⟩
theorem spec_l1In_run (N : Nat) (x : argsT spec_l1In_ps) : spec_l1In N x.1 x.2.1 x.2.2.1 = funF (spec_l1In_G N) tab [] Try.f79 spec_l1In_ps spec_l1In_rs x := by kernel_rfl
theorem spec_l1In_pc (N : Nat) : PC Try.prog 79 (spec_l1In_S N) := by
  have e : spec_l1In_S N = ⟨spec_l1In_ps, spec_l1In_rs, funF (spec_l1In_G N) tab [] Try.f79 spec_l1In_ps spec_l1In_rs⟩ := congrArg (FSum.mk spec_l1In_ps spec_l1In_rs) (funext (spec_l1In_run N))
  rw [e]
  exact fun_ok (c := spec_l1In_code) progOk (spec_l1In_gok N) (draw_ok progOk (spec_l1In_gok N)) Try.call79 Try.func79 (by kernel_rfl) (lsOk_at (L := []) trivial) (by kernel_rfl) (by kernel_rfl) (by kernel_rfl) (by kernel_rfl) (by kernel_rfl)

/-! ### spec_l6Literal -/
noncomputable def spec_l6Literal_G (N : Nat) : GTab := gOf [(79, spec_l1In_S N)]
theorem spec_l6Literal_gok (N : Nat) : GOk Try.prog (spec_l6Literal_G N) := gOf_ok ⟨spec_l1In_pc N, trivial⟩
noncomputable def spec_l6Literal_code : Code := (Try.f99.body).getD .skip
noncomputable def spec_l6Literal (N : Nat) (vars : Int) (x : Int) : Option ((Bool × Unit) × (Unit)) :=
  (br (ine x 0)
    (((spec_l1In N x (IntKind.i64.wrap (0 - vars)) vars).bind fun r =>
      some ((r.1.1, ()), ())))
    (some ((false, ()), ())))
abbrev spec_l6Literal_ps : List (PV.Mode × Ty) := [(.ro, I), (.ro, I)]
abbrev spec_l6Literal_rs : List (Bool × Ty) := [(true, .bool)]
noncomputable def spec_l6Literal_S (N : Nat) : FSum := ⟨spec_l6Literal_ps, spec_l6Literal_rs, fun x => spec_l6Literal N x.1 x.2.1⟩
theorem spec_l6Literal_run (N : Nat) (x : argsT spec_l6Literal_ps) : spec_l6Literal N x.1 x.2.1 = funF (spec_l6Literal_G N) tab [] Try.f99 spec_l6Literal_ps spec_l6Literal_rs x := by kernel_rfl
theorem spec_l6Literal_pc (N : Nat) : PC Try.prog 99 (spec_l6Literal_S N) := by
  have e : spec_l6Literal_S N = ⟨spec_l6Literal_ps, spec_l6Literal_rs, funF (spec_l6Literal_G N) tab [] Try.f99 spec_l6Literal_ps spec_l6Literal_rs⟩ := congrArg (FSum.mk spec_l6Literal_ps spec_l6Literal_rs) (funext (spec_l6Literal_run N))
  rw [e]
  exact fun_ok (c := spec_l6Literal_code) progOk (spec_l6Literal_gok N) (draw_ok progOk (spec_l6Literal_gok N)) Try.call99 Try.func99 (by kernel_rfl) (lsOk_at (L := []) trivial) (by kernel_rfl) (by kernel_rfl) (by kernel_rfl) (by kernel_rfl) (by kernel_rfl)

/-! ### spec_l6Good -/
noncomputable def spec_l6Good_G (N : Nat) : GTab := gOf [(79, spec_l1In_S N), (99, spec_l6Literal_S N)]
theorem spec_l6Good_gok (N : Nat) : GOk Try.prog (spec_l6Good_G N) := gOf_ok ⟨spec_l1In_pc N, spec_l6Literal_pc N, trivial⟩
noncomputable def spec_l6Good_code : Code := (Try.f60.body).getD .skip
noncomputable def spec_l6Good_l0_0_sh : Sh := ⟨[(1, .one (.adr 0 0)), (3, .one (.ro I)), (4, .one (.ro I))], [.box [.ro I, .ro LLI]]⟩
noncomputable def spec_l6Good_l0_0_ex : List (Ex × Sh) := [(.ret, ⟨[(2, .one (.ro .bool))], []⟩), (.exit 2, ⟨[(1, .one (.adr 0 0)), (3, .one (.ro I))], [.box [.ro I, .ro LLI]]⟩)]
noncomputable def spec_l6Good_l0_0 {R : Type} (N : Nat) (k0 : Bool → Option R) (k1 : Int → Int → (List (List Int)) → Option R) : Nat → Int → Int → Int → (List (List Int)) → Option R
  | 0, _, _, _, _ => none
  | K + 1, x1, x2, o2, o3 =>
    (chk (inb o3 x1)
      (br (ilt x2 (tLen (rdL o3 x1)))
      ((chk (inb o3 x1)
        (chk (inb (rdL o3 x1) x2)
        ((spec_l6Literal N o2 (rdI (rdL o3 x1) x2)).bind fun r1 =>
        (br (!r1.1.1)
          (k0 false)
          ((br (ilt 0 x2)
            ((chk (inb o3 x1)
              (chk (inb (rdL o3 x1) (IntKind.i64.wrap (x2 - 1)))
              (chk (inb o3 x1)
              (chk (inb (rdL o3 x1) x2)
              (br (ile (rdI (rdL o3 x1) x2) (rdI (rdL o3 x1) (IntKind.i64.wrap (x2 - 1))))
              (k0 false)
              (spec_l6Good_l0_0 N k0 k1 K x1 (IntKind.i64.wrap (x2 + 1)) o2 o3)))))))
            (spec_l6Good_l0_0 N k0 k1 K x1 (IntKind.i64.wrap (x2 + 1)) o2 o3))))))))
      (k1 x1 o2 o3)))
noncomputable def spec_l6Good_l0_0_again {R : Type} (N : Nat) (ks : (j : Nat) → ((spec_l6Good_l0_0_ex.getD j (.ret, Sh.none)).2).T → Option R) (k : Nat) (x : spec_l6Good_l0_0_sh.T) : Option R :=
  spec_l6Good_l0_0 N (fun y0 => ks 0 ((y0, ()), ())) (fun y0 y1 y2 => ks 1 (((), y0, ()), ((y1, y2, ()), ()))) k x.1.2.1 x.1.2.2.1 x.2.1.1 x.2.1.2.1
noncomputable def spec_l6Good_l0_0_s (N : Nat) : LSum := ⟨spec_l6Good_l0_0_sh, spec_l6Good_l0_0_ex, fun x ks => spec_l6Good_l0_0_again N ks N x⟩
theorem spec_l6Good_l0_0_step (N : Nat) (R : Type) (k : Nat) (x : spec_l6Good_l0_0_sh.T) (ks : (j : Nat) → ((spec_l6Good_l0_0_ex.getD j (.ret, Sh.none)).2).T → Option R) : spec_l6Good_l0_0_again N ks (k + 1) x = roundF (spec_l6Good_G N) tab [] (loopAt (loopAt spec_l6Good_code 0) 0) spec_l6Good_l0_0_sh spec_l6Good_l0_0_ex (fun y => spec_l6Good_l0_0_again N ks k y) ks x := by kernel_rfl
theorem spec_l6Good_l0_0_ok (N : Nat) : LoopOk Try.prog Try.f60.ntmps (spec_l6Good_l0_0_s N) (loopAt (loopAt spec_l6Good_code 0) 0) :=
  loop_ok (l := spec_l6Good_l0_0_s N) progOk (spec_l6Good_gok N) (draw_ok progOk (spec_l6Good_gok N)) (fun R k x ks => spec_l6Good_l0_0_again N ks k x) (fun _ _ _ => rfl) (fun R k x ks => spec_l6Good_l0_0_step N R k x ks) (fun R x ks r h => ⟨N, h⟩) (lsOk_at (L := []) trivial) (by kernel_rfl) (by kernel_rfl)
noncomputable def spec_l6Good_l0_sh : Sh := ⟨[(1, .one (.adr 0 0)), (3, .one (.ro I))], [.box [.ro I, .ro LLI]]⟩
noncomputable def spec_l6Good_l0_ex : List (Ex × Sh) := [(.ret, ⟨[(2, .one (.ro .bool))], []⟩), (.exit 0, ⟨[], []⟩)]
noncomputable def spec_l6Good_l0 {R : Type} (N : Nat) (k0 : Bool → Option R) (k1 : Unit → Option R) : Nat → Int → Int → (List (List Int)) → Option R
  | 0, _, _, _ => none
  | K + 1, x, o, o1 =>
    (br (ilt x (tLen o1))
      (spec_l6Good_l0_0 N (fun x1 => k0 x1) (fun x2 o2 o3 => spec_l6Good_l0 N k0 k1 K (IntKind.i64.wrap (x2 + 1)) o2 o3) N x 0 o o1)
      (k1 ()))
noncomputable def spec_l6Good_l0_again {R : Type} (N : Nat) (ks : (j : Nat) → ((spec_l6Good_l0_ex.getD j (.ret, Sh.none)).2).T → Option R) (k : Nat) (x : spec_l6Good_l0_sh.T) : Option R :=
  spec_l6Good_l0 N (fun y0 => ks 0 ((y0, ()), ())) (fun (_ : Unit) => ks 1 ((), ())) k x.1.2.1 x.2.1.1 x.2.1.2.1
noncomputable def spec_l6Good_l0_s (N : Nat) : LSum := ⟨spec_l6Good_l0_sh, spec_l6Good_l0_ex, fun x ks => spec_l6Good_l0_again N ks N x⟩
theorem spec_l6Good_l0_step (N : Nat) (R : Type) (k : Nat) (x : spec_l6Good_l0_sh.T) (ks : (j : Nat) → ((spec_l6Good_l0_ex.getD j (.ret, Sh.none)).2).T → Option R) : spec_l6Good_l0_again N ks (k + 1) x = roundF (spec_l6Good_G N) tab [spec_l6Good_l0_0_s N] (loopAt spec_l6Good_code 0) spec_l6Good_l0_sh spec_l6Good_l0_ex (fun y => spec_l6Good_l0_again N ks k y) ks x := by kernel_rfl
theorem spec_l6Good_l0_ok (N : Nat) : LoopOk Try.prog Try.f60.ntmps (spec_l6Good_l0_s N) (loopAt spec_l6Good_code 0) :=
  loop_ok (l := spec_l6Good_l0_s N) progOk (spec_l6Good_gok N) (draw_ok progOk (spec_l6Good_gok N)) (fun R k x ks => spec_l6Good_l0_again N ks k x) (fun _ _ _ => rfl) (fun R k x ks => spec_l6Good_l0_step N R k x ks) (fun R x ks r h => ⟨N, h⟩) (lsOk_at (L := [spec_l6Good_l0_0_s N]) ⟨spec_l6Good_l0_0_ok N, trivial⟩) (by kernel_rfl) (by kernel_rfl)
noncomputable def spec_l6Good (N : Nat) (c : (Int × (List (List Int)))) : Option ((Bool × Unit) × (Unit)) :=
  ((spec_l1In N c.1 0 6).bind fun r =>
    (br (!r.1.1)
      (some ((false, ()), ()))
      ((br (ilt 64 (tLen c.2))
        (some ((false, ()), ()))
        (spec_l6Good_l0 N (fun x => some ((x, ()), ())) (fun (_ : Unit) => some ((true, ()), ())) N 0 c.1 c.2)))))
abbrev spec_l6Good_ps : List (PV.Mode × Ty) := [(.ro, QILLI)]
abbrev spec_l6Good_rs : List (Bool × Ty) := [(true, .bool)]
noncomputable def spec_l6Good_S (N : Nat) : FSum := ⟨spec_l6Good_ps, spec_l6Good_rs, fun x => spec_l6Good N x.1⟩
theorem spec_l6Good_run (N : Nat) (x : argsT spec_l6Good_ps) : spec_l6Good N x.1 = funF (spec_l6Good_G N) tab [spec_l6Good_l0_s N] Try.f60 spec_l6Good_ps spec_l6Good_rs x := by kernel_rfl
theorem spec_l6Good_pc (N : Nat) : PC Try.prog 60 (spec_l6Good_S N) := by
  have e : spec_l6Good_S N = ⟨spec_l6Good_ps, spec_l6Good_rs, funF (spec_l6Good_G N) tab [spec_l6Good_l0_s N] Try.f60 spec_l6Good_ps spec_l6Good_rs⟩ := congrArg (FSum.mk spec_l6Good_ps spec_l6Good_rs) (funext (spec_l6Good_run N))
  rw [e]
  exact fun_ok (c := spec_l6Good_code) progOk (spec_l6Good_gok N) (draw_ok progOk (spec_l6Good_gok N)) Try.call60 Try.func60 (by kernel_rfl) (lsOk_at (L := [spec_l6Good_l0_s N]) ⟨spec_l6Good_l0_ok N, trivial⟩) (by kernel_rfl) (by kernel_rfl) (by kernel_rfl) (by kernel_rfl) (by kernel_rfl)

/-! ### spec_l1Own -/
noncomputable def spec_l1Own_G (N : Nat) : GTab := gOf []
theorem spec_l1Own_gok (N : Nat) : GOk Try.prog (spec_l1Own_G N) := gOf_ok trivial
noncomputable def spec_l1Own_code : Code := (Try.f80.body).getD .skip
noncomputable def spec_l1Own (N : Nat) (l : (List Int)) : Option (((List Int) × Unit) × (Unit)) :=
  (chk (room (α := Int) (β := Int) [] l)
    (some (((tApp [] l), ()), ())))
abbrev spec_l1Own_ps : List (PV.Mode × Ty) := [(.ro, LI)]
abbrev spec_l1Own_rs : List (Bool × Ty) := [(true, LI)]
noncomputable def spec_l1Own_S (N : Nat) : FSum := ⟨spec_l1Own_ps, spec_l1Own_rs, fun x => spec_l1Own N x.1⟩
theorem spec_l1Own_run (N : Nat) (x : argsT spec_l1Own_ps) : spec_l1Own N x.1 = funF (spec_l1Own_G N) tab [] Try.f80 spec_l1Own_ps spec_l1Own_rs x := by kernel_rfl
theorem spec_l1Own_pc (N : Nat) : PC Try.prog 80 (spec_l1Own_S N) := by
  have e : spec_l1Own_S N = ⟨spec_l1Own_ps, spec_l1Own_rs, funF (spec_l1Own_G N) tab [] Try.f80 spec_l1Own_ps spec_l1Own_rs⟩ := congrArg (FSum.mk spec_l1Own_ps spec_l1Own_rs) (funext (spec_l1Own_run N))
  rw [e]
  exact fun_ok (c := spec_l1Own_code) progOk (spec_l1Own_gok N) (draw_ok progOk (spec_l1Own_gok N)) Try.call80 Try.func80 (by kernel_rfl) (lsOk_at (L := []) trivial) (by kernel_rfl) (by kernel_rfl) (by kernel_rfl) (by kernel_rfl) (by kernel_rfl)

/-! ### spec_FixVar -/
noncomputable def spec_FixVar_G (N : Nat) : GTab := gOf [(60, spec_l6Good_S N), (79, spec_l1In_S N), (80, spec_l1Own_S N)]
theorem spec_FixVar_gok (N : Nat) : GOk Try.prog (spec_FixVar_G N) := gOf_ok ⟨spec_l6Good_pc N, spec_l1In_pc N, spec_l1Own_pc N, trivial⟩
noncomputable def spec_FixVar_code : Code := (Try.f38.body).getD .skip
noncomputable def spec_FixVar_l0_sh : Sh := ⟨[(1, .one (.ro I)), (2, .one (.ro I)), (3, .one (.adr 0 0)), (6, .one (.adr 1 0)), (8, .one (.adr 2 0)), (9, .one (.ro I))], [.box [.ro I, .ro LLI], .box [.ro I, .nilsl], .box [.ro I, .ref 3], .sl 22 LI .deep]⟩
noncomputable def spec_FixVar_l0_ex : List (Ex × Sh) := [(.exit 0, ⟨[(1, .one (.ro I)), (2, .one (.ro I)), (6, .one (.adr 0 0)), (8, .one (.adr 1 0))], [.box [.ro I, .nilsl], .box [.ro I, .ref 2], .sl 22 LI .deep]⟩)]
noncomputable def spec_FixVar_l0 {R : Type} (N : Nat) (k0 : Int → Int → Int → Int → (List (List Int)) → Option R) : Nat → Int → Int → Int → Int → (List (List Int)) → Int → Int → (List (List Int)) → Option R
  | 0, _, _, _, _, _, _, _, _ => none
  | K + 1, x, x1, x2, o, o1, o2, o3, o4 =>
    (br (ilt x2 (tLen o1))
      ((chk (inb o1 x2)
        ((spec_l1Own N (rdL o1 x2)).bind fun r3 =>
        (chk (room o4 [r3.1.1])
          (spec_FixVar_l0 N k0 K x x1 (IntKind.i64.wrap (x2 + 1)) o o1 o2 o3 (tApp o4 [r3.1.1]))))))
      (k0 x x1 o2 o3 o4))
noncomputable def spec_FixVar_l0_again {R : Type} (N : Nat) (ks : (j : Nat) → ((spec_FixVar_l0_ex.getD j (.ret, Sh.none)).2).T → Option R) (k : Nat) (x : spec_FixVar_l0_sh.T) : Option R :=
  spec_FixVar_l0 N (fun y0 y1 y2 y3 y4 => ks 0 ((y0, y1, (), (), ()), ((y2, (), ()), (y3, (), ()), y4, ()))) k x.1.1 x.1.2.1 x.1.2.2.2.2.2.1 x.2.1.1 x.2.1.2.1 x.2.2.1.1 x.2.2.2.1.1 x.2.2.2.2.1
noncomputable def spec_FixVar_l0_s (N : Nat) : LSum := ⟨spec_FixVar_l0_sh, spec_FixVar_l0_ex, fun x ks => spec_FixVar_l0_again N ks N x⟩
theorem spec_FixVar_l0_step (N : Nat) (R : Type) (k : Nat) (x : spec_FixVar_l0_sh.T) (ks : (j : Nat) → ((spec_FixVar_l0_ex.getD j (.ret, Sh.none)).2).T → Option R) : spec_FixVar_l0_again N ks (k + 1) x = roundF (spec_FixVar_G N) tab [] (loopAt spec_FixVar_code 0) spec_FixVar_l0_sh spec_FixVar_l0_ex (fun y => spec_FixVar_l0_again N ks k y) ks x := by kernel_rfl
theorem spec_FixVar_l0_ok (N : Nat) : LoopOk Try.prog Try.f38.ntmps (spec_FixVar_l0_s N) (loopAt spec_FixVar_code 0) :=
  loop_ok (l := spec_FixVar_l0_s N) progOk (spec_FixVar_gok N) (draw_ok progOk (spec_FixVar_gok N)) (fun R k x ks => spec_FixVar_l0_again N ks k x) (fun _ _ _ => rfl) (fun R k x ks => spec_FixVar_l0_step N R k x ks) (fun R x ks r h => ⟨N, h⟩) (lsOk_at (L := []) trivial) (by kernel_rfl) (by kernel_rfl)
noncomputable def spec_FixVar (N : Nat) (c : (Int × (List (List Int)))) (c1 : Int) (c2 : Int) : Option (((Int × (List (List Int))) × Bool × Unit) × (Unit)) :=
  ((spec_l6Good N (c.1, c.2)).bind fun r =>
    (br (!r.1.1)
      (some (((0, []), false, ()), ()))
      (((spec_l1In N c1 0 (IntKind.i64.wrap (c.1 - 1))).bind fun r1 =>
        (br (!r1.1.1)
          (some (((0, []), false, ()), ()))
          (((spec_l1In N c2 0 1).bind fun r2 =>
            (br (!r2.1.1)
              (some (((0, []), false, ()), ()))
              ((br (ieq (tLen c.2) 64)
                (some (((0, []), false, ()), ()))
                (spec_FixVar_l0 N (fun x x1 o o1 o2 => (br (ieq x1 1)
                  ((chk (room o2 [[(IntKind.i64.wrap (x + 1))]])
                    (some (((o1, (tApp o2 [[(IntKind.i64.wrap (x + 1))]])), true, ()), ()))))
                  ((chk (room o2 [[(IntKind.i64.wrap ((-1) - x))]])
                    (some (((o1, (tApp o2 [[(IntKind.i64.wrap ((-1) - x))]])), true, ()), ())))))) N c1 c2 0 c.1 c.2 0 c.1 [])))))))))))
abbrev spec_FixVar_ps : List (PV.Mode × Ty) := [(.ro, QILLI), (.ro, I), (.ro, I)]
abbrev spec_FixVar_rs : List (Bool × Ty) := [(true, QILLI), (true, .bool)]
noncomputable def spec_FixVar_S (N : Nat) : FSum := ⟨spec_FixVar_ps, spec_FixVar_rs, fun x => spec_FixVar N x.1 x.2.1 x.2.2.1⟩
theorem spec_FixVar_run (N : Nat) (x : argsT spec_FixVar_ps) : spec_FixVar N x.1 x.2.1 x.2.2.1 = funF (spec_FixVar_G N) tab [spec_FixVar_l0_s N] Try.f38 spec_FixVar_ps spec_FixVar_rs x := by kernel_rfl
theorem spec_FixVar_pc (N : Nat) : PC Try.prog 38 (spec_FixVar_S N) := by
  have e : spec_FixVar_S N = ⟨spec_FixVar_ps, spec_FixVar_rs, funF (spec_FixVar_G N) tab [spec_FixVar_l0_s N] Try.f38 spec_FixVar_ps spec_FixVar_rs⟩ := congrArg (FSum.mk spec_FixVar_ps spec_FixVar_rs) (funext (spec_FixVar_run N))
  rw [e]
  exact fun_ok (c := spec_FixVar_code) progOk (spec_FixVar_gok N) (draw_ok progOk (spec_FixVar_gok N)) Try.call38 Try.func38 (by kernel_rfl) (lsOk_at (L := [spec_FixVar_l0_s N]) ⟨spec_FixVar_l0_ok N, trivial⟩) (by kernel_rfl) (by kernel_rfl) (by kernel_rfl) (by kernel_rfl) (by kernel_rfl)

/-! ### impl_between -/
noncomputable def impl_between_G (N : Nat) : GTab := gOf []
theorem impl_between_gok (N : Nat) : GOk Try.prog (impl_between_G N) := gOf_ok trivial
noncomputable def impl_between_code : Code := (Try.f62.body).getD .skip
noncomputable def impl_between (N : Nat) (n : Int) (low : Int) (high : Int) : Option ((Bool × Unit) × (Unit)) :=
  (br (ile low n)
    (some (((ile n high), ()), ()))
    (some ((false, ()), ())))
abbrev impl_between_ps : List (PV.Mode × Ty) := [(.ro, I), (.ro, I), (.ro, I)]
abbrev impl_between_rs : List (Bool × Ty) := [(true, .bool)]
noncomputable def impl_between_S (N : Nat) : FSum := ⟨impl_between_ps, impl_between_rs, fun x => impl_between N x.1 x.2.1 x.2.2.1⟩
theorem impl_between_run (N : Nat) (x : argsT impl_between_ps) : impl_between N x.1 x.2.1 x.2.2.1 = funF (impl_between_G N) tab [] Try.f62 impl_between_ps impl_between_rs x := by kernel_rfl
theorem impl_between_pc (N : Nat) : PC Try.prog 62 (impl_between_S N) := by
  have e : impl_between_S N = ⟨impl_between_ps, impl_between_rs, funF (impl_between_G N) tab [] Try.f62 impl_between_ps impl_between_rs⟩ := congrArg (FSum.mk impl_between_ps impl_between_rs) (funext (impl_between_run N))
  rw [e]
  exact fun_ok (c := impl_between_code) progOk (impl_between_gok N) (draw_ok progOk (impl_between_gok N)) Try.call62 Try.func62 (by kernel_rfl) (lsOk_at (L := []) trivial) (by kernel_rfl) (by kernel_rfl) (by kernel_rfl) (by kernel_rfl) (by kernel_rfl)

/-! ### impl_IsFormula -/
noncomputable def impl_IsFormula_G (N : Nat) : GTab := gOf [(62, impl_between_S N)]
theorem impl_IsFormula_gok (N : Nat) : GOk Try.prog (impl_IsFormula_G N) := gOf_ok ⟨impl_between_pc N, trivial⟩
noncomputable def impl_IsFormula_code : Code := (Try.f22.body).getD .skip
noncomputable def impl_IsFormula_l0_0_sh : Sh := ⟨[(1, .one (.adr 0 0)), (4, .one (.ro LI)), (18, .one (.ro LLI)), (19, .one (.ro I)), (20, .one (.ro I)), (24, .one (.ro LI)), (25, .one (.ro I)), (26, .one (.ro I))], [.box [.ro I, .ro LLI]]⟩
noncomputable def impl_IsFormula_l0_0_ex : List (Ex × Sh) := [(.ret, ⟨[(2, .one (.ro .bool))], []⟩), (.exit 2, ⟨[(1, .one (.adr 0 0)), (18, .one (.ro LLI)), (19, .one (.ro I)), (20, .one (.ro I))], [.box [.ro I, .ro LLI]]⟩)]
noncomputable def impl_IsFormula_l0_0 {R : Type} (N : Nat) (k0 : Bool → Option R) (k1 : (List (List Int)) → Int → Int → Int → (List (List Int)) → Option R) : Nat → (List Int) → (List (List Int)) → Int → Int → (List Int) → Int → Int → Int → (List (List Int)) → Option R
  | 0, _, _, _, _, _, _, _, _, _ => none
  | K + 1, clause, x3, x4, x5, x6, x7, x8, o2, o3 =>
    (br (ilt x8 x7)
      ((chk (inb x6 x8)
        (br (ieq (rdI x6 x8) 0)
        (k0 false)
        (((impl_between N (rdI x6 x8) (IntKind.i64.wrap (0 - o2)) o2).bind fun r1 =>
          (br (!r1.1.1)
            (k0 false)
            ((br (ilt 0 x8)
              ((chk (inb clause (IntKind.i64.wrap (x8 - 1)))
                (br (ile (rdI x6 x8) (rdI clause (IntKind.i64.wrap (x8 - 1))))
                (k0 false)
                (impl_IsFormula_l0_0 N k0 k1 K clause x3 x4 x5 x6 x7 (IntKind.i64.wrap (x8 + 1)) o2 o3))))
              (impl_IsFormula_l0_0 N k0 k1 K clause x3 x4 x5 x6 x7 (IntKind.i64.wrap (x8 + 1)) o2 o3)))))))))
      (k1 x3 x4 x5 o2 o3))
noncomputable def impl_IsFormula_l0_0_again {R : Type} (N : Nat) (ks : (j : Nat) → ((impl_IsFormula_l0_0_ex.getD j (.ret, Sh.none)).2).T → Option R) (k : Nat) (x : impl_IsFormula_l0_0_sh.T) : Option R :=
  impl_IsFormula_l0_0 N (fun y0 => ks 0 ((y0, ()), ())) (fun y0 y1 y2 y3 y4 => ks 1 (((), y0, y1, y2, ()), ((y3, y4, ()), ()))) k x.1.2.1 x.1.2.2.1 x.1.2.2.2.1 x.1.2.2.2.2.1 x.1.2.2.2.2.2.1 x.1.2.2.2.2.2.2.1 x.1.2.2.2.2.2.2.2.1 x.2.1.1 x.2.1.2.1
noncomputable def impl_IsFormula_l0_0_s (N : Nat) : LSum := ⟨impl_IsFormula_l0_0_sh, impl_IsFormula_l0_0_ex, fun x ks => impl_IsFormula_l0_0_again N ks N x⟩
theorem impl_IsFormula_l0_0_step (N : Nat) (R : Type) (k : Nat) (x : impl_IsFormula_l0_0_sh.T) (ks : (j : Nat) → ((impl_IsFormula_l0_0_ex.getD j (.ret, Sh.none)).2).T → Option R) : impl_IsFormula_l0_0_again N ks (k + 1) x = roundF (impl_IsFormula_G N) tab [] (loopAt (loopAt impl_IsFormula_code 0) 0) impl_IsFormula_l0_0_sh impl_IsFormula_l0_0_ex (fun y => impl_IsFormula_l0_0_again N ks k y) ks x := by kernel_rfl
theorem impl_IsFormula_l0_0_ok (N : Nat) : LoopOk Try.prog Try.f22.ntmps (impl_IsFormula_l0_0_s N) (loopAt (loopAt impl_IsFormula_code 0) 0) :=
  loop_ok (l := impl_IsFormula_l0_0_s N) progOk (impl_IsFormula_gok N) (draw_ok progOk (impl_IsFormula_gok N)) (fun R k x ks => impl_IsFormula_l0_0_again N ks k x) (fun _ _ _ => rfl) (fun R k x ks => impl_IsFormula_l0_0_step N R k x ks) (fun R x ks r h => ⟨N, h⟩) (lsOk_at (L := []) trivial) (by kernel_rfl) (by kernel_rfl)
noncomputable def impl_IsFormula_l0_sh : Sh := ⟨[(1, .one (.adr 0 0)), (18, .one (.ro LLI)), (19, .one (.ro I)), (20, .one (.ro I))], [.box [.ro I, .ro LLI]]⟩
noncomputable def impl_IsFormula_l0_ex : List (Ex × Sh) := [(.ret, ⟨[(2, .one (.ro .bool))], []⟩), (.exit 0, ⟨[], []⟩)]
noncomputable def impl_IsFormula_l0 {R : Type} (N : Nat) (k0 : Bool → Option R) (k1 : Unit → Option R) : Nat → (List (List Int)) → Int → Int → Int → (List (List Int)) → Option R
  | 0, _, _, _, _, _ => none
  | K + 1, x, x1, x2, o, o1 =>
    (br (ilt x2 x1)
      ((chk (inb x x2)
        (impl_IsFormula_l0_0 N (fun x3 => k0 x3) (fun x4 x5 x6 o2 o3 => impl_IsFormula_l0 N k0 k1 K x4 x5 (IntKind.i64.wrap (x6 + 1)) o2 o3) N (rdL x x2) x x1 x2 (rdL x x2) (tLen (rdL x x2)) 0 o o1)))
      (k1 ()))
noncomputable def impl_IsFormula_l0_again {R : Type} (N : Nat) (ks : (j : Nat) → ((impl_IsFormula_l0_ex.getD j (.ret, Sh.none)).2).T → Option R) (k : Nat) (x : impl_IsFormula_l0_sh.T) : Option R :=
  impl_IsFormula_l0 N (fun y0 => ks 0 ((y0, ()), ())) (fun (_ : Unit) => ks 1 ((), ())) k x.1.2.1 x.1.2.2.1 x.1.2.2.2.1 x.2.1.1 x.2.1.2.1
noncomputable def impl_IsFormula_l0_s (N : Nat) : LSum := ⟨impl_IsFormula_l0_sh, impl_IsFormula_l0_ex, fun x ks => impl_IsFormula_l0_again N ks N x⟩
theorem impl_IsFormula_l0_step (N : Nat) (R : Type) (k : Nat) (x : impl_IsFormula_l0_sh.T) (ks : (j : Nat) → ((impl_IsFormula_l0_ex.getD j (.ret, Sh.none)).2).T → Option R) : impl_IsFormula_l0_again N ks (k + 1) x = roundF (impl_IsFormula_G N) tab [impl_IsFormula_l0_0_s N] (loopAt impl_IsFormula_code 0) impl_IsFormula_l0_sh impl_IsFormula_l0_ex (fun y => impl_IsFormula_l0_again N ks k y) ks x := by kernel_rfl
theorem impl_IsFormula_l0_ok (N : Nat) : LoopOk Try.prog Try.f22.ntmps (impl_IsFormula_l0_s N) (loopAt impl_IsFormula_code 0) :=
  loop_ok (l := impl_IsFormula_l0_s N) progOk (impl_IsFormula_gok N) (draw_ok progOk (impl_IsFormula_gok N)) (fun R k x ks => impl_IsFormula_l0_again N ks k x) (fun _ _ _ => rfl) (fun R k x ks => impl_IsFormula_l0_step N R k x ks) (fun R x ks r h => ⟨N, h⟩) (lsOk_at (L := [impl_IsFormula_l0_0_s N]) ⟨impl_IsFormula_l0_0_ok N, trivial⟩) (by kernel_rfl) (by kernel_rfl)
noncomputable def impl_IsFormula (N : Nat) (f : (Int × (List (List Int)))) : Option ((Bool × Unit) × (Unit)) :=
  ((impl_between N f.1 0 6).bind fun r =>
    (br (!r.1.1)
      (some ((false, ()), ()))
      ((br (ilt 64 (tLen f.2))
        (some ((false, ()), ()))
        (impl_IsFormula_l0 N (fun x => some ((x, ()), ())) (fun (_ : Unit) => some ((true, ()), ())) N f.2 (tLen f.2) 0 f.1 f.2)))))
abbrev impl_IsFormula_ps : List (PV.Mode × Ty) := [(.ro, QILLI)]
abbrev impl_IsFormula_rs : List (Bool × Ty) := [(true, .bool)]
noncomputable def impl_IsFormula_S (N : Nat) : FSum := ⟨impl_IsFormula_ps, impl_IsFormula_rs, fun x => impl_IsFormula N x.1⟩
theorem impl_IsFormula_run (N : Nat) (x : argsT impl_IsFormula_ps) : impl_IsFormula N x.1 = funF (impl_IsFormula_G N) tab [impl_IsFormula_l0_s N] Try.f22 impl_IsFormula_ps impl_IsFormula_rs x := by kernel_rfl
theorem impl_IsFormula_pc (N : Nat) : PC Try.prog 22 (impl_IsFormula_S N) := by
  have e : impl_IsFormula_S N = ⟨impl_IsFormula_ps, impl_IsFormula_rs, funF (impl_IsFormula_G N) tab [impl_IsFormula_l0_s N] Try.f22 impl_IsFormula_ps impl_IsFormula_rs⟩ := congrArg (FSum.mk impl_IsFormula_ps impl_IsFormula_rs) (funext (impl_IsFormula_run N))
  rw [e]
  exact fun_ok (c := impl_IsFormula_code) progOk (impl_IsFormula_gok N) (draw_ok progOk (impl_IsFormula_gok N)) Try.call22 Try.func22 (by kernel_rfl) (lsOk_at (L := [impl_IsFormula_l0_s N]) ⟨impl_IsFormula_l0_ok N, trivial⟩) (by kernel_rfl) (by kernel_rfl) (by kernel_rfl) (by kernel_rfl) (by kernel_rfl)

/-! ### slices_Clone_LI_int -/
noncomputable def slices_Clone_LI_int_G (N : Nat) : GTab := gOf []
theorem slices_Clone_LI_int_gok (N : Nat) : GOk Try.prog (slices_Clone_LI_int_G N) := gOf_ok trivial
noncomputable def slices_Clone_LI_int_code : Code := (Try.f114.body).getD .skip
noncomputable def slices_Clone_LI_int (N : Nat) (s : (List Int)) : Option (((List Int) × Unit) × (Unit)) :=
  (br (ieq (tLen s) 0)
    ((amb
      (some (([], ()), ()))
      ((chk (room (α := Int) (β := Int) [] s)
        (some (((tApp [] s), ()), ()))))))
    ((chk (room (α := Int) (β := Int) [] s)
      (some (((tApp [] s), ()), ())))))
abbrev slices_Clone_LI_int_ps : List (PV.Mode × Ty) := [(.ro, LI)]
abbrev slices_Clone_LI_int_rs : List (Bool × Ty) := [(true, LI)]
noncomputable def slices_Clone_LI_int_S (N : Nat) : FSum := ⟨slices_Clone_LI_int_ps, slices_Clone_LI_int_rs, fun x => slices_Clone_LI_int N x.1⟩
theorem slices_Clone_LI_int_run (N : Nat) (x : argsT slices_Clone_LI_int_ps) : slices_Clone_LI_int N x.1 = funF (slices_Clone_LI_int_G N) tab [] Try.f114 slices_Clone_LI_int_ps slices_Clone_LI_int_rs x := by kernel_rfl
theorem slices_Clone_LI_int_pc (N : Nat) : PC Try.prog 114 (slices_Clone_LI_int_S N) := by
  have e : slices_Clone_LI_int_S N = ⟨slices_Clone_LI_int_ps, slices_Clone_LI_int_rs, funF (slices_Clone_LI_int_G N) tab [] Try.f114 slices_Clone_LI_int_ps slices_Clone_LI_int_rs⟩ := congrArg (FSum.mk slices_Clone_LI_int_ps slices_Clone_LI_int_rs) (funext (slices_Clone_LI_int_run N))
  rw [e]
  exact fun_ok (c := slices_Clone_LI_int_code) progOk (slices_Clone_LI_int_gok N) (draw_ok progOk (slices_Clone_LI_int_gok N)) Try.call114 Try.func114 (by kernel_rfl) (lsOk_at (L := []) trivial) (by kernel_rfl) (by kernel_rfl) (by kernel_rfl) (by kernel_rfl) (by kernel_rfl)

/-! ### impl_copyLists -/
noncomputable def impl_copyLists_G (N : Nat) : GTab := gOf [(114, slices_Clone_LI_int_S N)]
theorem impl_copyLists_gok (N : Nat) : GOk Try.prog (impl_copyLists_G N) := gOf_ok ⟨slices_Clone_LI_int_pc N, trivial⟩
noncomputable def impl_copyLists_code : Code := (Try.f81.body).getD .skip
noncomputable def impl_copyLists_l0_sh : Sh := ⟨[(3, .one (.ref 0)), (7, .one (.ro LLI)), (8, .one (.ro I)), (9, .one (.ro I))], [.sl 22 LI .deep]⟩
noncomputable def impl_copyLists_l0_ex : List (Ex × Sh) := [(.exit 0, ⟨[(3, .one (.ref 0))], [.sl 22 LI .deep]⟩)]
noncomputable def impl_copyLists_l0 {R : Type} (N : Nat) (k0 : (List (List Int)) → Option R) : Nat → (List (List Int)) → Int → Int → (List (List Int)) → Option R
  | 0, _, _, _, _ => none
  | K + 1, x, x1, x2, o =>
    (br (ilt x2 x1)
      ((chk (inb x x2)
        ((slices_Clone_LI_int N (rdL x x2)).bind fun r =>
        (chk (room o [r.1.1])
          (impl_copyLists_l0 N k0 K x x1 (IntKind.i64.wrap (x2 + 1)) (tApp o [r.1.1]))))))
      (k0 o))
noncomputable def impl_copyLists_l0_again {R : Type} (N : Nat) (ks : (j : Nat) → ((impl_copyLists_l0_ex.getD j (.ret, Sh.none)).2).T → Option R) (k : Nat) (x : impl_copyLists_l0_sh.T) : Option R :=
  impl_copyLists_l0 N (fun y0 => ks 0 (((), ()), (y0, ()))) k x.1.2.1 x.1.2.2.1 x.1.2.2.2.1 x.2.1
noncomputable def impl_copyLists_l0_s (N : Nat) : LSum := ⟨impl_copyLists_l0_sh, impl_copyLists_l0_ex, fun x ks => impl_copyLists_l0_again N ks N x⟩
theorem impl_copyLists_l0_step (N : Nat) (R : Type) (k : Nat) (x : impl_copyLists_l0_sh.T) (ks : (j : Nat) → ((impl_copyLists_l0_ex.getD j (.ret, Sh.none)).2).T → Option R) : impl_copyLists_l0_again N ks (k + 1) x = roundF (impl_copyLists_G N) tab [] (loopAt impl_copyLists_code 0) impl_copyLists_l0_sh impl_copyLists_l0_ex (fun y => impl_copyLists_l0_again N ks k y) ks x := by kernel_rfl
theorem impl_copyLists_l0_ok (N : Nat) : LoopOk Try.prog Try.f81.ntmps (impl_copyLists_l0_s N) (loopAt impl_copyLists_code 0) :=
  loop_ok (l := impl_copyLists_l0_s N) progOk (impl_copyLists_gok N) (draw_ok progOk (impl_copyLists_gok N)) (fun R k x ks => impl_copyLists_l0_again N ks k x) (fun _ _ _ => rfl) (fun R k x ks => impl_copyLists_l0_step N R k x ks) (fun R x ks r h => ⟨N, h⟩) (lsOk_at (L := []) trivial) (by kernel_rfl) (by kernel_rfl)
noncomputable def impl_copyLists (N : Nat) (lists : (List (List Int))) : Option (((List (List Int)) × Unit) × (Unit)) :=
  impl_copyLists_l0 N (fun o => some ((o, ()), ())) N lists (tLen lists) 0 []
abbrev impl_copyLists_ps : List (PV.Mode × Ty) := [(.ro, LLI)]
abbrev impl_copyLists_rs : List (Bool × Ty) := [(true, LLI)]
noncomputable def impl_copyLists_S (N : Nat) : FSum := ⟨impl_copyLists_ps, impl_copyLists_rs, fun x => impl_copyLists N x.1⟩
theorem impl_copyLists_run (N : Nat) (x : argsT impl_copyLists_ps) : impl_copyLists N x.1 = funF (impl_copyLists_G N) tab [impl_copyLists_l0_s N] Try.f81 impl_copyLists_ps impl_copyLists_rs x := by kernel_rfl
theorem impl_copyLists_pc (N : Nat) : PC Try.prog 81 (impl_copyLists_S N) := by
  have e : impl_copyLists_S N = ⟨impl_copyLists_ps, impl_copyLists_rs, funF (impl_copyLists_G N) tab [impl_copyLists_l0_s N] Try.f81 impl_copyLists_ps impl_copyLists_rs⟩ := congrArg (FSum.mk impl_copyLists_ps impl_copyLists_rs) (funext (impl_copyLists_run N))
  rw [e]
  exact fun_ok (c := impl_copyLists_code) progOk (impl_copyLists_gok N) (draw_ok progOk (impl_copyLists_gok N)) Try.call81 Try.func81 (by kernel_rfl) (lsOk_at (L := [impl_copyLists_l0_s N]) ⟨impl_copyLists_l0_ok N, trivial⟩) (by kernel_rfl) (by kernel_rfl) (by kernel_rfl) (by kernel_rfl) (by kernel_rfl)

/-! ### impl_FixVar -/
noncomputable def impl_FixVar_G (N : Nat) : GTab := gOf [(22, impl_IsFormula_S N), (62, impl_between_S N), (81, impl_copyLists_S N)]
theorem impl_FixVar_gok (N : Nat) : GOk Try.prog (impl_FixVar_G N) := gOf_ok ⟨impl_IsFormula_pc N, impl_between_pc N, impl_copyLists_pc N, trivial⟩
noncomputable def impl_FixVar_code : Code := (Try.f39.body).getD .skip
noncomputable def impl_FixVar (N : Nat) (f : (Int × (List (List Int)))) (v : Int) (bit : Int) : Option (((Int × (List (List Int))) × Bool × Unit) × (Unit)) :=
  ((impl_IsFormula N (f.1, f.2)).bind fun r =>
    (br (!r.1.1)
      (some (((0, []), false, ()), ()))
      (((impl_between N v 0 (IntKind.i64.wrap (f.1 - 1))).bind fun r1 =>
        (br (!r1.1.1)
          (some (((0, []), false, ()), ()))
          (((impl_between N bit 0 1).bind fun r2 =>
            (br (!r2.1.1)
              (some (((0, []), false, ()), ()))
              ((br (ieq (tLen f.2) 64)
                (some (((0, []), false, ()), ()))
                ((br (ieq bit 0)
                  (((impl_copyLists N f.2).bind fun r3 =>
                    (chk (room r3.1.1 [[(IntKind.i64.wrap (0 - (IntKind.i64.wrap (v + 1))))]])
                      (some (((f.1, (tApp r3.1.1 [[(IntKind.i64.wrap (0 - (IntKind.i64.wrap (v + 1))))]])), true, ()), ())))))
                  (((impl_copyLists N f.2).bind fun r4 =>
                    (chk (room r4.1.1 [[(IntKind.i64.wrap (v + 1))]])
                      (some (((f.1, (tApp r4.1.1 [[(IntKind.i64.wrap (v + 1))]])), true, ()), ())))))))))))))))))
abbrev impl_FixVar_ps : List (PV.Mode × Ty) := [(.ro, QILLI), (.ro, I), (.ro, I)]
abbrev impl_FixVar_rs : List (Bool × Ty) := [(true, QILLI), (true, .bool)]
noncomputable def impl_FixVar_S (N : Nat) : FSum := ⟨impl_FixVar_ps, impl_FixVar_rs, fun x => impl_FixVar N x.1 x.2.1 x.2.2.1⟩
theorem impl_FixVar_run (N : Nat) (x : argsT impl_FixVar_ps) : impl_FixVar N x.1 x.2.1 x.2.2.1 = funF (impl_FixVar_G N) tab [] Try.f39 impl_FixVar_ps impl_FixVar_rs x := by kernel_rfl
theorem impl_FixVar_pc (N : Nat) : PC Try.prog 39 (impl_FixVar_S N) := by
  have e : impl_FixVar_S N = ⟨impl_FixVar_ps, impl_FixVar_rs, funF (impl_FixVar_G N) tab [] Try.f39 impl_FixVar_ps impl_FixVar_rs⟩ := congrArg (FSum.mk impl_FixVar_ps impl_FixVar_rs) (funext (impl_FixVar_run N))
  rw [e]
  exact fun_ok (c := impl_FixVar_code) progOk (impl_FixVar_gok N) (draw_ok progOk (impl_FixVar_gok N)) Try.call39 Try.func39 (by kernel_rfl) (lsOk_at (L := []) trivial) (by kernel_rfl) (by kernel_rfl) (by kernel_rfl) (by kernel_rfl) (by kernel_rfl)

/-! ### laws_eqIntS -/
noncomputable def laws_eqIntS_G (N : Nat) : GTab := gOf []
theorem laws_eqIntS_gok (N : Nat) : GOk Try.prog (laws_eqIntS_G N) := gOf_ok trivial
noncomputable def laws_eqIntS_code : Code := (Try.f18.body).getD .skip
noncomputable def laws_eqIntS_l0_sh : Sh := ⟨[(0, .one (.ro LI)), (1, .one (.ro LI)), (5, .one (.ro I))], []⟩
noncomputable def laws_eqIntS_l0_ex : List (Ex × Sh) := [(.ret, ⟨[(4, .one (.ro .bool))], []⟩), (.exit 0, ⟨[], []⟩)]
noncomputable def laws_eqIntS_l0 {R : Type} (N : Nat) (k0 : Bool → Option R) (k1 : Unit → Option R) : Nat → (List Int) → (List Int) → Int → Option R
  | 0, _, _, _ => none
  | K + 1, a1, b1, i =>
    (br (ilt i (tLen a1))
      ((chk (inb a1 i)
        (chk (inb b1 i)
        (br (ine (rdI a1 i) (rdI b1 i))
        (k0 false)
        (laws_eqIntS_l0 N k0 k1 K a1 b1 (IntKind.i64.wrap (i + 1)))))))
      (k1 ()))
noncomputable def laws_eqIntS_l0_again {R : Type} (N : Nat) (ks : (j : Nat) → ((laws_eqIntS_l0_ex.getD j (.ret, Sh.none)).2).T → Option R) (k : Nat) (x : laws_eqIntS_l0_sh.T) : Option R :=
  laws_eqIntS_l0 N (fun y0 => ks 0 ((y0, ()), ())) (fun (_ : Unit) => ks 1 ((), ())) k x.1.1 x.1.2.1 x.1.2.2.1
noncomputable def laws_eqIntS_l0_s (N : Nat) : LSum := ⟨laws_eqIntS_l0_sh, laws_eqIntS_l0_ex, fun x ks => laws_eqIntS_l0_again N ks N x⟩
theorem laws_eqIntS_l0_step (N : Nat) (R : Type) (k : Nat) (x : laws_eqIntS_l0_sh.T) (ks : (j : Nat) → ((laws_eqIntS_l0_ex.getD j (.ret, Sh.none)).2).T → Option R) : laws_eqIntS_l0_again N ks (k + 1) x = roundF (laws_eqIntS_G N) tab [] (loopAt laws_eqIntS_code 0) laws_eqIntS_l0_sh laws_eqIntS_l0_ex (fun y => laws_eqIntS_l0_again N ks k y) ks x := by kernel_rfl
theorem laws_eqIntS_l0_ok (N : Nat) : LoopOk Try.prog Try.f18.ntmps (laws_eqIntS_l0_s N) (loopAt laws_eqIntS_code 0) :=
  loop_ok (l := laws_eqIntS_l0_s N) progOk (laws_eqIntS_gok N) (draw_ok progOk (laws_eqIntS_gok N)) (fun R k x ks => laws_eqIntS_l0_again N ks k x) (fun _ _ _ => rfl) (fun R k x ks => laws_eqIntS_l0_step N R k x ks) (fun R x ks r h => ⟨N, h⟩) (lsOk_at (L := []) trivial) (by kernel_rfl) (by kernel_rfl)
noncomputable def laws_eqIntS (N : Nat) (a : (List Int)) (b : (List Int)) : Option ((Bool × Unit) × (Unit)) :=
  (br (ine (tLen a) (tLen b))
    (some ((false, ()), ()))
    (laws_eqIntS_l0 N (fun x => some ((x, ()), ())) (fun (_ : Unit) => some ((true, ()), ())) N a b 0))
abbrev laws_eqIntS_ps : List (PV.Mode × Ty) := [(.ro, LI), (.ro, LI)]
abbrev laws_eqIntS_rs : List (Bool × Ty) := [(true, .bool)]
noncomputable def laws_eqIntS_S (N : Nat) : FSum := ⟨laws_eqIntS_ps, laws_eqIntS_rs, fun x => laws_eqIntS N x.1 x.2.1⟩
theorem laws_eqIntS_run (N : Nat) (x : argsT laws_eqIntS_ps) : laws_eqIntS N x.1 x.2.1 = funF (laws_eqIntS_G N) tab [laws_eqIntS_l0_s N] Try.f18 laws_eqIntS_ps laws_eqIntS_rs x := by kernel_rfl
theorem laws_eqIntS_pc (N : Nat) : PC Try.prog 18 (laws_eqIntS_S N) := by
  have e : laws_eqIntS_S N = ⟨laws_eqIntS_ps, laws_eqIntS_rs, funF (laws_eqIntS_G N) tab [laws_eqIntS_l0_s N] Try.f18 laws_eqIntS_ps laws_eqIntS_rs⟩ := congrArg (FSum.mk laws_eqIntS_ps laws_eqIntS_rs) (funext (laws_eqIntS_run N))
  rw [e]
  exact fun_ok (c := laws_eqIntS_code) progOk (laws_eqIntS_gok N) (draw_ok progOk (laws_eqIntS_gok N)) Try.call18 Try.func18 (by kernel_rfl) (lsOk_at (L := [laws_eqIntS_l0_s N]) ⟨laws_eqIntS_l0_ok N, trivial⟩) (by kernel_rfl) (by kernel_rfl) (by kernel_rfl) (by kernel_rfl) (by kernel_rfl)

/-! ### laws_eqIntSS -/
noncomputable def laws_eqIntSS_G (N : Nat) : GTab := gOf [(18, laws_eqIntS_S N)]
theorem laws_eqIntSS_gok (N : Nat) : GOk Try.prog (laws_eqIntSS_G N) := gOf_ok ⟨laws_eqIntS_pc N, trivial⟩
noncomputable def laws_eqIntSS_code : Code := (Try.f63.body).getD .skip
noncomputable def laws_eqIntSS_l0_sh : Sh := ⟨[(0, .one (.ro LLI)), (1, .one (.ro LLI)), (5, .one (.ro I))], []⟩
noncomputable def laws_eqIntSS_l0_ex : List (Ex × Sh) := [(.ret, ⟨[(4, .one (.ro .bool))], []⟩), (.exit 0, ⟨[], []⟩)]
noncomputable def laws_eqIntSS_l0 {R : Type} (N : Nat) (k0 : Bool → Option R) (k1 : Unit → Option R) : Nat → (List (List Int)) → (List (List Int)) → Int → Option R
  | 0, _, _, _ => none
  | K + 1, a1, b1, i =>
    (br (ilt i (tLen a1))
      ((chk (inb a1 i)
        (chk (inb b1 i)
        ((laws_eqIntS N (rdL a1 i) (rdL b1 i)).bind fun r =>
        (br (!r.1.1)
          (k0 false)
          (laws_eqIntSS_l0 N k0 k1 K a1 b1 (IntKind.i64.wrap (i + 1))))))))
      (k1 ()))
noncomputable def laws_eqIntSS_l0_again {R : Type} (N : Nat) (ks : (j : Nat) → ((laws_eqIntSS_l0_ex.getD j (.ret, Sh.none)).2).T → Option R) (k : Nat) (x : laws_eqIntSS_l0_sh.T) : Option R :=
  laws_eqIntSS_l0 N (fun y0 => ks 0 ((y0, ()), ())) (fun (_ : Unit) => ks 1 ((), ())) k x.1.1 x.1.2.1 x.1.2.2.1
noncomputable def laws_eqIntSS_l0_s (N : Nat) : LSum := ⟨laws_eqIntSS_l0_sh, laws_eqIntSS_l0_ex, fun x ks => laws_eqIntSS_l0_again N ks N x⟩
theorem laws_eqIntSS_l0_step (N : Nat) (R : Type) (k : Nat) (x : laws_eqIntSS_l0_sh.T) (ks : (j : Nat) → ((laws_eqIntSS_l0_ex.getD j (.ret, Sh.none)).2).T → Option R) : laws_eqIntSS_l0_again N ks (k + 1) x = roundF (laws_eqIntSS_G N) tab [] (loopAt laws_eqIntSS_code 0) laws_eqIntSS_l0_sh laws_eqIntSS_l0_ex (fun y => laws_eqIntSS_l0_again N ks k y) ks x := by kernel_rfl
theorem laws_eqIntSS_l0_ok (N : Nat) : LoopOk Try.prog Try.f63.ntmps (laws_eqIntSS_l0_s N) (loopAt laws_eqIntSS_code 0) :=
  loop_ok (l := laws_eqIntSS_l0_s N) progOk (laws_eqIntSS_gok N) (draw_ok progOk (laws_eqIntSS_gok N)) (fun R k x ks => laws_eqIntSS_l0_again N ks k x) (fun _ _ _ => rfl) (fun R k x ks => laws_eqIntSS_l0_step N R k x ks) (fun R x ks r h => ⟨N, h⟩) (lsOk_at (L := []) trivial) (by kernel_rfl) (by kernel_rfl)
noncomputable def laws_eqIntSS (N : Nat) (a : (List (List Int))) (b : (List (List Int))) : Option ((Bool × Unit) × (Unit)) :=
  (br (ine (tLen a) (tLen b))
    (some ((false, ()), ()))
    (laws_eqIntSS_l0 N (fun x => some ((x, ()), ())) (fun (_ : Unit) => some ((true, ()), ())) N a b 0))
abbrev laws_eqIntSS_ps : List (PV.Mode × Ty) := [(.ro, LLI), (.ro, LLI)]
abbrev laws_eqIntSS_rs : List (Bool × Ty) := [(true, .bool)]
noncomputable def laws_eqIntSS_S (N : Nat) : FSum := ⟨laws_eqIntSS_ps, laws_eqIntSS_rs, fun x => laws_eqIntSS N x.1 x.2.1⟩
theorem laws_eqIntSS_run (N : Nat) (x : argsT laws_eqIntSS_ps) : laws_eqIntSS N x.1 x.2.1 = funF (laws_eqIntSS_G N) tab [laws_eqIntSS_l0_s N] Try.f63 laws_eqIntSS_ps laws_eqIntSS_rs x := by kernel_rfl
theorem laws_eqIntSS_pc (N : Nat) : PC Try.prog 63 (laws_eqIntSS_S N) := by
  have e : laws_eqIntSS_S N = ⟨laws_eqIntSS_ps, laws_eqIntSS_rs, funF (laws_eqIntSS_G N) tab [laws_eqIntSS_l0_s N] Try.f63 laws_eqIntSS_ps laws_eqIntSS_rs⟩ := congrArg (FSum.mk laws_eqIntSS_ps laws_eqIntSS_rs) (funext (laws_eqIntSS_run N))
  rw [e]
  exact fun_ok (c := laws_eqIntSS_code) progOk (laws_eqIntSS_gok N) (draw_ok progOk (laws_eqIntSS_gok N)) Try.call63 Try.func63 (by kernel_rfl) (lsOk_at (L := [laws_eqIntSS_l0_s N]) ⟨laws_eqIntSS_l0_ok N, trivial⟩) (by kernel_rfl) (by kernel_rfl) (by kernel_rfl) (by kernel_rfl) (by kernel_rfl)

/-! ### laws_eqFormula -/
noncomputable def laws_eqFormula_G (N : Nat) : GTab := gOf [(63, laws_eqIntSS_S N)]
theorem laws_eqFormula_gok (N : Nat) : GOk Try.prog (laws_eqFormula_G N) := gOf_ok ⟨laws_eqIntSS_pc N, trivial⟩
noncomputable def laws_eqFormula_code : Code := (Try.f23.body).getD .skip
noncomputable def laws_eqFormula (N : Nat) (a : (Int × (List (List Int)))) (b : (Int × (List (List Int)))) : Option ((Bool × Unit) × (Unit)) :=
  (br (ine a.1 b.1)
    (some ((false, ()), ()))
    (((laws_eqIntSS N a.2 b.2).bind fun r =>
      (br (!r.1.1)
        (some ((false, ()), ()))
        (some ((true, ()), ()))))))
abbrev laws_eqFormula_ps : List (PV.Mode × Ty) := [(.ro, QILLI), (.ro, QILLI)]
abbrev laws_eqFormula_rs : List (Bool × Ty) := [(true, .bool)]
noncomputable def laws_eqFormula_S (N : Nat) : FSum := ⟨laws_eqFormula_ps, laws_eqFormula_rs, fun x => laws_eqFormula N x.1 x.2.1⟩
theorem laws_eqFormula_run (N : Nat) (x : argsT laws_eqFormula_ps) : laws_eqFormula N x.1 x.2.1 = funF (laws_eqFormula_G N) tab [] Try.f23 laws_eqFormula_ps laws_eqFormula_rs x := by kernel_rfl
theorem laws_eqFormula_pc (N : Nat) : PC Try.prog 23 (laws_eqFormula_S N) := by
  have e : laws_eqFormula_S N = ⟨laws_eqFormula_ps, laws_eqFormula_rs, funF (laws_eqFormula_G N) tab [] Try.f23 laws_eqFormula_ps laws_eqFormula_rs⟩ := congrArg (FSum.mk laws_eqFormula_ps laws_eqFormula_rs) (funext (laws_eqFormula_run N))
  rw [e]
  exact fun_ok (c := laws_eqFormula_code) progOk (laws_eqFormula_gok N) (draw_ok progOk (laws_eqFormula_gok N)) Try.call23 Try.func23 (by kernel_rfl) (lsOk_at (L := []) trivial) (by kernel_rfl) (by kernel_rfl) (by kernel_rfl) (by kernel_rfl) (by kernel_rfl)

/-! ### laws_markIntS -/
noncomputable def laws_markIntS_G (N : Nat) : GTab := gOf []
theorem laws_markIntS_gok (N : Nat) : GOk Try.prog (laws_markIntS_G N) := gOf_ok trivial
noncomputable def laws_markIntS_code : Code := (Try.f45.body).getD .skip
noncomputable def laws_markIntS_l0_sh : Sh := ⟨[(0, .one (.ref 0)), (1, .one (.ro I)), (5, .one (.ro I))], [.sl 3 I .own]⟩
noncomputable def laws_markIntS_l0_ex : List (Ex × Sh) := [(.exit 0, ⟨[(0, .one (.ref 0)), (1, .one (.ro I))], [.sl 3 I .own]⟩)]
noncomputable def laws_markIntS_l0 {R : Type} (N : Nat) (k0 : Int → (List Int) → Option R) : Nat → Int → Int → (List Int) → Option R
  | 0, _, _, _ => none
  | K + 1, kv1, i, o =>
    (br (ilt i (tLen o))
      ((chk (inb o i)
        (laws_markIntS_l0 N k0 K (IntKind.i64.wrap (kv1 + 1)) (IntKind.i64.wrap (i + 1)) (tSet o i kv1))))
      (k0 kv1 o))
noncomputable def laws_markIntS_l0_again {R : Type} (N : Nat) (ks : (j : Nat) → ((laws_markIntS_l0_ex.getD j (.ret, Sh.none)).2).T → Option R) (k : Nat) (x : laws_markIntS_l0_sh.T) : Option R :=
  laws_markIntS_l0 N (fun y0 y1 => ks 0 (((), y0, ()), (y1, ()))) k x.1.2.1 x.1.2.2.1 x.2.1
noncomputable def laws_markIntS_l0_s (N : Nat) : LSum := ⟨laws_markIntS_l0_sh, laws_markIntS_l0_ex, fun x ks => laws_markIntS_l0_again N ks N x⟩
theorem laws_markIntS_l0_step (N : Nat) (R : Type) (k : Nat) (x : laws_markIntS_l0_sh.T) (ks : (j : Nat) → ((laws_markIntS_l0_ex.getD j (.ret, Sh.none)).2).T → Option R) : laws_markIntS_l0_again N ks (k + 1) x = roundF (laws_markIntS_G N) tab [] (loopAt laws_markIntS_code 0) laws_markIntS_l0_sh laws_markIntS_l0_ex (fun y => laws_markIntS_l0_again N ks k y) ks x := by kernel_rfl
theorem laws_markIntS_l0_ok (N : Nat) : LoopOk Try.prog Try.f45.ntmps (laws_markIntS_l0_s N) (loopAt laws_markIntS_code 0) :=
  loop_ok (l := laws_markIntS_l0_s N) progOk (laws_markIntS_gok N) (draw_ok progOk (laws_markIntS_gok N)) (fun R k x ks => laws_markIntS_l0_again N ks k x) (fun _ _ _ => rfl) (fun R k x ks => laws_markIntS_l0_step N R k x ks) (fun R x ks r h => ⟨N, h⟩) (lsOk_at (L := []) trivial) (by kernel_rfl) (by kernel_rfl)
noncomputable def laws_markIntS (N : Nat) (a : (List Int)) (kv : Int) : Option ((Int × Unit) × ((List Int) × Unit)) :=
  laws_markIntS_l0 N (fun kv1 o => some ((kv1, ()), (o, ()))) N kv 0 a
abbrev laws_markIntS_ps : List (PV.Mode × Ty) := [(.mut, LI), (.ro, I)]
abbrev laws_markIntS_rs : List (Bool × Ty) := [(true, I)]
noncomputable def laws_markIntS_S (N : Nat) : FSum := ⟨laws_markIntS_ps, laws_markIntS_rs, fun x => laws_markIntS N x.1 x.2.1⟩
theorem laws_markIntS_run (N : Nat) (x : argsT laws_markIntS_ps) : laws_markIntS N x.1 x.2.1 = funF (laws_markIntS_G N) tab [laws_markIntS_l0_s N] Try.f45 laws_markIntS_ps laws_markIntS_rs x := by kernel_rfl
theorem laws_markIntS_pc (N : Nat) : PC Try.prog 45 (laws_markIntS_S N) := by
  have e : laws_markIntS_S N = ⟨laws_markIntS_ps, laws_markIntS_rs, funF (laws_markIntS_G N) tab [laws_markIntS_l0_s N] Try.f45 laws_markIntS_ps laws_markIntS_rs⟩ := congrArg (FSum.mk laws_markIntS_ps laws_markIntS_rs) (funext (laws_markIntS_run N))
  rw [e]
  exact fun_ok (c := laws_markIntS_code) progOk (laws_markIntS_gok N) (draw_ok progOk (laws_markIntS_gok N)) Try.call45 Try.func45 (by kernel_rfl) (lsOk_at (L := [laws_markIntS_l0_s N]) ⟨laws_markIntS_l0_ok N, trivial⟩) (by kernel_rfl) (by kernel_rfl) (by kernel_rfl) (by kernel_rfl) (by kernel_rfl)

/-! ### laws_markIntSS -/
noncomputable def laws_markIntSS_G (N : Nat) : GTab := gOf [(45, laws_markIntS_S N)]
theorem laws_markIntSS_gok (N : Nat) : GOk Try.prog (laws_markIntSS_G N) := gOf_ok ⟨laws_markIntS_pc N, trivial⟩
noncomputable def laws_markIntSS_code : Code := (Try.f82.body).getD .skip
noncomputable def laws_markIntSS_l0_sh : Sh := ⟨[(0, .one (.ref 0)), (1, .one (.ro I)), (5, .one (.ro I))], [.sl 22 LI .deep]⟩
noncomputable def laws_markIntSS_l0_ex : List (Ex × Sh) := [(.exit 0, ⟨[(0, .one (.ref 0)), (1, .one (.ro I))], [.sl 22 LI .deep]⟩)]
noncomputable def laws_markIntSS_l0 {R : Type} (N : Nat) (k0 : Int → (List (List Int)) → Option R) : Nat → Int → Int → (List (List Int)) → Option R
  | 0, _, _, _ => none
  | K + 1, kv1, i, o =>
    (br (ilt i (tLen o))
      ((chk (inb o i)
        ((laws_markIntS N (rdL o i) kv1).bind fun r =>
        laws_markIntSS_l0 N k0 K r.1.1 (IntKind.i64.wrap (i + 1)) (tSet o i r.2.1))))
      (k0 kv1 o))
noncomputable def laws_markIntSS_l0_again {R : Type} (N : Nat) (ks : (j : Nat) → ((laws_markIntSS_l0_ex.getD j (.ret, Sh.none)).2).T → Option R) (k : Nat) (x : laws_markIntSS_l0_sh.T) : Option R :=
  laws_markIntSS_l0 N (fun y0 y1 => ks 0 (((), y0, ()), (y1, ()))) k x.1.2.1 x.1.2.2.1 x.2.1
noncomputable def laws_markIntSS_l0_s (N : Nat) : LSum := ⟨laws_markIntSS_l0_sh, laws_markIntSS_l0_ex, fun x ks => laws_markIntSS_l0_again N ks N x⟩
theorem laws_markIntSS_l0_step (N : Nat) (R : Type) (k : Nat) (x : laws_markIntSS_l0_sh.T) (ks : (j : Nat) → ((laws_markIntSS_l0_ex.getD j (.ret, Sh.none)).2).T → Option R) : laws_markIntSS_l0_again N ks (k + 1) x = roundF (laws_markIntSS_G N) tab [] (loopAt laws_markIntSS_code 0) laws_markIntSS_l0_sh laws_markIntSS_l0_ex (fun y => laws_markIntSS_l0_again N ks k y) ks x := by kernel_rfl
theorem laws_markIntSS_l0_ok (N : Nat) : LoopOk Try.prog Try.f82.ntmps (laws_markIntSS_l0_s N) (loopAt laws_markIntSS_code 0) :=
  loop_ok (l := laws_markIntSS_l0_s N) progOk (laws_markIntSS_gok N) (draw_ok progOk (laws_markIntSS_gok N)) (fun R k x ks => laws_markIntSS_l0_again N ks k x) (fun _ _ _ => rfl) (fun R k x ks => laws_markIntSS_l0_step N R k x ks) (fun R x ks r h => ⟨N, h⟩) (lsOk_at (L := []) trivial) (by kernel_rfl) (by kernel_rfl)
noncomputable def laws_markIntSS (N : Nat) (a : (List (List Int))) (kv : Int) : Option ((Int × Unit) × ((List (List Int)) × Unit)) :=
  laws_markIntSS_l0 N (fun kv1 o => some ((kv1, ()), (o, ()))) N kv 0 a
abbrev laws_markIntSS_ps : List (PV.Mode × Ty) := [(.mut, LLI), (.ro, I)]
abbrev laws_markIntSS_rs : List (Bool × Ty) := [(true, I)]
noncomputable def laws_markIntSS_S (N : Nat) : FSum := ⟨laws_markIntSS_ps, laws_markIntSS_rs, fun x => laws_markIntSS N x.1 x.2.1⟩
theorem laws_markIntSS_run (N : Nat) (x : argsT laws_markIntSS_ps) : laws_markIntSS N x.1 x.2.1 = funF (laws_markIntSS_G N) tab [laws_markIntSS_l0_s N] Try.f82 laws_markIntSS_ps laws_markIntSS_rs x := by kernel_rfl
theorem laws_markIntSS_pc (N : Nat) : PC Try.prog 82 (laws_markIntSS_S N) := by
  have e : laws_markIntSS_S N = ⟨laws_markIntSS_ps, laws_markIntSS_rs, funF (laws_markIntSS_G N) tab [laws_markIntSS_l0_s N] Try.f82 laws_markIntSS_ps laws_markIntSS_rs⟩ := congrArg (FSum.mk laws_markIntSS_ps laws_markIntSS_rs) (funext (laws_markIntSS_run N))
  rw [e]
  exact fun_ok (c := laws_markIntSS_code) progOk (laws_markIntSS_gok N) (draw_ok progOk (laws_markIntSS_gok N)) Try.call82 Try.func82 (by kernel_rfl) (lsOk_at (L := [laws_markIntSS_l0_s N]) ⟨laws_markIntSS_l0_ok N, trivial⟩) (by kernel_rfl) (by kernel_rfl) (by kernel_rfl) (by kernel_rfl) (by kernel_rfl)

/-! ### laws_markFormula -/
noncomputable def laws_markFormula_G (N : Nat) : GTab := gOf [(82, laws_markIntSS_S N)]
theorem laws_markFormula_gok (N : Nat) : GOk Try.prog (laws_markFormula_G N) := gOf_ok ⟨laws_markIntSS_pc N, trivial⟩
noncomputable def laws_markFormula_code : Code := (Try.f40.body).getD .skip
noncomputable def laws_markFormula (N : Nat) (a : (Int × (List (List Int)))) (kv : Int) : Option ((Int × Unit) × ((Int × (List (List Int))) × Unit)) :=
  ((laws_markIntSS N a.2 kv).bind fun r =>
    some ((r.1.1, ()), ((a.1, r.2.1), ())))
abbrev laws_markFormula_ps : List (PV.Mode × Ty) := [(.mut, QILLI), (.ro, I)]
abbrev laws_markFormula_rs : List (Bool × Ty) := [(true, I)]
noncomputable def laws_markFormula_S (N : Nat) : FSum := ⟨laws_markFormula_ps, laws_markFormula_rs, fun x => laws_markFormula N x.1 x.2.1⟩
theorem laws_markFormula_run (N : Nat) (x : argsT laws_markFormula_ps) : laws_markFormula N x.1 x.2.1 = funF (laws_markFormula_G N) tab [] Try.f40 laws_markFormula_ps laws_markFormula_rs x := by kernel_rfl
theorem laws_markFormula_pc (N : Nat) : PC Try.prog 40 (laws_markFormula_S N) := by
  have e : laws_markFormula_S N = ⟨laws_markFormula_ps, laws_markFormula_rs, funF (laws_markFormula_G N) tab [] Try.f40 laws_markFormula_ps laws_markFormula_rs⟩ := congrArg (FSum.mk laws_markFormula_ps laws_markFormula_rs) (funext (laws_markFormula_run N))
  rw [e]
  exact fun_ok (c := laws_markFormula_code) progOk (laws_markFormula_gok N) (draw_ok progOk (laws_markFormula_gok N)) Try.call40 Try.func40 (by kernel_rfl) (lsOk_at (L := []) trivial) (by kernel_rfl) (by kernel_rfl) (by kernel_rfl) (by kernel_rfl) (by kernel_rfl)

/-! ### laws_heldIntS -/
noncomputable def laws_heldIntS_G (N : Nat) : GTab := gOf []
theorem laws_heldIntS_gok (N : Nat) : GOk Try.prog (laws_heldIntS_G N) := gOf_ok trivial
noncomputable def laws_heldIntS_code : Code := (Try.f46.body).getD .skip
noncomputable def laws_heldIntS_l0_sh : Sh := ⟨[(0, .one (.ro LI)), (1, .one (.ro I)), (5, .one (.ro I))], []⟩
noncomputable def laws_heldIntS_l0_ex : List (Ex × Sh) := [(.ret, ⟨[(4, .one (.ro I))], []⟩), (.exit 0, ⟨[(1, .one (.ro I))], []⟩)]
noncomputable def laws_heldIntS_l0 {R : Type} (N : Nat) (k0 : Int → Option R) (k1 : Int → Option R) : Nat → (List Int) → Int → Int → Option R
  | 0, _, _, _ => none
  | K + 1, a1, kv1, i =>
    (br (ilt i (tLen a1))
      ((chk (inb a1 i)
        (br (ine (rdI a1 i) kv1)
        (k0 (-1))
        (laws_heldIntS_l0 N k0 k1 K a1 (IntKind.i64.wrap (kv1 + 1)) (IntKind.i64.wrap (i + 1))))))
      (k1 kv1))
noncomputable def laws_heldIntS_l0_again {R : Type} (N : Nat) (ks : (j : Nat) → ((laws_heldIntS_l0_ex.getD j (.ret, Sh.none)).2).T → Option R) (k : Nat) (x : laws_heldIntS_l0_sh.T) : Option R :=
  laws_heldIntS_l0 N (fun y0 => ks 0 ((y0, ()), ())) (fun y0 => ks 1 ((y0, ()), ())) k x.1.1 x.1.2.1 x.1.2.2.1
noncomputable def laws_heldIntS_l0_s (N : Nat) : LSum := ⟨laws_heldIntS_l0_sh, laws_heldIntS_l0_ex, fun x ks => laws_heldIntS_l0_again N ks N x⟩
theorem laws_heldIntS_l0_step (N : Nat) (R : Type) (k : Nat) (x : laws_heldIntS_l0_sh.T) (ks : (j : Nat) → ((laws_heldIntS_l0_ex.getD j (.ret, Sh.none)).2).T → Option R) : laws_heldIntS_l0_again N ks (k + 1) x = roundF (laws_heldIntS_G N) tab [] (loopAt laws_heldIntS_code 0) laws_heldIntS_l0_sh laws_heldIntS_l0_ex (fun y => laws_heldIntS_l0_again N ks k y) ks x := by kernel_rfl
theorem laws_heldIntS_l0_ok (N : Nat) : LoopOk Try.prog Try.f46.ntmps (laws_heldIntS_l0_s N) (loopAt laws_heldIntS_code 0) :=
  loop_ok (l := laws_heldIntS_l0_s N) progOk (laws_heldIntS_gok N) (draw_ok progOk (laws_heldIntS_gok N)) (fun R k x ks => laws_heldIntS_l0_again N ks k x) (fun _ _ _ => rfl) (fun R k x ks => laws_heldIntS_l0_step N R k x ks) (fun R x ks r h => ⟨N, h⟩) (lsOk_at (L := []) trivial) (by kernel_rfl) (by kernel_rfl)
noncomputable def laws_heldIntS (N : Nat) (a : (List Int)) (kv : Int) : Option ((Int × Unit) × (Unit)) :=
  laws_heldIntS_l0 N (fun x => some ((x, ()), ())) (fun kv1 => some ((kv1, ()), ())) N a kv 0
abbrev laws_heldIntS_ps : List (PV.Mode × Ty) := [(.ro, LI), (.ro, I)]
abbrev laws_heldIntS_rs : List (Bool × Ty) := [(true, I)]
noncomputable def laws_heldIntS_S (N : Nat) : FSum := ⟨laws_heldIntS_ps, laws_heldIntS_rs, fun x => laws_heldIntS N x.1 x.2.1⟩
theorem laws_heldIntS_run (N : Nat) (x : argsT laws_heldIntS_ps) : laws_heldIntS N x.1 x.2.1 = funF (laws_heldIntS_G N) tab [laws_heldIntS_l0_s N] Try.f46 laws_heldIntS_ps laws_heldIntS_rs x := by kernel_rfl
theorem laws_heldIntS_pc (N : Nat) : PC Try.prog 46 (laws_heldIntS_S N) := by
  have e : laws_heldIntS_S N = ⟨laws_heldIntS_ps, laws_heldIntS_rs, funF (laws_heldIntS_G N) tab [laws_heldIntS_l0_s N] Try.f46 laws_heldIntS_ps laws_heldIntS_rs⟩ := congrArg (FSum.mk laws_heldIntS_ps laws_heldIntS_rs) (funext (laws_heldIntS_run N))
  rw [e]
  exact fun_ok (c := laws_heldIntS_code) progOk (laws_heldIntS_gok N) (draw_ok progOk (laws_heldIntS_gok N)) Try.call46 Try.func46 (by kernel_rfl) (lsOk_at (L := [laws_heldIntS_l0_s N]) ⟨laws_heldIntS_l0_ok N, trivial⟩) (by kernel_rfl) (by kernel_rfl) (by kernel_rfl) (by kernel_rfl) (by kernel_rfl)

/-! ### laws_heldIntSS -/
noncomputable def laws_heldIntSS_G (N : Nat) : GTab := gOf [(46, laws_heldIntS_S N)]
theorem laws_heldIntSS_gok (N : Nat) : GOk Try.prog (laws_heldIntSS_G N) := gOf_ok ⟨laws_heldIntS_pc N, trivial⟩
noncomputable def laws_heldIntSS_code : Code := (Try.f83.body).getD .skip
noncomputable def laws_heldIntSS_l0_sh : Sh := ⟨[(0, .one (.ro LLI)), (1, .one (.ro I)), (5, .one (.ro I))], []⟩
noncomputable def laws_heldIntSS_l0_ex : List (Ex × Sh) := [(.ret, ⟨[(4, .one (.ro I))], []⟩), (.exit 0, ⟨[(1, .one (.ro I))], []⟩)]
noncomputable def laws_heldIntSS_l0 {R : Type} (N : Nat) (k0 : Int → Option R) (k1 : Int → Option R) : Nat → (List (List Int)) → Int → Int → Option R
  | 0, _, _, _ => none
  | K + 1, a1, kv1, i =>
    (br (ilt i (tLen a1))
      ((chk (inb a1 i)
        ((laws_heldIntS N (rdL a1 i) kv1).bind fun r =>
        (br (ilt r.1.1 0)
          (k0 (-1))
          (laws_heldIntSS_l0 N k0 k1 K a1 r.1.1 (IntKind.i64.wrap (i + 1)))))))
      (k1 kv1))
noncomputable def laws_heldIntSS_l0_again {R : Type} (N : Nat) (ks : (j : Nat) → ((laws_heldIntSS_l0_ex.getD j (.ret, Sh.none)).2).T → Option R) (k : Nat) (x : laws_heldIntSS_l0_sh.T) : Option R :=
  laws_heldIntSS_l0 N (fun y0 => ks 0 ((y0, ()), ())) (fun y0 => ks 1 ((y0, ()), ())) k x.1.1 x.1.2.1 x.1.2.2.1
noncomputable def laws_heldIntSS_l0_s (N : Nat) : LSum := ⟨laws_heldIntSS_l0_sh, laws_heldIntSS_l0_ex, fun x ks => laws_heldIntSS_l0_again N ks N x⟩
theorem laws_heldIntSS_l0_step (N : Nat) (R : Type) (k : Nat) (x : laws_heldIntSS_l0_sh.T) (ks : (j : Nat) → ((laws_heldIntSS_l0_ex.getD j (.ret, Sh.none)).2).T → Option R) : laws_heldIntSS_l0_again N ks (k + 1) x = roundF (laws_heldIntSS_G N) tab [] (loopAt laws_heldIntSS_code 0) laws_heldIntSS_l0_sh laws_heldIntSS_l0_ex (fun y => laws_heldIntSS_l0_again N ks k y) ks x := by kernel_rfl
theorem laws_heldIntSS_l0_ok (N : Nat) : LoopOk Try.prog Try.f83.ntmps (laws_heldIntSS_l0_s N) (loopAt laws_heldIntSS_code 0) :=
  loop_ok (l := laws_heldIntSS_l0_s N) progOk (laws_heldIntSS_gok N) (draw_ok progOk (laws_heldIntSS_gok N)) (fun R k x ks => laws_heldIntSS_l0_again N ks k x) (fun _ _ _ => rfl) (fun R k x ks => laws_heldIntSS_l0_step N R k x ks) (fun R x ks r h => ⟨N, h⟩) (lsOk_at (L := []) trivial) (by kernel_rfl) (by kernel_rfl)
noncomputable def laws_heldIntSS (N : Nat) (a : (List (List Int))) (kv : Int) : Option ((Int × Unit) × (Unit)) :=
  laws_heldIntSS_l0 N (fun x => some ((x, ()), ())) (fun kv1 => some ((kv1, ()), ())) N a kv 0
abbrev laws_heldIntSS_ps : List (PV.Mode × Ty) := [(.ro, LLI), (.ro, I)]
abbrev laws_heldIntSS_rs : List (Bool × Ty) := [(true, I)]
noncomputable def laws_heldIntSS_S (N : Nat) : FSum := ⟨laws_heldIntSS_ps, laws_heldIntSS_rs, fun x => laws_heldIntSS N x.1 x.2.1⟩
theorem laws_heldIntSS_run (N : Nat) (x : argsT laws_heldIntSS_ps) : laws_heldIntSS N x.1 x.2.1 = funF (laws_heldIntSS_G N) tab [laws_heldIntSS_l0_s N] Try.f83 laws_heldIntSS_ps laws_heldIntSS_rs x := by kernel_rfl
theorem laws_heldIntSS_pc (N : Nat) : PC Try.prog 83 (laws_heldIntSS_S N) := by
  have e : laws_heldIntSS_S N = ⟨laws_heldIntSS_ps, laws_heldIntSS_rs, funF (laws_heldIntSS_G N) tab [laws_heldIntSS_l0_s N] Try.f83 laws_heldIntSS_ps laws_heldIntSS_rs⟩ := congrArg (FSum.mk laws_heldIntSS_ps laws_heldIntSS_rs) (funext (laws_heldIntSS_run N))
  rw [e]
  exact fun_ok (c := laws_heldIntSS_code) progOk (laws_heldIntSS_gok N) (draw_ok progOk (laws_heldIntSS_gok N)) Try.call83 Try.func83 (by kernel_rfl) (lsOk_at (L := [laws_heldIntSS_l0_s N]) ⟨laws_heldIntSS_l0_ok N, trivial⟩) (by kernel_rfl) (by kernel_rfl) (by kernel_rfl) (by kernel_rfl) (by kernel_rfl)

/-! ### laws_heldFormula -/
noncomputable def laws_heldFormula_G (N : Nat) : GTab := gOf [(83, laws_heldIntSS_S N)]
theorem laws_heldFormula_gok (N : Nat) : GOk Try.prog (laws_heldFormula_G N) := gOf_ok ⟨laws_heldIntSS_pc N, trivial⟩
noncomputable def laws_heldFormula_code : Code := (Try.f41.body).getD .skip
noncomputable def laws_heldFormula (N : Nat) (a : (Int × (List (List Int)))) (kv : Int) : Option ((Int × Unit) × (Unit)) :=
  ((laws_heldIntSS N a.2 kv).bind fun r =>
    (br (ilt r.1.1 0)
      (some (((-1), ()), ()))
      (some ((r.1.1, ()), ()))))
abbrev laws_heldFormula_ps : List (PV.Mode × Ty) := [(.ro, QILLI), (.ro, I)]
abbrev laws_heldFormula_rs : List (Bool × Ty) := [(true, I)]
noncomputable def laws_heldFormula_S (N : Nat) : FSum := ⟨laws_heldFormula_ps, laws_heldFormula_rs, fun x => laws_heldFormula N x.1 x.2.1⟩
theorem laws_heldFormula_run (N : Nat) (x : argsT laws_heldFormula_ps) : laws_heldFormula N x.1 x.2.1 = funF (laws_heldFormula_G N) tab [] Try.f41 laws_heldFormula_ps laws_heldFormula_rs x := by kernel_rfl
theorem laws_heldFormula_pc (N : Nat) : PC Try.prog 41 (laws_heldFormula_S N) := by
  have e : laws_heldFormula_S N = ⟨laws_heldFormula_ps, laws_heldFormula_rs, funF (laws_heldFormula_G N) tab [] Try.f41 laws_heldFormula_ps laws_heldFormula_rs⟩ := congrArg (FSum.mk laws_heldFormula_ps laws_heldFormula_rs) (funext (laws_heldFormula_run N))
  rw [e]
  exact fun_ok (c := laws_heldFormula_code) progOk (laws_heldFormula_gok N) (draw_ok progOk (laws_heldFormula_gok N)) Try.call41 Try.func41 (by kernel_rfl) (lsOk_at (L := []) trivial) (by kernel_rfl) (by kernel_rfl) (by kernel_rfl) (by kernel_rfl) (by kernel_rfl)
end Go.Proofs.Ytbnebekejbhopaa
