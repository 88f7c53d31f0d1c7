/- Functions of the program as functions on data. -/
import Derived.Test.YtgelipdkheahdaaFlipDistanceTa
set_option linter.all false
namespace Go.Proofs.Ytgelipdkheahdaa
open Go Go.PV
/-! ### laws_szIntS -/
abbrev laws_szIntS_ps : List (PV.Mode × Ty) := [(.ro, LI), (.ro, I)]
abbrev laws_szIntS_rs : List (Bool × Ty) := [(true, I)]
noncomputable def laws_szIntS_G (N : Nat) : GTab := gOf []
theorem laws_szIntS_gok (N : Nat) : GOk Try.prog (laws_szIntS_G N) := gOf_ok trivial
noncomputable def laws_szIntS_code : Code := (Try.f104.body).getD .skip
noncomputable def laws_szIntS (N : Nat) (a : (List Int)) (left : Int) : Option ((Int × Unit) × (Unit)) :=
  (br (ilt (IntKind.i64.wrap (left - (tLen a))) 0)
    (some (((-1), ()), ()))
    (some (((IntKind.i64.wrap (left - (tLen a))), ()), ())))
noncomputable def laws_szIntS_S (N : Nat) : FSum := ⟨laws_szIntS_ps, laws_szIntS_rs, fun x => laws_szIntS N x.1 x.2.1⟩
theorem laws_szIntS_run (N : Nat) (x : argsT laws_szIntS_ps) : laws_szIntS N x.1 x.2.1 = funF (laws_szIntS_G N) tab [] Try.f104 laws_szIntS_ps laws_szIntS_rs x := by kernel_rfl
theorem laws_szIntS_pc (N : Nat) : PC Try.prog 104 (laws_szIntS_S N) := by
  have e : laws_szIntS_S N = ⟨laws_szIntS_ps, laws_szIntS_rs, funF (laws_szIntS_G N) tab [] Try.f104 laws_szIntS_ps laws_szIntS_rs⟩ := congrArg (FSum.mk laws_szIntS_ps laws_szIntS_rs) (funext (laws_szIntS_run N))
  rw [e]
  exact fun_ok (c := laws_szIntS_code) progOk (laws_szIntS_gok N) (draw_ok progOk (laws_szIntS_gok N)) Try.call104 Try.func104 (by kernel_rfl) (lsOk_at (L := []) trivial) (by kernel_rfl) (by kernel_rfl) (by kernel_rfl) (by kernel_rfl) (by kernel_rfl)

/-! ### laws_szIntSS -/
abbrev laws_szIntSS_ps : List (PV.Mode × Ty) := [(.ro, LLI), (.ro, I)]
abbrev laws_szIntSS_rs : List (Bool × Ty) := [(true, I)]
noncomputable def laws_szIntSS_G (N : Nat) : GTab := gOf [(104, laws_szIntS_S N)]
theorem laws_szIntSS_gok (N : Nat) : GOk Try.prog (laws_szIntSS_G N) := gOf_ok ⟨laws_szIntS_pc N, trivial⟩
noncomputable def laws_szIntSS_code : Code := (Try.f62.body).getD .skip
noncomputable def laws_szIntSS_l0_sh : Sh := ⟨[(0, .one (.ro LLI)), (1, .one (.ro I)), (5, .one (.ro I))], []⟩
noncomputable def laws_szIntSS_l0_ex : List (Ex × Sh) := [(.ret, ⟨[(4, .one (.ro I))], []⟩), (.exit 0, ⟨[(1, .one (.ro I))], []⟩)]
noncomputable def laws_szIntSS_l0 {R : Type} (N : Nat) (k0 : Int → Option R) (k1 : Int → Option R) : Nat → (List (List Int)) → Int → Int → Option R
  | 0, _, _, _ => none
  | K + 1, a1, left1, i =>
    (br (ilt i (tLen a1))
      ((chk (inb a1 i)
        ((laws_szIntS N (rdL a1 i) left1).bind fun r =>
        (br (ilt r.1.1 0)
          (k0 (-1))
          (laws_szIntSS_l0 N k0 k1 K a1 r.1.1 (IntKind.i64.wrap (i + 1)))))))
      (k1 left1))
noncomputable def laws_szIntSS_l0_again {R : Type} (N : Nat) (ks : (j : Nat) → ((laws_szIntSS_l0_ex.getD j (.ret, Sh.none)).2).T → Option R) (k : Nat) (x : laws_szIntSS_l0_sh.T) : Option R :=
  laws_szIntSS_l0 N (fun y0 => ks 0 ((y0, ()), ())) (fun y0 => ks 1 ((y0, ()), ())) k x.1.1 x.1.2.1 x.1.2.2.1
noncomputable def laws_szIntSS_l0_s (N : Nat) : LSum := ⟨laws_szIntSS_l0_sh, laws_szIntSS_l0_ex, fun x ks => laws_szIntSS_l0_again N ks N x⟩
theorem laws_szIntSS_l0_step (N : Nat) (R : Type) (k : Nat) (x : laws_szIntSS_l0_sh.T) (ks : (j : Nat) → ((laws_szIntSS_l0_ex.getD j (.ret, Sh.none)).2).T → Option R) : laws_szIntSS_l0_again N ks (k + 1) x = roundF (laws_szIntSS_G N) tab [] (loopAt laws_szIntSS_code 0) laws_szIntSS_l0_sh laws_szIntSS_l0_ex (fun y => laws_szIntSS_l0_again N ks k y) ks x := by kernel_rfl
theorem laws_szIntSS_l0_ok (N : Nat) : LoopOk Try.prog Try.f62.ntmps (laws_szIntSS_l0_s N) (loopAt laws_szIntSS_code 0) :=
  loop_ok (l := laws_szIntSS_l0_s N) progOk (laws_szIntSS_gok N) (draw_ok progOk (laws_szIntSS_gok N)) (fun R k x ks => laws_szIntSS_l0_again N ks k x) (fun _ _ _ => rfl) (fun R k x ks => laws_szIntSS_l0_step N R k x ks) (fun R x ks r h => ⟨N, h⟩) (lsOk_at (L := []) trivial) (by kernel_rfl) (by kernel_rfl)
noncomputable def laws_szIntSS (N : Nat) (a : (List (List Int))) (left : Int) : Option ((Int × Unit) × (Unit)) :=
  (br (ilt (IntKind.i64.wrap (left - (tLen a))) 0)
    (some (((-1), ()), ()))
    (laws_szIntSS_l0 N (fun x => some ((x, ()), ())) (fun left1 => some ((left1, ()), ())) N a (IntKind.i64.wrap (left - (tLen a))) 0))
noncomputable def laws_szIntSS_S (N : Nat) : FSum := ⟨laws_szIntSS_ps, laws_szIntSS_rs, fun x => laws_szIntSS N x.1 x.2.1⟩
theorem laws_szIntSS_run (N : Nat) (x : argsT laws_szIntSS_ps) : laws_szIntSS N x.1 x.2.1 = funF (laws_szIntSS_G N) tab [laws_szIntSS_l0_s N] Try.f62 laws_szIntSS_ps laws_szIntSS_rs x := by kernel_rfl
theorem laws_szIntSS_pc (N : Nat) : PC Try.prog 62 (laws_szIntSS_S N) := by
  have e : laws_szIntSS_S N = ⟨laws_szIntSS_ps, laws_szIntSS_rs, funF (laws_szIntSS_G N) tab [laws_szIntSS_l0_s N] Try.f62 laws_szIntSS_ps laws_szIntSS_rs⟩ := congrArg (FSum.mk laws_szIntSS_ps laws_szIntSS_rs) (funext (laws_szIntSS_run N))
  rw [e]
  exact fun_ok (c := laws_szIntSS_code) progOk (laws_szIntSS_gok N) (draw_ok progOk (laws_szIntSS_gok N)) Try.call62 Try.func62 (by kernel_rfl) (lsOk_at (L := [laws_szIntSS_l0_s N]) ⟨laws_szIntSS_l0_ok N, trivial⟩) (by kernel_rfl) (by kernel_rfl) (by kernel_rfl) (by kernel_rfl) (by kernel_rfl)

/-! ### laws_szFormula -/
abbrev laws_szFormula_ps : List (PV.Mode × Ty) := [(.ro, QILLI), (.ro, I)]
abbrev laws_szFormula_rs : List (Bool × Ty) := [(true, I)]
noncomputable def laws_szFormula_G (N : Nat) : GTab := gOf [(62, laws_szIntSS_S N)]
theorem laws_szFormula_gok (N : Nat) : GOk Try.prog (laws_szFormula_G N) := gOf_ok ⟨laws_szIntSS_pc N, trivial⟩
noncomputable def laws_szFormula_code : Code := (Try.f26.body).getD .skip
noncomputable def laws_szFormula (N : Nat) (a : (Int × (List (List Int)))) (left : Int) : Option ((Int × Unit) × (Unit)) :=
  ((laws_szIntSS N a.2 left).bind fun r =>
    (br (ilt r.1.1 0)
      (some (((-1), ()), ()))
      (some ((r.1.1, ()), ()))))
noncomputable def laws_szFormula_S (N : Nat) : FSum := ⟨laws_szFormula_ps, laws_szFormula_rs, fun x => laws_szFormula N x.1 x.2.1⟩
theorem laws_szFormula_run (N : Nat) (x : argsT laws_szFormula_ps) : laws_szFormula N x.1 x.2.1 = funF (laws_szFormula_G N) tab [] Try.f26 laws_szFormula_ps laws_szFormula_rs x := by kernel_rfl
theorem laws_szFormula_pc (N : Nat) : PC Try.prog 26 (laws_szFormula_S N) := by
  have e : laws_szFormula_S N = ⟨laws_szFormula_ps, laws_szFormula_rs, funF (laws_szFormula_G N) tab [] Try.f26 laws_szFormula_ps laws_szFormula_rs⟩ := congrArg (FSum.mk laws_szFormula_ps laws_szFormula_rs) (funext (laws_szFormula_run N))
  rw [e]
  exact fun_ok (c := laws_szFormula_code) progOk (laws_szFormula_gok N) (draw_ok progOk (laws_szFormula_gok N)) Try.call26 Try.func26 (by kernel_rfl) (lsOk_at (L := []) trivial) (by kernel_rfl) (by kernel_rfl) (by kernel_rfl) (by kernel_rfl) (by kernel_rfl)

/-! ### laws_toIntS -/
abbrev laws_toIntS_ps : List (PV.Mode × Ty) := [(.ro, LI)]
abbrev laws_toIntS_rs : List (Bool × Ty) := [(true, LI)]
noncomputable def laws_toIntS_G (N : Nat) : GTab := gOf []
theorem laws_toIntS_gok (N : Nat) : GOk Try.prog (laws_toIntS_G N) := gOf_ok trivial
noncomputable def laws_toIntS_code : Code := (Try.f29.body).getD .skip
noncomputable def laws_toIntS_l0_sh : Sh := ⟨[(0, .one (.ro LI)), (3, .one (.ref 0)), (4, .one (.ro I))], [.sl 3 I .own]⟩
noncomputable def laws_toIntS_l0_ex : List (Ex × Sh) := [(.exit 0, ⟨[(3, .one (.ref 0))], [.sl 3 I .own]⟩)]
noncomputable def laws_toIntS_l0 {R : Type} (N : Nat) (k0 : (List Int) → Option R) : Nat → (List Int) → Int → (List Int) → Option R
  | 0, _, _, _ => none
  | K + 1, a1, i, o =>
    (br (ilt i (tLen a1))
      ((chk (inb a1 i)
        (chk (inb o i)
        (laws_toIntS_l0 N k0 K a1 (IntKind.i64.wrap (i + 1)) (tSet o i (rdI a1 i))))))
      (k0 o))
noncomputable def laws_toIntS_l0_again {R : Type} (N : Nat) (ks : (j : Nat) → ((laws_toIntS_l0_ex.getD j (.ret, Sh.none)).2).T → Option R) (k : Nat) (x : laws_toIntS_l0_sh.T) : Option R :=
  laws_toIntS_l0 N (fun y0 => ks 0 (((), ()), (y0, ()))) k x.1.1 x.1.2.2.1 x.2.1
noncomputable def laws_toIntS_l0_s (N : Nat) : LSum := ⟨laws_toIntS_l0_sh, laws_toIntS_l0_ex, fun x ks => laws_toIntS_l0_again N ks N x⟩
theorem laws_toIntS_l0_step (N : Nat) (R : Type) (k : Nat) (x : laws_toIntS_l0_sh.T) (ks : (j : Nat) → ((laws_toIntS_l0_ex.getD j (.ret, Sh.none)).2).T → Option R) : laws_toIntS_l0_again N ks (k + 1) x = roundF (laws_toIntS_G N) tab [] (loopAt laws_toIntS_code 0) laws_toIntS_l0_sh laws_toIntS_l0_ex (fun y => laws_toIntS_l0_again N ks k y) ks x := by kernel_rfl
theorem laws_toIntS_l0_ok (N : Nat) : LoopOk Try.prog Try.f29.ntmps (laws_toIntS_l0_s N) (loopAt laws_toIntS_code 0) :=
  loop_ok (l := laws_toIntS_l0_s N) progOk (laws_toIntS_gok N) (draw_ok progOk (laws_toIntS_gok N)) (fun R k x ks => laws_toIntS_l0_again N ks k x) (fun _ _ _ => rfl) (fun R k x ks => laws_toIntS_l0_step N R k x ks) (fun R x ks r h => ⟨N, h⟩) (lsOk_at (L := []) trivial) (by kernel_rfl) (by kernel_rfl)
noncomputable def laws_toIntS (N : Nat) (a : (List Int)) : Option (((List Int) × Unit) × (Unit)) :=
  (chk (ile 0 (tLen a) && ile (tLen a) (tLen a) && fits (tLen a))
    (laws_toIntS_l0 N (fun o => some ((o, ()), ())) N a 0 (tRep (tLen a) (0 : Int))))
noncomputable def laws_toIntS_S (N : Nat) : FSum := ⟨laws_toIntS_ps, laws_toIntS_rs, fun x => laws_toIntS N x.1⟩
theorem laws_toIntS_run (N : Nat) (x : argsT laws_toIntS_ps) : laws_toIntS N x.1 = funF (laws_toIntS_G N) tab [laws_toIntS_l0_s N] Try.f29 laws_toIntS_ps laws_toIntS_rs x := by kernel_rfl
theorem laws_toIntS_pc (N : Nat) : PC Try.prog 29 (laws_toIntS_S N) := by
  have e : laws_toIntS_S N = ⟨laws_toIntS_ps, laws_toIntS_rs, funF (laws_toIntS_G N) tab [laws_toIntS_l0_s N] Try.f29 laws_toIntS_ps laws_toIntS_rs⟩ := congrArg (FSum.mk laws_toIntS_ps laws_toIntS_rs) (funext (laws_toIntS_run N))
  rw [e]
  exact fun_ok (c := laws_toIntS_code) progOk (laws_toIntS_gok N) (draw_ok progOk (laws_toIntS_gok N)) Try.call29 Try.func29 (by kernel_rfl) (lsOk_at (L := [laws_toIntS_l0_s N]) ⟨laws_toIntS_l0_ok N, trivial⟩) (by kernel_rfl) (by kernel_rfl) (by kernel_rfl) (by kernel_rfl) (by kernel_rfl)

/-! ### laws_toIntSS -/
abbrev laws_toIntSS_ps : List (PV.Mode × Ty) := [(.ro, LLI)]
abbrev laws_toIntSS_rs : List (Bool × Ty) := [(true, LLI)]
noncomputable def laws_toIntSS_G (N : Nat) : GTab := gOf [(29, laws_toIntS_S N)]
theorem laws_toIntSS_gok (N : Nat) : GOk Try.prog (laws_toIntSS_G N) := gOf_ok ⟨laws_toIntS_pc N, trivial⟩
noncomputable def laws_toIntSS_code : Code := (Try.f65.body).getD .skip
noncomputable def laws_toIntSS_l0_sh : Sh := ⟨[(0, .one (.ro LLI)), (3, .one (.ref 0)), (4, .one (.ro I))], [.sl 43 LI .deep]⟩
noncomputable def laws_toIntSS_l0_ex : List (Ex × Sh) := [(.exit 0, ⟨[(3, .one (.ref 0))], [.sl 43 LI .deep]⟩)]
noncomputable def laws_toIntSS_l0 {R : Type} (N : Nat) (k0 : (List (List Int)) → Option R) : Nat → (List (List Int)) → Int → (List (List Int)) → Option R
  | 0, _, _, _ => none
  | K + 1, a1, i, o =>
    (br (ilt i (tLen a1))
      ((chk (inb a1 i)
        ((laws_toIntS N (rdL a1 i)).bind fun r =>
        (chk (inb o i)
          (laws_toIntSS_l0 N k0 K a1 (IntKind.i64.wrap (i + 1)) (tSet o i r.1.1))))))
      (k0 o))
noncomputable def laws_toIntSS_l0_again {R : Type} (N : Nat) (ks : (j : Nat) → ((laws_toIntSS_l0_ex.getD j (.ret, Sh.none)).2).T → Option R) (k : Nat) (x : laws_toIntSS_l0_sh.T) : Option R :=
  laws_toIntSS_l0 N (fun y0 => ks 0 (((), ()), (y0, ()))) k x.1.1 x.1.2.2.1 x.2.1
noncomputable def laws_toIntSS_l0_s (N : Nat) : LSum := ⟨laws_toIntSS_l0_sh, laws_toIntSS_l0_ex, fun x ks => laws_toIntSS_l0_again N ks N x⟩
theorem laws_toIntSS_l0_step (N : Nat) (R : Type) (k : Nat) (x : laws_toIntSS_l0_sh.T) (ks : (j : Nat) → ((laws_toIntSS_l0_ex.getD j (.ret, Sh.none)).2).T → Option R) : laws_toIntSS_l0_again N ks (k + 1) x = roundF (laws_toIntSS_G N) tab [] (loopAt laws_toIntSS_code 0) laws_toIntSS_l0_sh laws_toIntSS_l0_ex (fun y => laws_toIntSS_l0_again N ks k y) ks x := by kernel_rfl
theorem laws_toIntSS_l0_ok (N : Nat) : LoopOk Try.prog Try.f65.ntmps (laws_toIntSS_l0_s N) (loopAt laws_toIntSS_code 0) :=
  loop_ok (l := laws_toIntSS_l0_s N) progOk (laws_toIntSS_gok N) (draw_ok progOk (laws_toIntSS_gok N)) (fun R k x ks => laws_toIntSS_l0_again N ks k x) (fun _ _ _ => rfl) (fun R k x ks => laws_toIntSS_l0_step N R k x ks) (fun R x ks r h => ⟨N, h⟩) (lsOk_at (L := []) trivial) (by kernel_rfl) (by kernel_rfl)
noncomputable def laws_toIntSS (N : Nat) (a : (List (List Int))) : Option (((List (List Int)) × Unit) × (Unit)) :=
  (chk (ile 0 (tLen a) && ile (tLen a) (tLen a) && fits (tLen a))
    (laws_toIntSS_l0 N (fun o => some ((o, ()), ())) N a 0 (tRep (tLen a) [])))
noncomputable def laws_toIntSS_S (N : Nat) : FSum := ⟨laws_toIntSS_ps, laws_toIntSS_rs, fun x => laws_toIntSS N x.1⟩
theorem laws_toIntSS_run (N : Nat) (x : argsT laws_toIntSS_ps) : laws_toIntSS N x.1 = funF (laws_toIntSS_G N) tab [laws_toIntSS_l0_s N] Try.f65 laws_toIntSS_ps laws_toIntSS_rs x := by kernel_rfl
theorem laws_toIntSS_pc (N : Nat) : PC Try.prog 65 (laws_toIntSS_S N) := by
  have e : laws_toIntSS_S N = ⟨laws_toIntSS_ps, laws_toIntSS_rs, funF (laws_toIntSS_G N) tab [laws_toIntSS_l0_s N] Try.f65 laws_toIntSS_ps laws_toIntSS_rs⟩ := congrArg (FSum.mk laws_toIntSS_ps laws_toIntSS_rs) (funext (laws_toIntSS_run N))
  rw [e]
  exact fun_ok (c := laws_toIntSS_code) progOk (laws_toIntSS_gok N) (draw_ok progOk (laws_toIntSS_gok N)) Try.call65 Try.func65 (by kernel_rfl) (lsOk_at (L := [laws_toIntSS_l0_s N]) ⟨laws_toIntSS_l0_ok N, trivial⟩) (by kernel_rfl) (by kernel_rfl) (by kernel_rfl) (by kernel_rfl) (by kernel_rfl)

/-! ### laws_toFormula -/
abbrev laws_toFormula_ps : List (PV.Mode × Ty) := [(.ro, QILLI)]
abbrev laws_toFormula_rs : List (Bool × Ty) := [(true, QILLI)]
noncomputable def laws_toFormula_G (N : Nat) : GTab := gOf [(65, laws_toIntSS_S N)]
theorem laws_toFormula_gok (N : Nat) : GOk Try.prog (laws_toFormula_G N) := gOf_ok ⟨laws_toIntSS_pc N, trivial⟩
noncomputable def laws_toFormula_code : Code := (Try.f28.body).getD .skip
noncomputable def laws_toFormula (N : Nat) (a : (Int × (List (List Int)))) : Option (((Int × (List (List Int))) × Unit) × (Unit)) :=
  ((laws_toIntSS N a.2).bind fun r =>
    some (((a.1, r.1.1), ()), ()))
noncomputable def laws_toFormula_S (N : Nat) : FSum := ⟨laws_toFormula_ps, laws_toFormula_rs, fun x => laws_toFormula N x.1⟩
theorem laws_toFormula_run (N : Nat) (x : argsT laws_toFormula_ps) : laws_toFormula N x.1 = funF (laws_toFormula_G N) tab [] Try.f28 laws_toFormula_ps laws_toFormula_rs x := by kernel_rfl
theorem laws_toFormula_pc (N : Nat) : PC Try.prog 28 (laws_toFormula_S N) := by
  have e : laws_toFormula_S N = ⟨laws_toFormula_ps, laws_toFormula_rs, funF (laws_toFormula_G N) tab [] Try.f28 laws_toFormula_ps laws_toFormula_rs⟩ := congrArg (FSum.mk laws_toFormula_ps laws_toFormula_rs) (funext (laws_toFormula_run N))
  rw [e]
  exact fun_ok (c := laws_toFormula_code) progOk (laws_toFormula_gok N) (draw_ok progOk (laws_toFormula_gok N)) Try.call28 Try.func28 (by kernel_rfl) (lsOk_at (L := []) trivial) (by kernel_rfl) (by kernel_rfl) (by kernel_rfl) (by kernel_rfl) (by kernel_rfl)

/-! ### spec_l1In -/
abbrev spec_l1In_ps : List (PV.Mode × Ty) := [(.ro, I), (.ro, I), (.ro, I)]
abbrev spec_l1In_rs : List (Bool × Ty) := [(true, .bool)]
noncomputable def spec_l1In_G (N : Nat) : GTab := gOf []
theorem spec_l1In_gok (N : Nat) : GOk Try.prog (spec_l1In_G N) := gOf_ok trivial
noncomputable def spec_l1In_code : Code := (Try.f75.body).getD .skip
noncomputable def spec_l1In (N : Nat) (x : Int) (a : Int) (b : Int) : Option ((Bool × Unit) × (Unit)) :=
  (br (ile a x)
    (some (((ile x b), ()), ()))
    (some ((false, ()), ())))
noncomputable def spec_l1In_S (N : Nat) : FSum := ⟨spec_l1In_ps, spec_l1In_rs, fun x => spec_l1In N x.1 x.2.1 x.2.2.1⟩
theorem spec_l1In_run (N : Nat) (x : argsT spec_l1In_ps) : spec_l1In N x.1 x.2.1 x.2.2.1 = funF (spec_l1In_G N) tab [] Try.f75 spec_l1In_ps spec_l1In_rs x := by kernel_rfl
theorem spec_l1In_pc (N : Nat) : PC Try.prog 75 (spec_l1In_S N) := by
  have e : spec_l1In_S N = ⟨spec_l1In_ps, spec_l1In_rs, funF (spec_l1In_G N) tab [] Try.f75 spec_l1In_ps spec_l1In_rs⟩ := congrArg (FSum.mk spec_l1In_ps spec_l1In_rs) (funext (spec_l1In_run N))
  rw [e]
  exact fun_ok (c := spec_l1In_code) progOk (spec_l1In_gok N) (draw_ok progOk (spec_l1In_gok N)) Try.call75 Try.func75 (by kernel_rfl) (lsOk_at (L := []) trivial) (by kernel_rfl) (by kernel_rfl) (by kernel_rfl) (by kernel_rfl) (by kernel_rfl)

/-! ### spec_l6Literal -/
abbrev spec_l6Literal_ps : List (PV.Mode × Ty) := [(.ro, I), (.ro, I)]
abbrev spec_l6Literal_rs : List (Bool × Ty) := [(true, .bool)]
noncomputable def spec_l6Literal_G (N : Nat) : GTab := gOf [(75, spec_l1In_S N)]
theorem spec_l6Literal_gok (N : Nat) : GOk Try.prog (spec_l6Literal_G N) := gOf_ok ⟨spec_l1In_pc N, trivial⟩
noncomputable def spec_l6Literal_code : Code := (Try.f144.body).getD .skip
noncomputable def spec_l6Literal (N : Nat) (vars : Int) (x : Int) : Option ((Bool × Unit) × (Unit)) :=
  (br (ine x 0)
    (((spec_l1In N x (IntKind.i64.wrap (0 - vars)) vars).bind fun r =>
      some ((r.1.1, ()), ())))
    (some ((false, ()), ())))
noncomputable def spec_l6Literal_S (N : Nat) : FSum := ⟨spec_l6Literal_ps, spec_l6Literal_rs, fun x => spec_l6Literal N x.1 x.2.1⟩
theorem spec_l6Literal_run (N : Nat) (x : argsT spec_l6Literal_ps) : spec_l6Literal N x.1 x.2.1 = funF (spec_l6Literal_G N) tab [] Try.f144 spec_l6Literal_ps spec_l6Literal_rs x := by kernel_rfl
theorem spec_l6Literal_pc (N : Nat) : PC Try.prog 144 (spec_l6Literal_S N) := by
  have e : spec_l6Literal_S N = ⟨spec_l6Literal_ps, spec_l6Literal_rs, funF (spec_l6Literal_G N) tab [] Try.f144 spec_l6Literal_ps spec_l6Literal_rs⟩ := congrArg (FSum.mk spec_l6Literal_ps spec_l6Literal_rs) (funext (spec_l6Literal_run N))
  rw [e]
  exact fun_ok (c := spec_l6Literal_code) progOk (spec_l6Literal_gok N) (draw_ok progOk (spec_l6Literal_gok N)) Try.call144 Try.func144 (by kernel_rfl) (lsOk_at (L := []) trivial) (by kernel_rfl) (by kernel_rfl) (by kernel_rfl) (by kernel_rfl) (by kernel_rfl)

/-! ### spec_l6Good -/
abbrev spec_l6Good_ps : List (PV.Mode × Ty) := [(.ro, QILLI)]
abbrev spec_l6Good_rs : List (Bool × Ty) := [(true, .bool)]
noncomputable def spec_l6Good_G (N : Nat) : GTab := gOf [(75, spec_l1In_S N), (144, spec_l6Literal_S N)]
theorem spec_l6Good_gok (N : Nat) : GOk Try.prog (spec_l6Good_G N) := gOf_ok ⟨spec_l1In_pc N, spec_l6Literal_pc N, trivial⟩
noncomputable def spec_l6Good_code : Code := (Try.f105.body).getD .skip
noncomputable def spec_l6Good_l0_0_sh : Sh := ⟨[(1, .one (.adr 0 0)), (3, .one (.ro I)), (4, .one (.ro I))], [.box [.ro I, .ro LLI]]⟩
noncomputable def spec_l6Good_l0_0_ex : List (Ex × Sh) := [(.ret, ⟨[(2, .one (.ro .bool))], []⟩), (.exit 2, ⟨[(1, .one (.adr 0 0)), (3, .one (.ro I))], [.box [.ro I, .ro LLI]]⟩)]
noncomputable def spec_l6Good_l0_0 {R : Type} (N : Nat) (k0 : Bool → Option R) (k1 : Int → Int → (List (List Int)) → Option R) : Nat → Int → Int → Int → (List (List Int)) → Option R
  | 0, _, _, _, _ => none
  | K + 1, x1, x2, o2, o3 =>
    (chk (inb o3 x1)
      (br (ilt x2 (tLen (rdL o3 x1)))
      ((chk (inb o3 x1)
        (chk (inb (rdL o3 x1) x2)
        ((spec_l6Literal N o2 (rdI (rdL o3 x1) x2)).bind fun r1 =>
        (br (!r1.1.1)
          (k0 false)
          ((br (ilt 0 x2)
            ((chk (inb o3 x1)
              (chk (inb (rdL o3 x1) (IntKind.i64.wrap (x2 - 1)))
              (chk (inb o3 x1)
              (chk (inb (rdL o3 x1) x2)
              (br (ile (rdI (rdL o3 x1) x2) (rdI (rdL o3 x1) (IntKind.i64.wrap (x2 - 1))))
              (k0 false)
              (spec_l6Good_l0_0 N k0 k1 K x1 (IntKind.i64.wrap (x2 + 1)) o2 o3)))))))
            (spec_l6Good_l0_0 N k0 k1 K x1 (IntKind.i64.wrap (x2 + 1)) o2 o3))))))))
      (k1 x1 o2 o3)))
noncomputable def spec_l6Good_l0_0_again {R : Type} (N : Nat) (ks : (j : Nat) → ((spec_l6Good_l0_0_ex.getD j (.ret, Sh.none)).2).T → Option R) (k : Nat) (x : spec_l6Good_l0_0_sh.T) : Option R :=
  spec_l6Good_l0_0 N (fun y0 => ks 0 ((y0, ()), ())) (fun y0 y1 y2 => ks 1 (((), y0, ()), ((y1, y2, ()), ()))) k x.1.2.1 x.1.2.2.1 x.2.1.1 x.2.1.2.1
noncomputable def spec_l6Good_l0_0_s (N : Nat) : LSum := ⟨spec_l6Good_l0_0_sh, spec_l6Good_l0_0_ex, fun x ks => spec_l6Good_l0_0_again N ks N x⟩
theorem spec_l6Good_l0_0_step (N : Nat) (R : Type) (k : Nat) (x : spec_l6Good_l0_0_sh.T) (ks : (j : Nat) → ((spec_l6Good_l0_0_ex.getD j (.ret, Sh.none)).2).T → Option R) : spec_l6Good_l0_0_again N ks (k + 1) x = roundF (spec_l6Good_G N) tab [] (loopAt (loopAt spec_l6Good_code 0) 0) spec_l6Good_l0_0_sh spec_l6Good_l0_0_ex (fun y => spec_l6Good_l0_0_again N ks k y) ks x := by kernel_rfl
theorem spec_l6Good_l0_0_ok (N : Nat) : LoopOk Try.prog Try.f105.ntmps (spec_l6Good_l0_0_s N) (loopAt (loopAt spec_l6Good_code 0) 0) :=
  loop_ok (l := spec_l6Good_l0_0_s N) progOk (spec_l6Good_gok N) (draw_ok progOk (spec_l6Good_gok N)) (fun R k x ks => spec_l6Good_l0_0_again N ks k x) (fun _ _ _ => rfl) (fun R k x ks => spec_l6Good_l0_0_step N R k x ks) (fun R x ks r h => ⟨N, h⟩) (lsOk_at (L := []) trivial) (by kernel_rfl) (by kernel_rfl)
noncomputable def spec_l6Good_l0_sh : Sh := ⟨[(1, .one (.adr 0 0)), (3, .one (.ro I))], [.box [.ro I, .ro LLI]]⟩
noncomputable def spec_l6Good_l0_ex : List (Ex × Sh) := [(.ret, ⟨[(2, .one (.ro .bool))], []⟩), (.exit 0, ⟨[], []⟩)]
noncomputable def spec_l6Good_l0 {R : Type} (N : Nat) (k0 : Bool → Option R) (k1 : Unit → Option R) : Nat → Int → Int → (List (List Int)) → Option R
  | 0, _, _, _ => none
  | K + 1, x, o, o1 =>
    (br (ilt x (tLen o1))
      (spec_l6Good_l0_0 N (fun x1 => k0 x1) (fun x2 o2 o3 => spec_l6Good_l0 N k0 k1 K (IntKind.i64.wrap (x2 + 1)) o2 o3) N x 0 o o1)
      (k1 ()))
noncomputable def spec_l6Good_l0_again {R : Type} (N : Nat) (ks : (j : Nat) → ((spec_l6Good_l0_ex.getD j (.ret, Sh.none)).2).T → Option R) (k : Nat) (x : spec_l6Good_l0_sh.T) : Option R :=
  spec_l6Good_l0 N (fun y0 => ks 0 ((y0, ()), ())) (fun (_ : Unit) => ks 1 ((), ())) k x.1.2.1 x.2.1.1 x.2.1.2.1
noncomputable def spec_l6Good_l0_s (N : Nat) : LSum := ⟨spec_l6Good_l0_sh, spec_l6Good_l0_ex, fun x ks => spec_l6Good_l0_again N ks N x⟩
theorem spec_l6Good_l0_step (N : Nat) (R : Type) (k : Nat) (x : spec_l6Good_l0_sh.T) (ks : (j : Nat) → ((spec_l6Good_l0_ex.getD j (.ret, Sh.none)).2).T → Option R) : spec_l6Good_l0_again N ks (k + 1) x = roundF (spec_l6Good_G N) tab [spec_l6Good_l0_0_s N] (loopAt spec_l6Good_code 0) spec_l6Good_l0_sh spec_l6Good_l0_ex (fun y => spec_l6Good_l0_again N ks k y) ks x := by kernel_rfl
theorem spec_l6Good_l0_ok (N : Nat) : LoopOk Try.prog Try.f105.ntmps (spec_l6Good_l0_s N) (loopAt spec_l6Good_code 0) :=
  loop_ok (l := spec_l6Good_l0_s N) progOk (spec_l6Good_gok N) (draw_ok progOk (spec_l6Good_gok N)) (fun R k x ks => spec_l6Good_l0_again N ks k x) (fun _ _ _ => rfl) (fun R k x ks => spec_l6Good_l0_step N R k x ks) (fun R x ks r h => ⟨N, h⟩) (lsOk_at (L := [spec_l6Good_l0_0_s N]) ⟨spec_l6Good_l0_0_ok N, trivial⟩) (by kernel_rfl) (by kernel_rfl)
noncomputable def spec_l6Good (N : Nat) (c : (Int × (List (List Int)))) : Option ((Bool × Unit) × (Unit)) :=
  ((spec_l1In N c.1 0 6).bind fun r =>
    (br (!r.1.1)
      (some ((false, ()), ()))
      ((br (ilt 64 (tLen c.2))
        (some ((false, ()), ()))
        (spec_l6Good_l0 N (fun x => some ((x, ()), ())) (fun (_ : Unit) => some ((true, ()), ())) N 0 c.1 c.2)))))
noncomputable def spec_l6Good_S (N : Nat) : FSum := ⟨spec_l6Good_ps, spec_l6Good_rs, fun x => spec_l6Good N x.1⟩
theorem spec_l6Good_run (N : Nat) (x : argsT spec_l6Good_ps) : spec_l6Good N x.1 = funF (spec_l6Good_G N) tab [spec_l6Good_l0_s N] Try.f105 spec_l6Good_ps spec_l6Good_rs x := by kernel_rfl
theorem spec_l6Good_pc (N : Nat) : PC Try.prog 105 (spec_l6Good_S N) := by
  have e : spec_l6Good_S N = ⟨spec_l6Good_ps, spec_l6Good_rs, funF (spec_l6Good_G N) tab [spec_l6Good_l0_s N] Try.f105 spec_l6Good_ps spec_l6Good_rs⟩ := congrArg (FSum.mk spec_l6Good_ps spec_l6Good_rs) (funext (spec_l6Good_run N))
  rw [e]
  exact fun_ok (c := spec_l6Good_code) progOk (spec_l6Good_gok N) (draw_ok progOk (spec_l6Good_gok N)) Try.call105 Try.func105 (by kernel_rfl) (lsOk_at (L := [spec_l6Good_l0_s N]) ⟨spec_l6Good_l0_ok N, trivial⟩) (by kernel_rfl) (by kernel_rfl) (by kernel_rfl) (by kernel_rfl) (by kernel_rfl)

/-! ### spec_l6Bits -/
abbrev spec_l6Bits_ps : List (PV.Mode × Ty) := [(.ro, I), (.ro, LI)]
abbrev spec_l6Bits_rs : List (Bool × Ty) := [(true, .bool)]
noncomputable def spec_l6Bits_G (N : Nat) : GTab := gOf [(75, spec_l1In_S N)]
theorem spec_l6Bits_gok (N : Nat) : GOk Try.prog (spec_l6Bits_G N) := gOf_ok ⟨spec_l1In_pc N, trivial⟩
noncomputable def spec_l6Bits_code : Code := (Try.f106.body).getD .skip
noncomputable def spec_l6Bits_l0_sh : Sh := ⟨[(0, .one (.ro I)), (1, .one (.ro LI)), (5, .one (.ro I))], []⟩
noncomputable def spec_l6Bits_l0_ex : List (Ex × Sh) := [(.ret, ⟨[(4, .one (.ro .bool))], []⟩), (.exit 0, ⟨[(0, .one (.ro I)), (1, .one (.ro LI))], []⟩)]
noncomputable def spec_l6Bits_l0 {R : Type} (N : Nat) (k0 : Bool → Option R) (k1 : Int → (List Int) → Option R) : Nat → Int → (List Int) → Int → Option R
  | 0, _, _, _ => none
  | K + 1, vars1, bits1, i =>
    (br (ilt i (tLen bits1))
      ((chk (inb bits1 i)
        ((spec_l1In N (rdI bits1 i) 0 1).bind fun r =>
        (br (!r.1.1)
          (k0 false)
          (spec_l6Bits_l0 N k0 k1 K vars1 bits1 (IntKind.i64.wrap (i + 1)))))))
      (k1 vars1 bits1))
noncomputable def spec_l6Bits_l0_again {R : Type} (N : Nat) (ks : (j : Nat) → ((spec_l6Bits_l0_ex.getD j (.ret, Sh.none)).2).T → Option R) (k : Nat) (x : spec_l6Bits_l0_sh.T) : Option R :=
  spec_l6Bits_l0 N (fun y0 => ks 0 ((y0, ()), ())) (fun y0 y1 => ks 1 ((y0, y1, ()), ())) k x.1.1 x.1.2.1 x.1.2.2.1
noncomputable def spec_l6Bits_l0_s (N : Nat) : LSum := ⟨spec_l6Bits_l0_sh, spec_l6Bits_l0_ex, fun x ks => spec_l6Bits_l0_again N ks N x⟩
theorem spec_l6Bits_l0_step (N : Nat) (R : Type) (k : Nat) (x : spec_l6Bits_l0_sh.T) (ks : (j : Nat) → ((spec_l6Bits_l0_ex.getD j (.ret, Sh.none)).2).T → Option R) : spec_l6Bits_l0_again N ks (k + 1) x = roundF (spec_l6Bits_G N) tab [] (loopAt spec_l6Bits_code 0) spec_l6Bits_l0_sh spec_l6Bits_l0_ex (fun y => spec_l6Bits_l0_again N ks k y) ks x := by kernel_rfl
theorem spec_l6Bits_l0_ok (N : Nat) : LoopOk Try.prog Try.f106.ntmps (spec_l6Bits_l0_s N) (loopAt spec_l6Bits_code 0) :=
  loop_ok (l := spec_l6Bits_l0_s N) progOk (spec_l6Bits_gok N) (draw_ok progOk (spec_l6Bits_gok N)) (fun R k x ks => spec_l6Bits_l0_again N ks k x) (fun _ _ _ => rfl) (fun R k x ks => spec_l6Bits_l0_step N R k x ks) (fun R x ks r h => ⟨N, h⟩) (lsOk_at (L := []) trivial) (by kernel_rfl) (by kernel_rfl)
noncomputable def spec_l6Bits (N : Nat) (vars : Int) (bits : (List Int)) : Option ((Bool × Unit) × (Unit)) :=
  spec_l6Bits_l0 N (fun x => some ((x, ()), ())) (fun vars1 bits1 => some (((ieq (tLen bits1) vars1), ()), ())) N vars bits 0
noncomputable def spec_l6Bits_S (N : Nat) : FSum := ⟨spec_l6Bits_ps, spec_l6Bits_rs, fun x => spec_l6Bits N x.1 x.2.1⟩
theorem spec_l6Bits_run (N : Nat) (x : argsT spec_l6Bits_ps) : spec_l6Bits N x.1 x.2.1 = funF (spec_l6Bits_G N) tab [spec_l6Bits_l0_s N] Try.f106 spec_l6Bits_ps spec_l6Bits_rs x := by kernel_rfl
theorem spec_l6Bits_pc (N : Nat) : PC Try.prog 106 (spec_l6Bits_S N) := by
  have e : spec_l6Bits_S N = ⟨spec_l6Bits_ps, spec_l6Bits_rs, funF (spec_l6Bits_G N) tab [spec_l6Bits_l0_s N] Try.f106 spec_l6Bits_ps spec_l6Bits_rs⟩ := congrArg (FSum.mk spec_l6Bits_ps spec_l6Bits_rs) (funext (spec_l6Bits_run N))
  rw [e]
  exact fun_ok (c := spec_l6Bits_code) progOk (spec_l6Bits_gok N) (draw_ok progOk (spec_l6Bits_gok N)) Try.call106 Try.func106 (by kernel_rfl) (lsOk_at (L := [spec_l6Bits_l0_s N]) ⟨spec_l6Bits_l0_ok N, trivial⟩) (by kernel_rfl) (by kernel_rfl) (by kernel_rfl) (by kernel_rfl) (by kernel_rfl)

/-! ### spec_l6Meets -/
abbrev spec_l6Meets_ps : List (PV.Mode × Ty) := [(.ro, LI), (.ro, I)]
abbrev spec_l6Meets_rs : List (Bool × Ty) := [(true, .bool)]
noncomputable def spec_l6Meets_G (N : Nat) : GTab := gOf []
theorem spec_l6Meets_gok (N : Nat) : GOk Try.prog (spec_l6Meets_G N) := gOf_ok trivial
noncomputable def spec_l6Meets_code : Code := (Try.f145.body).getD .skip
noncomputable def spec_l6Meets (N : Nat) (bits : (List Int)) (x : Int) : Option ((Bool × Unit) × (Unit)) :=
  (br (ilt 0 x)
    ((chk (inb bits (IntKind.i64.wrap (x - 1)))
      (some (((ieq (rdI bits (IntKind.i64.wrap (x - 1))) 1), ()), ()))))
    ((chk (inb bits (IntKind.i64.wrap ((IntKind.i64.wrap (0 - x)) - 1)))
      (some (((ieq (rdI bits (IntKind.i64.wrap ((IntKind.i64.wrap (0 - x)) - 1))) 0), ()), ())))))
noncomputable def spec_l6Meets_S (N : Nat) : FSum := ⟨spec_l6Meets_ps, spec_l6Meets_rs, fun x => spec_l6Meets N x.1 x.2.1⟩
theorem spec_l6Meets_run (N : Nat) (x : argsT spec_l6Meets_ps) : spec_l6Meets N x.1 x.2.1 = funF (spec_l6Meets_G N) tab [] Try.f145 spec_l6Meets_ps spec_l6Meets_rs x := by kernel_rfl
theorem spec_l6Meets_pc (N : Nat) : PC Try.prog 145 (spec_l6Meets_S N) := by
  have e : spec_l6Meets_S N = ⟨spec_l6Meets_ps, spec_l6Meets_rs, funF (spec_l6Meets_G N) tab [] Try.f145 spec_l6Meets_ps spec_l6Meets_rs⟩ := congrArg (FSum.mk spec_l6Meets_ps spec_l6Meets_rs) (funext (spec_l6Meets_run N))
  rw [e]
  exact fun_ok (c := spec_l6Meets_code) progOk (spec_l6Meets_gok N) (draw_ok progOk (spec_l6Meets_gok N)) Try.call145 Try.func145 (by kernel_rfl) (lsOk_at (L := []) trivial) (by kernel_rfl) (by kernel_rfl) (by kernel_rfl) (by kernel_rfl) (by kernel_rfl)

/-! ### spec_l6Solves -/
abbrev spec_l6Solves_ps : List (PV.Mode × Ty) := [(.ro, QILLI), (.ro, LI)]
abbrev spec_l6Solves_rs : List (Bool × Ty) := [(true, .bool)]
noncomputable def spec_l6Solves_G (N : Nat) : GTab := gOf [(145, spec_l6Meets_S N)]
theorem spec_l6Solves_gok (N : Nat) : GOk Try.prog (spec_l6Solves_G N) := gOf_ok ⟨spec_l6Meets_pc N, trivial⟩
noncomputable def spec_l6Solves_code : Code := (Try.f107.body).getD .skip
noncomputable def spec_l6Solves_l0_0_sh : Sh := ⟨[(1, .one (.ro LI)), (2, .one (.adr 0 0)), (5, .one (.ro I)), (6, .one (.ro .bool)), (7, .one (.ro I))], [.box [.ro I, .ro LLI]]⟩
noncomputable def spec_l6Solves_l0_0_ex : List (Ex × Sh) := [(.exit 2, ⟨[(1, .one (.ro LI)), (2, .one (.adr 0 0)), (5, .one (.ro I)), (6, .one (.ro .bool))], [.box [.ro I, .ro LLI]]⟩)]
noncomputable def spec_l6Solves_l0_0 {R : Type} (N : Nat) (k0 : (List Int) → Int → Bool → Int → (List (List Int)) → Option R) : Nat → (List Int) → Int → Bool → Int → Int → (List (List Int)) → Option R
  | 0, _, _, _, _, _, _ => none
  | K + 1, bits2, i1, met, kv, o2, o3 =>
    (chk (inb o3 i1)
      (br (ilt kv (tLen (rdL o3 i1)))
      ((br met
        (spec_l6Solves_l0_0 N k0 K bits2 i1 true (IntKind.i64.wrap (kv + 1)) o2 o3)
        ((chk (inb o3 i1)
          (chk (inb (rdL o3 i1) kv)
          ((spec_l6Meets N bits2 (rdI (rdL o3 i1) kv)).bind fun r =>
          spec_l6Solves_l0_0 N k0 K bits2 i1 r.1.1 (IntKind.i64.wrap (kv + 1)) o2 o3))))))
      (k0 bits2 i1 met o2 o3)))
noncomputable def spec_l6Solves_l0_0_again {R : Type} (N : Nat) (ks : (j : Nat) → ((spec_l6Solves_l0_0_ex.getD j (.ret, Sh.none)).2).T → Option R) (k : Nat) (x : spec_l6Solves_l0_0_sh.T) : Option R :=
  spec_l6Solves_l0_0 N (fun y0 y1 y2 y3 y4 => ks 0 ((y0, (), y1, y2, ()), ((y3, y4, ()), ()))) k x.1.1 x.1.2.2.1 x.1.2.2.2.1 x.1.2.2.2.2.1 x.2.1.1 x.2.1.2.1
noncomputable def spec_l6Solves_l0_0_s (N : Nat) : LSum := ⟨spec_l6Solves_l0_0_sh, spec_l6Solves_l0_0_ex, fun x ks => spec_l6Solves_l0_0_again N ks N x⟩
theorem spec_l6Solves_l0_0_step (N : Nat) (R : Type) (k : Nat) (x : spec_l6Solves_l0_0_sh.T) (ks : (j : Nat) → ((spec_l6Solves_l0_0_ex.getD j (.ret, Sh.none)).2).T → Option R) : spec_l6Solves_l0_0_again N ks (k + 1) x = roundF (spec_l6Solves_G N) tab [] (loopAt (loopAt spec_l6Solves_code 0) 0) spec_l6Solves_l0_0_sh spec_l6Solves_l0_0_ex (fun y => spec_l6Solves_l0_0_again N ks k y) ks x := by kernel_rfl
theorem spec_l6Solves_l0_0_ok (N : Nat) : LoopOk Try.prog Try.f107.ntmps (spec_l6Solves_l0_0_s N) (loopAt (loopAt spec_l6Solves_code 0) 0) :=
  loop_ok (l := spec_l6Solves_l0_0_s N) progOk (spec_l6Solves_gok N) (draw_ok progOk (spec_l6Solves_gok N)) (fun R k x ks => spec_l6Solves_l0_0_again N ks k x) (fun _ _ _ => rfl) (fun R k x ks => spec_l6Solves_l0_0_step N R k x ks) (fun R x ks r h => ⟨N, h⟩) (lsOk_at (L := []) trivial) (by kernel_rfl) (by kernel_rfl)
noncomputable def spec_l6Solves_l0_sh : Sh := ⟨[(1, .one (.ro LI)), (2, .one (.adr 0 0)), (5, .one (.ro I))], [.box [.ro I, .ro LLI]]⟩
noncomputable def spec_l6Solves_l0_ex : List (Ex × Sh) := [(.ret, ⟨[(4, .one (.ro .bool))], []⟩), (.exit 0, ⟨[], []⟩)]
noncomputable def spec_l6Solves_l0 {R : Type} (N : Nat) (k0 : Bool → Option R) (k1 : Unit → Option R) : Nat → (List Int) → Int → Int → (List (List Int)) → Option R
  | 0, _, _, _, _ => none
  | K + 1, bits1, i, o, o1 =>
    (br (ilt i (tLen o1))
      (spec_l6Solves_l0_0 N (fun bits2 i1 met o2 o3 => (br (!met)
        (k0 false)
        (spec_l6Solves_l0 N k0 k1 K bits2 (IntKind.i64.wrap (i1 + 1)) o2 o3))) N bits1 i false 0 o o1)
      (k1 ()))
noncomputable def spec_l6Solves_l0_again {R : Type} (N : Nat) (ks : (j : Nat) → ((spec_l6Solves_l0_ex.getD j (.ret, Sh.none)).2).T → Option R) (k : Nat) (x : spec_l6Solves_l0_sh.T) : Option R :=
  spec_l6Solves_l0 N (fun y0 => ks 0 ((y0, ()), ())) (fun (_ : Unit) => ks 1 ((), ())) k x.1.1 x.1.2.2.1 x.2.1.1 x.2.1.2.1
noncomputable def spec_l6Solves_l0_s (N : Nat) : LSum := ⟨spec_l6Solves_l0_sh, spec_l6Solves_l0_ex, fun x ks => spec_l6Solves_l0_again N ks N x⟩
theorem spec_l6Solves_l0_step (N : Nat) (R : Type) (k : Nat) (x : spec_l6Solves_l0_sh.T) (ks : (j : Nat) → ((spec_l6Solves_l0_ex.getD j (.ret, Sh.none)).2).T → Option R) : spec_l6Solves_l0_again N ks (k + 1) x = roundF (spec_l6Solves_G N) tab [spec_l6Solves_l0_0_s N] (loopAt spec_l6Solves_code 0) spec_l6Solves_l0_sh spec_l6Solves_l0_ex (fun y => spec_l6Solves_l0_again N ks k y) ks x := by kernel_rfl
theorem spec_l6Solves_l0_ok (N : Nat) : LoopOk Try.prog Try.f107.ntmps (spec_l6Solves_l0_s N) (loopAt spec_l6Solves_code 0) :=
  loop_ok (l := spec_l6Solves_l0_s N) progOk (spec_l6Solves_gok N) (draw_ok progOk (spec_l6Solves_gok N)) (fun R k x ks => spec_l6Solves_l0_again N ks k x) (fun _ _ _ => rfl) (fun R k x ks => spec_l6Solves_l0_step N R k x ks) (fun R x ks r h => ⟨N, h⟩) (lsOk_at (L := [spec_l6Solves_l0_0_s N]) ⟨spec_l6Solves_l0_0_ok N, trivial⟩) (by kernel_rfl) (by kernel_rfl)
noncomputable def spec_l6Solves (N : Nat) (f : (Int × (List (List Int)))) (bits : (List Int)) : Option ((Bool × Unit) × (Unit)) :=
  spec_l6Solves_l0 N (fun x => some ((x, ()), ())) (fun (_ : Unit) => some ((true, ()), ())) N bits 0 f.1 f.2
noncomputable def spec_l6Solves_S (N : Nat) : FSum := ⟨spec_l6Solves_ps, spec_l6Solves_rs, fun x => spec_l6Solves N x.1 x.2.1⟩
theorem spec_l6Solves_run (N : Nat) (x : argsT spec_l6Solves_ps) : spec_l6Solves N x.1 x.2.1 = funF (spec_l6Solves_G N) tab [spec_l6Solves_l0_s N] Try.f107 spec_l6Solves_ps spec_l6Solves_rs x := by kernel_rfl
theorem spec_l6Solves_pc (N : Nat) : PC Try.prog 107 (spec_l6Solves_S N) := by
  have e : spec_l6Solves_S N = ⟨spec_l6Solves_ps, spec_l6Solves_rs, funF (spec_l6Solves_G N) tab [spec_l6Solves_l0_s N] Try.f107 spec_l6Solves_ps spec_l6Solves_rs⟩ := congrArg (FSum.mk spec_l6Solves_ps spec_l6Solves_rs) (funext (spec_l6Solves_run N))
  rw [e]
  exact fun_ok (c := spec_l6Solves_code) progOk (spec_l6Solves_gok N) (draw_ok progOk (spec_l6Solves_gok N)) Try.call107 Try.func107 (by kernel_rfl) (lsOk_at (L := [spec_l6Solves_l0_s N]) ⟨spec_l6Solves_l0_ok N, trivial⟩) (by kernel_rfl) (by kernel_rfl) (by kernel_rfl) (by kernel_rfl) (by kernel_rfl)

/-! ### spec_l6Two -/
abbrev spec_l6Two_ps : List (PV.Mode × Ty) := [(.ro, QILLI), (.ro, LI), (.ro, LI)]
abbrev spec_l6Two_rs : List (Bool × Ty) := [(true, .bool)]
noncomputable def spec_l6Two_G (N : Nat) : GTab := gOf [(105, spec_l6Good_S N), (106, spec_l6Bits_S N), (107, spec_l6Solves_S N)]
theorem spec_l6Two_gok (N : Nat) : GOk Try.prog (spec_l6Two_G N) := gOf_ok ⟨spec_l6Good_pc N, spec_l6Bits_pc N, spec_l6Solves_pc N, trivial⟩
noncomputable def spec_l6Two_code : Code := (Try.f63.body).getD .skip
noncomputable def spec_l6Two (N : Nat) (f : (Int × (List (List Int)))) (a : (List Int)) (b : (List Int)) : Option ((Bool × Unit) × (Unit)) :=
  ((spec_l6Good N (f.1, f.2)).bind fun r =>
    (br r.1.1
      (((spec_l6Bits N f.1 a).bind fun r1 =>
        (br r1.1.1
          (((spec_l6Bits N f.1 b).bind fun r2 =>
            (br r2.1.1
              (((spec_l6Solves N (f.1, f.2) a).bind fun r3 =>
                (br r3.1.1
                  (((spec_l6Solves N (f.1, f.2) b).bind fun r4 =>
                    some ((r4.1.1, ()), ())))
                  (some ((false, ()), ())))))
              (some ((false, ()), ())))))
          (some ((false, ()), ())))))
      (some ((false, ()), ()))))
noncomputable def spec_l6Two_S (N : Nat) : FSum := ⟨spec_l6Two_ps, spec_l6Two_rs, fun x => spec_l6Two N x.1 x.2.1 x.2.2.1⟩
theorem spec_l6Two_run (N : Nat) (x : argsT spec_l6Two_ps) : spec_l6Two N x.1 x.2.1 x.2.2.1 = funF (spec_l6Two_G N) tab [] Try.f63 spec_l6Two_ps spec_l6Two_rs x := by kernel_rfl
theorem spec_l6Two_pc (N : Nat) : PC Try.prog 63 (spec_l6Two_S N) := by
  have e : spec_l6Two_S N = ⟨spec_l6Two_ps, spec_l6Two_rs, funF (spec_l6Two_G N) tab [] Try.f63 spec_l6Two_ps spec_l6Two_rs⟩ := congrArg (FSum.mk spec_l6Two_ps spec_l6Two_rs) (funext (spec_l6Two_run N))
  rw [e]
  exact fun_ok (c := spec_l6Two_code) progOk (spec_l6Two_gok N) (draw_ok progOk (spec_l6Two_gok N)) Try.call63 Try.func63 (by kernel_rfl) (lsOk_at (L := []) trivial) (by kernel_rfl) (by kernel_rfl) (by kernel_rfl) (by kernel_rfl) (by kernel_rfl)

/-! ### spec_l6All -/
abbrev spec_l6All_ps : List (PV.Mode × Ty) := [(.ro, I)]
abbrev spec_l6All_rs : List (Bool × Ty) := [(false, LLI)]
noncomputable def spec_l6All_G (N : Nat) : GTab := gOf []
theorem spec_l6All_gok (N : Nat) : GOk Try.prog (spec_l6All_G N) := gOf_ok trivial
noncomputable def spec_l6All_code : Code := (Try.f147.body).getD .skip
noncomputable def spec_l6All_l0_0_sh : Sh := ⟨[(0, .one (.ro I)), (3, .one (.ref 0)), (4, .one (.ro I)), (5, .one (.ref 1)), (6, .one (.ro I))], [.sl 43 LI .deep, .sl 3 I .own]⟩
noncomputable def spec_l6All_l0_0_ex : List (Ex × Sh) := [(.exit 2, ⟨[(0, .one (.ro I)), (3, .one (.ref 0)), (4, .one (.ro I)), (5, .one (.ref 1))], [.sl 43 LI .deep, .sl 3 I .own]⟩)]
noncomputable def spec_l6All_l0_0 {R : Type} (N : Nat) (k0 : Int → Int → (List (List Int)) → (List Int) → Option R) : Nat → Int → Int → Int → (List (List Int)) → (List Int) → Option R
  | 0, _, _, _, _, _ => none
  | K + 1, vars2, code1, v, o1, o2 =>
    (br (ilt v vars2)
      ((chk (ile 0 (IntKind.i64.wrap ((IntKind.i64.wrap (vars2 - 1)) - v)))
        (chk (room o2 [(bitop .and .i64 (shrI .i64 code1 (IntKind.i64.wrap ((IntKind.i64.wrap (vars2 - 1)) - v))) 1)])
        (spec_l6All_l0_0 N k0 K vars2 code1 (IntKind.i64.wrap (v + 1)) o1 (tApp o2 [(bitop .and .i64 (shrI .i64 code1 (IntKind.i64.wrap ((IntKind.i64.wrap (vars2 - 1)) - v))) 1)])))))
      (k0 vars2 code1 o1 o2))
noncomputable def spec_l6All_l0_0_again {R : Type} (N : Nat) (ks : (j : Nat) → ((spec_l6All_l0_0_ex.getD j (.ret, Sh.none)).2).T → Option R) (k : Nat) (x : spec_l6All_l0_0_sh.T) : Option R :=
  spec_l6All_l0_0 N (fun y0 y1 y2 y3 => ks 0 ((y0, (), y1, (), ()), (y2, y3, ()))) k x.1.1 x.1.2.2.1 x.1.2.2.2.2.1 x.2.1 x.2.2.1
noncomputable def spec_l6All_l0_0_s (N : Nat) : LSum := ⟨spec_l6All_l0_0_sh, spec_l6All_l0_0_ex, fun x ks => spec_l6All_l0_0_again N ks N x⟩
theorem spec_l6All_l0_0_step (N : Nat) (R : Type) (k : Nat) (x : spec_l6All_l0_0_sh.T) (ks : (j : Nat) → ((spec_l6All_l0_0_ex.getD j (.ret, Sh.none)).2).T → Option R) : spec_l6All_l0_0_again N ks (k + 1) x = roundF (spec_l6All_G N) tab [] (loopAt (loopAt spec_l6All_code 0) 0) spec_l6All_l0_0_sh spec_l6All_l0_0_ex (fun y => spec_l6All_l0_0_again N ks k y) ks x := by kernel_rfl
theorem spec_l6All_l0_0_ok (N : Nat) : LoopOk Try.prog Try.f147.ntmps (spec_l6All_l0_0_s N) (loopAt (loopAt spec_l6All_code 0) 0) :=
  loop_ok (l := spec_l6All_l0_0_s N) progOk (spec_l6All_gok N) (draw_ok progOk (spec_l6All_gok N)) (fun R k x ks => spec_l6All_l0_0_again N ks k x) (fun _ _ _ => rfl) (fun R k x ks => spec_l6All_l0_0_step N R k x ks) (fun R x ks r h => ⟨N, h⟩) (lsOk_at (L := []) trivial) (by kernel_rfl) (by kernel_rfl)
noncomputable def spec_l6All_l0_sh : Sh := ⟨[(0, .one (.ro I)), (3, .one (.ref 0)), (4, .one (.ro I))], [.sl 43 LI .deep]⟩
noncomputable def spec_l6All_l0_ex : List (Ex × Sh) := [(.exit 0, ⟨[(3, .one (.ref 0))], [.sl 43 LI .deep]⟩)]
noncomputable def spec_l6All_l0 {R : Type} (N : Nat) (k0 : (List (List Int)) → Option R) : Nat → Int → Int → (List (List Int)) → Option R
  | 0, _, _, _ => none
  | K + 1, vars1, code, o =>
    (chk (ile 0 vars1)
      (br (ilt code (shlI .i64 1 vars1))
      (spec_l6All_l0_0 N (fun vars2 code1 o1 o2 => (chk (room o1 [o2])
        (spec_l6All_l0 N k0 K vars2 (IntKind.i64.wrap (code1 + 1)) (tApp o1 [o2])))) N vars1 code 0 o [])
      (k0 o)))
noncomputable def spec_l6All_l0_again {R : Type} (N : Nat) (ks : (j : Nat) → ((spec_l6All_l0_ex.getD j (.ret, Sh.none)).2).T → Option R) (k : Nat) (x : spec_l6All_l0_sh.T) : Option R :=
  spec_l6All_l0 N (fun y0 => ks 0 (((), ()), (y0, ()))) k x.1.1 x.1.2.2.1 x.2.1
noncomputable def spec_l6All_l0_s (N : Nat) : LSum := ⟨spec_l6All_l0_sh, spec_l6All_l0_ex, fun x ks => spec_l6All_l0_again N ks N x⟩
theorem spec_l6All_l0_step (N : Nat) (R : Type) (k : Nat) (x : spec_l6All_l0_sh.T) (ks : (j : Nat) → ((spec_l6All_l0_ex.getD j (.ret, Sh.none)).2).T → Option R) : spec_l6All_l0_again N ks (k + 1) x = roundF (spec_l6All_G N) tab [spec_l6All_l0_0_s N] (loopAt spec_l6All_code 0) spec_l6All_l0_sh spec_l6All_l0_ex (fun y => spec_l6All_l0_again N ks k y) ks x := by kernel_rfl
theorem spec_l6All_l0_ok (N : Nat) : LoopOk Try.prog Try.f147.ntmps (spec_l6All_l0_s N) (loopAt spec_l6All_code 0) :=
  loop_ok (l := spec_l6All_l0_s N) progOk (spec_l6All_gok N) (draw_ok progOk (spec_l6All_gok N)) (fun R k x ks => spec_l6All_l0_again N ks k x) (fun _ _ _ => rfl) (fun R k x ks => spec_l6All_l0_step N R k x ks) (fun R x ks r h => ⟨N, h⟩) (lsOk_at (L := [spec_l6All_l0_0_s N]) ⟨spec_l6All_l0_0_ok N, trivial⟩) (by kernel_rfl) (by kernel_rfl)
noncomputable def spec_l6All (N : Nat) (vars : Int) : Option (((List (List Int)) × Unit) × (Unit)) :=
  spec_l6All_l0 N (fun o => some ((o, ()), ())) N vars 0 []
noncomputable def spec_l6All_S (N : Nat) : FSum := ⟨spec_l6All_ps, spec_l6All_rs, fun x => spec_l6All N x.1⟩
theorem spec_l6All_run (N : Nat) (x : argsT spec_l6All_ps) : spec_l6All N x.1 = funF (spec_l6All_G N) tab [spec_l6All_l0_s N] Try.f147 spec_l6All_ps spec_l6All_rs x := by kernel_rfl
theorem spec_l6All_pc (N : Nat) : PC Try.prog 147 (spec_l6All_S N) := by
  have e : spec_l6All_S N = ⟨spec_l6All_ps, spec_l6All_rs, funF (spec_l6All_G N) tab [spec_l6All_l0_s N] Try.f147 spec_l6All_ps spec_l6All_rs⟩ := congrArg (FSum.mk spec_l6All_ps spec_l6All_rs) (funext (spec_l6All_run N))
  rw [e]
  exact fun_ok (c := spec_l6All_code) progOk (spec_l6All_gok N) (draw_ok progOk (spec_l6All_gok N)) Try.call147 Try.func147 (by kernel_rfl) (lsOk_at (L := [spec_l6All_l0_s N]) ⟨spec_l6All_l0_ok N, trivial⟩) (by kernel_rfl) (by kernel_rfl) (by kernel_rfl) (by kernel_rfl) (by kernel_rfl)

/-! ### spec_l6Solutions -/
abbrev spec_l6Solutions_ps : List (PV.Mode × Ty) := [(.ro, QILLI)]
abbrev spec_l6Solutions_rs : List (Bool × Ty) := [(false, LLI)]
noncomputable def spec_l6Solutions_G (N : Nat) : GTab := gOf [(147, spec_l6All_S N), (107, spec_l6Solves_S N)]
theorem spec_l6Solutions_gok (N : Nat) : GOk Try.prog (spec_l6Solutions_G N) := gOf_ok ⟨spec_l6All_pc N, spec_l6Solves_pc N, trivial⟩
noncomputable def spec_l6Solutions_code : Code := (Try.f109.body).getD .skip
noncomputable def spec_l6Solutions_l0_sh : Sh := ⟨[(1, .one (.adr 0 0)), (3, .one (.ref 1)), (4, .one (.ro LLI)), (5, .one (.ro I))], [.box [.ro I, .ro LLI], .sl 43 LI .own]⟩
noncomputable def spec_l6Solutions_l0_ex : List (Ex × Sh) := [(.exit 0, ⟨[(3, .one (.ref 0))], [.sl 43 LI .own]⟩)]
noncomputable def spec_l6Solutions_l0 {R : Type} (N : Nat) (k0 : (List (List Int)) → Option R) : Nat → (List (List Int)) → Int → Int → (List (List Int)) → (List (List Int)) → Option R
  | 0, _, _, _, _, _ => none
  | K + 1, all1, i1, o3, o4, o5 =>
    (br (ilt i1 (tLen all1))
      ((chk (inb all1 i1)
        ((spec_l6Solves N (o3, o4) (rdL all1 i1)).bind fun r2 =>
        (br r2.1.1
          ((chk (inb all1 i1)
            (chk (room o5 [(rdL all1 i1)])
            (spec_l6Solutions_l0 N k0 K all1 (IntKind.i64.wrap (i1 + 1)) o3 o4 (tApp o5 [(rdL all1 i1)])))))
          (spec_l6Solutions_l0 N k0 K all1 (IntKind.i64.wrap (i1 + 1)) o3 o4 o5)))))
      (k0 o5))
noncomputable def spec_l6Solutions_l0_again {R : Type} (N : Nat) (ks : (j : Nat) → ((spec_l6Solutions_l0_ex.getD j (.ret, Sh.none)).2).T → Option R) (k : Nat) (x : spec_l6Solutions_l0_sh.T) : Option R :=
  spec_l6Solutions_l0 N (fun y0 => ks 0 (((), ()), (y0, ()))) k x.1.2.2.1 x.1.2.2.2.1 x.2.1.1 x.2.1.2.1 x.2.2.1
noncomputable def spec_l6Solutions_l0_s (N : Nat) : LSum := ⟨spec_l6Solutions_l0_sh, spec_l6Solutions_l0_ex, fun x ks => spec_l6Solutions_l0_again N ks N x⟩
theorem spec_l6Solutions_l0_step (N : Nat) (R : Type) (k : Nat) (x : spec_l6Solutions_l0_sh.T) (ks : (j : Nat) → ((spec_l6Solutions_l0_ex.getD j (.ret, Sh.none)).2).T → Option R) : spec_l6Solutions_l0_again N ks (k + 1) x = roundF (spec_l6Solutions_G N) tab [] (loopAt spec_l6Solutions_code 0) spec_l6Solutions_l0_sh spec_l6Solutions_l0_ex (fun y => spec_l6Solutions_l0_again N ks k y) ks x := by kernel_rfl
theorem spec_l6Solutions_l0_ok (N : Nat) : LoopOk Try.prog Try.f109.ntmps (spec_l6Solutions_l0_s N) (loopAt spec_l6Solutions_code 0) :=
  loop_ok (l := spec_l6Solutions_l0_s N) progOk (spec_l6Solutions_gok N) (draw_ok progOk (spec_l6Solutions_gok N)) (fun R k x ks => spec_l6Solutions_l0_again N ks k x) (fun _ _ _ => rfl) (fun R k x ks => spec_l6Solutions_l0_step N R k x ks) (fun R x ks r h => ⟨N, h⟩) (lsOk_at (L := []) trivial) (by kernel_rfl) (by kernel_rfl)
noncomputable def spec_l6Solutions (N : Nat) (f : (Int × (List (List Int)))) : Option (((List (List Int)) × Unit) × (Unit)) :=
  ((spec_l6All N f.1).bind fun r =>
    spec_l6Solutions_l0 N (fun o3 => some ((o3, ()), ())) N r.1.1 0 f.1 f.2 [])
noncomputable def spec_l6Solutions_S (N : Nat) : FSum := ⟨spec_l6Solutions_ps, spec_l6Solutions_rs, fun x => spec_l6Solutions N x.1⟩
theorem spec_l6Solutions_run (N : Nat) (x : argsT spec_l6Solutions_ps) : spec_l6Solutions N x.1 = funF (spec_l6Solutions_G N) tab [spec_l6Solutions_l0_s N] Try.f109 spec_l6Solutions_ps spec_l6Solutions_rs x := by kernel_rfl
theorem spec_l6Solutions_pc (N : Nat) : PC Try.prog 109 (spec_l6Solutions_S N) := by
  have e : spec_l6Solutions_S N = ⟨spec_l6Solutions_ps, spec_l6Solutions_rs, funF (spec_l6Solutions_G N) tab [spec_l6Solutions_l0_s N] Try.f109 spec_l6Solutions_ps spec_l6Solutions_rs⟩ := congrArg (FSum.mk spec_l6Solutions_ps spec_l6Solutions_rs) (funext (spec_l6Solutions_run N))
  rw [e]
  exact fun_ok (c := spec_l6Solutions_code) progOk (spec_l6Solutions_gok N) (draw_ok progOk (spec_l6Solutions_gok N)) Try.call109 Try.func109 (by kernel_rfl) (lsOk_at (L := [spec_l6Solutions_l0_s N]) ⟨spec_l6Solutions_l0_ok N, trivial⟩) (by kernel_rfl) (by kernel_rfl) (by kernel_rfl) (by kernel_rfl) (by kernel_rfl)

/-! ### spec_l6Apart -/
abbrev spec_l6Apart_ps : List (PV.Mode × Ty) := [(.ro, LI), (.ro, LI)]
abbrev spec_l6Apart_rs : List (Bool × Ty) := [(true, I)]
noncomputable def spec_l6Apart_G (N : Nat) : GTab := gOf []
theorem spec_l6Apart_gok (N : Nat) : GOk Try.prog (spec_l6Apart_G N) := gOf_ok trivial
noncomputable def spec_l6Apart_code : Code := (Try.f146.body).getD .skip
noncomputable def spec_l6Apart_l0_sh : Sh := ⟨[(0, .one (.ro LI)), (1, .one (.ro LI)), (5, .one (.ro I)), (6, .one (.ro I))], []⟩
noncomputable def spec_l6Apart_l0_ex : List (Ex × Sh) := [(.exit 0, ⟨[(5, .one (.ro I))], []⟩)]
noncomputable def spec_l6Apart_l0 {R : Type} (N : Nat) (k0 : Int → Option R) : Nat → (List Int) → (List Int) → Int → Int → Option R
  | 0, _, _, _, _ => none
  | K + 1, a1, b1, count, i =>
    (br (ilt i (tLen a1))
      ((chk (inb a1 i)
        (chk (inb b1 i)
        (br (ine (rdI a1 i) (rdI b1 i))
        (spec_l6Apart_l0 N k0 K a1 b1 (IntKind.i64.wrap (count + 1)) (IntKind.i64.wrap (i + 1)))
        (spec_l6Apart_l0 N k0 K a1 b1 count (IntKind.i64.wrap (i + 1)))))))
      (k0 count))
noncomputable def spec_l6Apart_l0_again {R : Type} (N : Nat) (ks : (j : Nat) → ((spec_l6Apart_l0_ex.getD j (.ret, Sh.none)).2).T → Option R) (k : Nat) (x : spec_l6Apart_l0_sh.T) : Option R :=
  spec_l6Apart_l0 N (fun y0 => ks 0 ((y0, ()), ())) k x.1.1 x.1.2.1 x.1.2.2.1 x.1.2.2.2.1
noncomputable def spec_l6Apart_l0_s (N : Nat) : LSum := ⟨spec_l6Apart_l0_sh, spec_l6Apart_l0_ex, fun x ks => spec_l6Apart_l0_again N ks N x⟩
theorem spec_l6Apart_l0_step (N : Nat) (R : Type) (k : Nat) (x : spec_l6Apart_l0_sh.T) (ks : (j : Nat) → ((spec_l6Apart_l0_ex.getD j (.ret, Sh.none)).2).T → Option R) : spec_l6Apart_l0_again N ks (k + 1) x = roundF (spec_l6Apart_G N) tab [] (loopAt spec_l6Apart_code 0) spec_l6Apart_l0_sh spec_l6Apart_l0_ex (fun y => spec_l6Apart_l0_again N ks k y) ks x := by kernel_rfl
theorem spec_l6Apart_l0_ok (N : Nat) : LoopOk Try.prog Try.f146.ntmps (spec_l6Apart_l0_s N) (loopAt spec_l6Apart_code 0) :=
  loop_ok (l := spec_l6Apart_l0_s N) progOk (spec_l6Apart_gok N) (draw_ok progOk (spec_l6Apart_gok N)) (fun R k x ks => spec_l6Apart_l0_again N ks k x) (fun _ _ _ => rfl) (fun R k x ks => spec_l6Apart_l0_step N R k x ks) (fun R x ks r h => ⟨N, h⟩) (lsOk_at (L := []) trivial) (by kernel_rfl) (by kernel_rfl)
noncomputable def spec_l6Apart (N : Nat) (a : (List Int)) (b : (List Int)) : Option ((Int × Unit) × (Unit)) :=
  spec_l6Apart_l0 N (fun count => some ((count, ()), ())) N a b 0 0
noncomputable def spec_l6Apart_S (N : Nat) : FSum := ⟨spec_l6Apart_ps, spec_l6Apart_rs, fun x => spec_l6Apart N x.1 x.2.1⟩
theorem spec_l6Apart_run (N : Nat) (x : argsT spec_l6Apart_ps) : spec_l6Apart N x.1 x.2.1 = funF (spec_l6Apart_G N) tab [spec_l6Apart_l0_s N] Try.f146 spec_l6Apart_ps spec_l6Apart_rs x := by kernel_rfl
theorem spec_l6Apart_pc (N : Nat) : PC Try.prog 146 (spec_l6Apart_S N) := by
  have e : spec_l6Apart_S N = ⟨spec_l6Apart_ps, spec_l6Apart_rs, funF (spec_l6Apart_G N) tab [spec_l6Apart_l0_s N] Try.f146 spec_l6Apart_ps spec_l6Apart_rs⟩ := congrArg (FSum.mk spec_l6Apart_ps spec_l6Apart_rs) (funext (spec_l6Apart_run N))
  rw [e]
  exact fun_ok (c := spec_l6Apart_code) progOk (spec_l6Apart_gok N) (draw_ok progOk (spec_l6Apart_gok N)) Try.call146 Try.func146 (by kernel_rfl) (lsOk_at (L := [spec_l6Apart_l0_s N]) ⟨spec_l6Apart_l0_ok N, trivial⟩) (by kernel_rfl) (by kernel_rfl) (by kernel_rfl) (by kernel_rfl) (by kernel_rfl)

/-! ### spec_l6Space -/
abbrev spec_l6Space_ps : List (PV.Mode × Ty) := [(.ro, LLI)]
abbrev spec_l6Space_rs : List (Bool × Ty) := [(false, QLLILQII)]
noncomputable def spec_l6Space_G (N : Nat) : GTab := gOf [(146, spec_l6Apart_S N)]
theorem spec_l6Space_gok (N : Nat) : GOk Try.prog (spec_l6Space_G N) := gOf_ok ⟨spec_l6Apart_pc N, trivial⟩
noncomputable def spec_l6Space_code : Code := (Try.f108.body).getD .skip
noncomputable def spec_l6Space_l0_0_sh : Sh := ⟨[(0, .one (.ro LLI)), (2, .one (.adr 0 0)), (3, .one (.adr 1 0)), (4, .one (.ro I)), (5, .one (.ro I))], [.box [.nilsl, .nilsl], .box [.ro LLI, .ref 2], .sl 80 QII .own]⟩
noncomputable def spec_l6Space_l0_0_ex : List (Ex × Sh) := [(.exit 2, ⟨[(0, .one (.ro LLI)), (2, .one (.adr 0 0)), (3, .one (.adr 1 0)), (4, .one (.ro I))], [.box [.nilsl, .nilsl], .box [.ro LLI, .ref 2], .sl 80 QII .own]⟩)]
noncomputable def spec_l6Space_l0_0 {R : Type} (N : Nat) (k0 : (List (List Int)) → Int → (List (List Int)) → (List (Int × Int)) → Option R) : Nat → (List (List Int)) → Int → Int → (List (List Int)) → (List (Int × Int)) → Option R
  | 0, _, _, _, _, _ => none
  | K + 1, states2, i1, j, o2, o3 =>
    (br (ilt j (tLen states2))
      ((chk (inb states2 i1)
        (chk (inb states2 j)
        ((spec_l6Apart N (rdL states2 i1) (rdL states2 j)).bind fun r =>
        (br (ieq r.1.1 1)
          ((chk (room o3 [(i1, j)])
            (spec_l6Space_l0_0 N k0 K states2 i1 (IntKind.i64.wrap (j + 1)) o2 (tApp o3 [(i1, j)]))))
          (spec_l6Space_l0_0 N k0 K states2 i1 (IntKind.i64.wrap (j + 1)) o2 o3))))))
      (k0 states2 i1 o2 o3))
noncomputable def spec_l6Space_l0_0_again {R : Type} (N : Nat) (ks : (j : Nat) → ((spec_l6Space_l0_0_ex.getD j (.ret, Sh.none)).2).T → Option R) (k : Nat) (x : spec_l6Space_l0_0_sh.T) : Option R :=
  spec_l6Space_l0_0 N (fun y0 y1 y2 y3 => ks 0 ((y0, (), (), y1, ()), (((), (), ()), (y2, (), ()), y3, ()))) k x.1.1 x.1.2.2.2.1 x.1.2.2.2.2.1 x.2.2.1.1 x.2.2.2.1
noncomputable def spec_l6Space_l0_0_s (N : Nat) : LSum := ⟨spec_l6Space_l0_0_sh, spec_l6Space_l0_0_ex, fun x ks => spec_l6Space_l0_0_again N ks N x⟩
theorem spec_l6Space_l0_0_step (N : Nat) (R : Type) (k : Nat) (x : spec_l6Space_l0_0_sh.T) (ks : (j : Nat) → ((spec_l6Space_l0_0_ex.getD j (.ret, Sh.none)).2).T → Option R) : spec_l6Space_l0_0_again N ks (k + 1) x = roundF (spec_l6Space_G N) tab [] (loopAt (loopAt spec_l6Space_code 0) 0) spec_l6Space_l0_0_sh spec_l6Space_l0_0_ex (fun y => spec_l6Space_l0_0_again N ks k y) ks x := by kernel_rfl
theorem spec_l6Space_l0_0_ok (N : Nat) : LoopOk Try.prog Try.f108.ntmps (spec_l6Space_l0_0_s N) (loopAt (loopAt spec_l6Space_code 0) 0) :=
  loop_ok (l := spec_l6Space_l0_0_s N) progOk (spec_l6Space_gok N) (draw_ok progOk (spec_l6Space_gok N)) (fun R k x ks => spec_l6Space_l0_0_again N ks k x) (fun _ _ _ => rfl) (fun R k x ks => spec_l6Space_l0_0_step N R k x ks) (fun R x ks r h => ⟨N, h⟩) (lsOk_at (L := []) trivial) (by kernel_rfl) (by kernel_rfl)
noncomputable def spec_l6Space_l0_sh : Sh := ⟨[(0, .one (.ro LLI)), (2, .one (.adr 0 0)), (3, .one (.adr 1 0)), (4, .one (.ro I))], [.box [.nilsl, .nilsl], .box [.ro LLI, .ref 2], .sl 80 QII .own]⟩
noncomputable def spec_l6Space_l0_ex : List (Ex × Sh) := [(.exit 0, ⟨[(2, .one (.adr 0 0)), (3, .one (.adr 1 0))], [.box [.nilsl, .nilsl], .box [.ro LLI, .ref 2], .sl 80 QII .own]⟩)]
noncomputable def spec_l6Space_l0 {R : Type} (N : Nat) (k0 : (List (List Int)) → (List (Int × Int)) → Option R) : Nat → (List (List Int)) → Int → (List (List Int)) → (List (Int × Int)) → Option R
  | 0, _, _, _, _ => none
  | K + 1, states1, i, o, o1 =>
    (br (ilt i (tLen states1))
      (spec_l6Space_l0_0 N (fun states2 i1 o2 o3 => spec_l6Space_l0 N k0 K states2 (IntKind.i64.wrap (i1 + 1)) o2 o3) N states1 i (IntKind.i64.wrap (i + 1)) o o1)
      (k0 o o1))
noncomputable def spec_l6Space_l0_again {R : Type} (N : Nat) (ks : (j : Nat) → ((spec_l6Space_l0_ex.getD j (.ret, Sh.none)).2).T → Option R) (k : Nat) (x : spec_l6Space_l0_sh.T) : Option R :=
  spec_l6Space_l0 N (fun y0 y1 => ks 0 (((), (), ()), (((), (), ()), (y0, (), ()), y1, ()))) k x.1.1 x.1.2.2.2.1 x.2.2.1.1 x.2.2.2.1
noncomputable def spec_l6Space_l0_s (N : Nat) : LSum := ⟨spec_l6Space_l0_sh, spec_l6Space_l0_ex, fun x ks => spec_l6Space_l0_again N ks N x⟩
theorem spec_l6Space_l0_step (N : Nat) (R : Type) (k : Nat) (x : spec_l6Space_l0_sh.T) (ks : (j : Nat) → ((spec_l6Space_l0_ex.getD j (.ret, Sh.none)).2).T → Option R) : spec_l6Space_l0_again N ks (k + 1) x = roundF (spec_l6Space_G N) tab [spec_l6Space_l0_0_s N] (loopAt spec_l6Space_code 0) spec_l6Space_l0_sh spec_l6Space_l0_ex (fun y => spec_l6Space_l0_again N ks k y) ks x := by kernel_rfl
theorem spec_l6Space_l0_ok (N : Nat) : LoopOk Try.prog Try.f108.ntmps (spec_l6Space_l0_s N) (loopAt spec_l6Space_code 0) :=
  loop_ok (l := spec_l6Space_l0_s N) progOk (spec_l6Space_gok N) (draw_ok progOk (spec_l6Space_gok N)) (fun R k x ks => spec_l6Space_l0_again N ks k x) (fun _ _ _ => rfl) (fun R k x ks => spec_l6Space_l0_step N R k x ks) (fun R x ks r h => ⟨N, h⟩) (lsOk_at (L := [spec_l6Space_l0_0_s N]) ⟨spec_l6Space_l0_0_ok N, trivial⟩) (by kernel_rfl) (by kernel_rfl)
noncomputable def spec_l6Space (N : Nat) (states : (List (List Int))) : Option ((((List (List Int)) × (List (Int × Int))) × Unit) × (Unit)) :=
  spec_l6Space_l0 N (fun o o1 => some (((o, o1), ()), ())) N states 0 states []
noncomputable def spec_l6Space_S (N : Nat) : FSum := ⟨spec_l6Space_ps, spec_l6Space_rs, fun x => spec_l6Space N x.1⟩
theorem spec_l6Space_run (N : Nat) (x : argsT spec_l6Space_ps) : spec_l6Space N x.1 = funF (spec_l6Space_G N) tab [spec_l6Space_l0_s N] Try.f108 spec_l6Space_ps spec_l6Space_rs x := by kernel_rfl
theorem spec_l6Space_pc (N : Nat) : PC Try.prog 108 (spec_l6Space_S N) := by
  have e : spec_l6Space_S N = ⟨spec_l6Space_ps, spec_l6Space_rs, funF (spec_l6Space_G N) tab [spec_l6Space_l0_s N] Try.f108 spec_l6Space_ps spec_l6Space_rs⟩ := congrArg (FSum.mk spec_l6Space_ps spec_l6Space_rs) (funext (spec_l6Space_run N))
  rw [e]
  exact fun_ok (c := spec_l6Space_code) progOk (spec_l6Space_gok N) (draw_ok progOk (spec_l6Space_gok N)) Try.call108 Try.func108 (by kernel_rfl) (lsOk_at (L := [spec_l6Space_l0_s N]) ⟨spec_l6Space_l0_ok N, trivial⟩) (by kernel_rfl) (by kernel_rfl) (by kernel_rfl) (by kernel_rfl) (by kernel_rfl)

/-! ### spec_l1Same -/
abbrev spec_l1Same_ps : List (PV.Mode × Ty) := [(.ro, LI), (.ro, LI)]
abbrev spec_l1Same_rs : List (Bool × Ty) := [(true, .bool)]
noncomputable def spec_l1Same_G (N : Nat) : GTab := gOf []
theorem spec_l1Same_gok (N : Nat) : GOk Try.prog (spec_l1Same_G N) := gOf_ok trivial
noncomputable def spec_l1Same_code : Code := (Try.f123.body).getD .skip
noncomputable def spec_l1Same_l0_sh : Sh := ⟨[(0, .one (.ro LI)), (1, .one (.ro LI)), (5, .one (.ro I))], []⟩
noncomputable def spec_l1Same_l0_ex : List (Ex × Sh) := [(.ret, ⟨[(4, .one (.ro .bool))], []⟩), (.exit 0, ⟨[], []⟩)]
noncomputable def spec_l1Same_l0 {R : Type} (N : Nat) (k0 : Bool → Option R) (k1 : Unit → Option R) : Nat → (List Int) → (List Int) → Int → Option R
  | 0, _, _, _ => none
  | K + 1, a1, b1, i =>
    (br (ilt i (tLen a1))
      ((chk (inb a1 i)
        (chk (inb b1 i)
        (br (ine (rdI a1 i) (rdI b1 i))
        (k0 false)
        (spec_l1Same_l0 N k0 k1 K a1 b1 (IntKind.i64.wrap (i + 1)))))))
      (k1 ()))
noncomputable def spec_l1Same_l0_again {R : Type} (N : Nat) (ks : (j : Nat) → ((spec_l1Same_l0_ex.getD j (.ret, Sh.none)).2).T → Option R) (k : Nat) (x : spec_l1Same_l0_sh.T) : Option R :=
  spec_l1Same_l0 N (fun y0 => ks 0 ((y0, ()), ())) (fun (_ : Unit) => ks 1 ((), ())) k x.1.1 x.1.2.1 x.1.2.2.1
noncomputable def spec_l1Same_l0_s (N : Nat) : LSum := ⟨spec_l1Same_l0_sh, spec_l1Same_l0_ex, fun x ks => spec_l1Same_l0_again N ks N x⟩
theorem spec_l1Same_l0_step (N : Nat) (R : Type) (k : Nat) (x : spec_l1Same_l0_sh.T) (ks : (j : Nat) → ((spec_l1Same_l0_ex.getD j (.ret, Sh.none)).2).T → Option R) : spec_l1Same_l0_again N ks (k + 1) x = roundF (spec_l1Same_G N) tab [] (loopAt spec_l1Same_code 0) spec_l1Same_l0_sh spec_l1Same_l0_ex (fun y => spec_l1Same_l0_again N ks k y) ks x := by kernel_rfl
theorem spec_l1Same_l0_ok (N : Nat) : LoopOk Try.prog Try.f123.ntmps (spec_l1Same_l0_s N) (loopAt spec_l1Same_code 0) :=
  loop_ok (l := spec_l1Same_l0_s N) progOk (spec_l1Same_gok N) (draw_ok progOk (spec_l1Same_gok N)) (fun R k x ks => spec_l1Same_l0_again N ks k x) (fun _ _ _ => rfl) (fun R k x ks => spec_l1Same_l0_step N R k x ks) (fun R x ks r h => ⟨N, h⟩) (lsOk_at (L := []) trivial) (by kernel_rfl) (by kernel_rfl)
noncomputable def spec_l1Same (N : Nat) (a : (List Int)) (b : (List Int)) : Option ((Bool × Unit) × (Unit)) :=
  (br (ine (tLen a) (tLen b))
    (some ((false, ()), ()))
    (spec_l1Same_l0 N (fun x => some ((x, ()), ())) (fun (_ : Unit) => some ((true, ()), ())) N a b 0))
noncomputable def spec_l1Same_S (N : Nat) : FSum := ⟨spec_l1Same_ps, spec_l1Same_rs, fun x => spec_l1Same N x.1 x.2.1⟩
theorem spec_l1Same_run (N : Nat) (x : argsT spec_l1Same_ps) : spec_l1Same N x.1 x.2.1 = funF (spec_l1Same_G N) tab [spec_l1Same_l0_s N] Try.f123 spec_l1Same_ps spec_l1Same_rs x := by kernel_rfl
theorem spec_l1Same_pc (N : Nat) : PC Try.prog 123 (spec_l1Same_S N) := by
  have e : spec_l1Same_S N = ⟨spec_l1Same_ps, spec_l1Same_rs, funF (spec_l1Same_G N) tab [spec_l1Same_l0_s N] Try.f123 spec_l1Same_ps spec_l1Same_rs⟩ := congrArg (FSum.mk spec_l1Same_ps spec_l1Same_rs) (funext (spec_l1Same_run N))
  rw [e]
  exact fun_ok (c := spec_l1Same_code) progOk (spec_l1Same_gok N) (draw_ok progOk (spec_l1Same_gok N)) Try.call123 Try.func123 (by kernel_rfl) (lsOk_at (L := [spec_l1Same_l0_s N]) ⟨spec_l1Same_l0_ok N, trivial⟩) (by kernel_rfl) (by kernel_rfl) (by kernel_rfl) (by kernel_rfl) (by kernel_rfl)

/-! ### spec_l2Index -/
abbrev spec_l2Index_ps : List (PV.Mode × Ty) := [(.ro, QLLILQII), (.ro, LI)]
abbrev spec_l2Index_rs : List (Bool × Ty) := [(true, I)]
noncomputable def spec_l2Index_G (N : Nat) : GTab := gOf [(123, spec_l1Same_S N)]
theorem spec_l2Index_gok (N : Nat) : GOk Try.prog (spec_l2Index_G N) := gOf_ok ⟨spec_l1Same_pc N, trivial⟩
noncomputable def spec_l2Index_code : Code := (Try.f91.body).getD .skip
noncomputable def spec_l2Index_l0_sh : Sh := ⟨[(1, .one (.ro LI)), (2, .one (.adr 0 0)), (5, .one (.ro I))], [.box [.ro LLI, .ro LQII]]⟩
noncomputable def spec_l2Index_l0_ex : List (Ex × Sh) := [(.ret, ⟨[(4, .one (.ro I))], []⟩), (.exit 0, ⟨[], []⟩)]
noncomputable def spec_l2Index_l0 {R : Type} (N : Nat) (k0 : Int → Option R) (k1 : Unit → Option R) : Nat → (List Int) → Int → (List (List Int)) → (List (Int × Int)) → Option R
  | 0, _, _, _, _ => none
  | K + 1, state1, i, o, o1 =>
    (br (ilt i (tLen o))
      ((chk (inb o i)
        ((spec_l1Same N (rdL o i) state1).bind fun r =>
        (br r.1.1
          (k0 i)
          (spec_l2Index_l0 N k0 k1 K state1 (IntKind.i64.wrap (i + 1)) o o1)))))
      (k1 ()))
noncomputable def spec_l2Index_l0_again {R : Type} (N : Nat) (ks : (j : Nat) → ((spec_l2Index_l0_ex.getD j (.ret, Sh.none)).2).T → Option R) (k : Nat) (x : spec_l2Index_l0_sh.T) : Option R :=
  spec_l2Index_l0 N (fun y0 => ks 0 ((y0, ()), ())) (fun (_ : Unit) => ks 1 ((), ())) k x.1.1 x.1.2.2.1 x.2.1.1 x.2.1.2.1
noncomputable def spec_l2Index_l0_s (N : Nat) : LSum := ⟨spec_l2Index_l0_sh, spec_l2Index_l0_ex, fun x ks => spec_l2Index_l0_again N ks N x⟩
theorem spec_l2Index_l0_step (N : Nat) (R : Type) (k : Nat) (x : spec_l2Index_l0_sh.T) (ks : (j : Nat) → ((spec_l2Index_l0_ex.getD j (.ret, Sh.none)).2).T → Option R) : spec_l2Index_l0_again N ks (k + 1) x = roundF (spec_l2Index_G N) tab [] (loopAt spec_l2Index_code 0) spec_l2Index_l0_sh spec_l2Index_l0_ex (fun y => spec_l2Index_l0_again N ks k y) ks x := by kernel_rfl
theorem spec_l2Index_l0_ok (N : Nat) : LoopOk Try.prog Try.f91.ntmps (spec_l2Index_l0_s N) (loopAt spec_l2Index_code 0) :=
  loop_ok (l := spec_l2Index_l0_s N) progOk (spec_l2Index_gok N) (draw_ok progOk (spec_l2Index_gok N)) (fun R k x ks => spec_l2Index_l0_again N ks k x) (fun _ _ _ => rfl) (fun R k x ks => spec_l2Index_l0_step N R k x ks) (fun R x ks r h => ⟨N, h⟩) (lsOk_at (L := []) trivial) (by kernel_rfl) (by kernel_rfl)
noncomputable def spec_l2Index (N : Nat) (x : ((List (List Int)) × (List (Int × Int)))) (state : (List Int)) : Option ((Int × Unit) × (Unit)) :=
  spec_l2Index_l0 N (fun x1 => some ((x1, ()), ())) (fun (_ : Unit) => some (((-1), ()), ())) N state 0 x.1 x.2
noncomputable def spec_l2Index_S (N : Nat) : FSum := ⟨spec_l2Index_ps, spec_l2Index_rs, fun x => spec_l2Index N x.1 x.2.1⟩
theorem spec_l2Index_run (N : Nat) (x : argsT spec_l2Index_ps) : spec_l2Index N x.1 x.2.1 = funF (spec_l2Index_G N) tab [spec_l2Index_l0_s N] Try.f91 spec_l2Index_ps spec_l2Index_rs x := by kernel_rfl
theorem spec_l2Index_pc (N : Nat) : PC Try.prog 91 (spec_l2Index_S N) := by
  have e : spec_l2Index_S N = ⟨spec_l2Index_ps, spec_l2Index_rs, funF (spec_l2Index_G N) tab [spec_l2Index_l0_s N] Try.f91 spec_l2Index_ps spec_l2Index_rs⟩ := congrArg (FSum.mk spec_l2Index_ps spec_l2Index_rs) (funext (spec_l2Index_run N))
  rw [e]
  exact fun_ok (c := spec_l2Index_code) progOk (spec_l2Index_gok N) (draw_ok progOk (spec_l2Index_gok N)) Try.call91 Try.func91 (by kernel_rfl) (lsOk_at (L := [spec_l2Index_l0_s N]) ⟨spec_l2Index_l0_ok N, trivial⟩) (by kernel_rfl) (by kernel_rfl) (by kernel_rfl) (by kernel_rfl) (by kernel_rfl)

/-! ### spec_l2Lists -/
abbrev spec_l2Lists_ps : List (PV.Mode × Ty) := [(.ro, QLLILQII)]
abbrev spec_l2Lists_rs : List (Bool × Ty) := [(true, LLI)]
noncomputable def spec_l2Lists_G (N : Nat) : GTab := gOf []
theorem spec_l2Lists_gok (N : Nat) : GOk Try.prog (spec_l2Lists_G N) := gOf_ok trivial
noncomputable def spec_l2Lists_code : Code := (Try.f98.body).getD .skip
noncomputable def spec_l2Lists_l0_sh : Sh := ⟨[(1, .one (.adr 0 0)), (3, .one (.ref 1)), (4, .one (.ro I))], [.box [.ro LLI, .ro LQII], .sl 43 LI .deep]⟩
noncomputable def spec_l2Lists_l0_ex : List (Ex × Sh) := [(.exit 0, ⟨[(1, .one (.adr 0 0)), (3, .one (.ref 1))], [.box [.ro LLI, .ro LQII], .sl 43 LI .deep]⟩)]
noncomputable def spec_l2Lists_l0 {R : Type} (N : Nat) (k0 : (List (List Int)) → (List (Int × Int)) → (List (List Int)) → Option R) : Nat → Int → (List (List Int)) → (List (Int × Int)) → (List (List Int)) → Option R
  | 0, _, _, _, _ => none
  | K + 1, x, o, o1, o2 =>
    (br (ilt x (tLen o1))
      ((chk (inb o1 x)
        (chk (inb o1 x)
        (chk (inb o2 ((rdP o1 x).2))
        (chk (room (rdL o2 ((rdP o1 x).2)) [(rdP o1 x).1])
        (chk (inb o2 ((rdP o1 x).2))
        (chk (ieq ((rdP o1 x).2) ((rdP o1 x).2))
        (spec_l2Lists_l0 N k0 K (IntKind.i64.wrap (x + 1)) o o1 (tSet o2 ((rdP o1 x).2) (tApp (rdL o2 ((rdP o1 x).2)) [(rdP o1 x).1]))))))))))
      (k0 o o1 o2))
noncomputable def spec_l2Lists_l0_again {R : Type} (N : Nat) (ks : (j : Nat) → ((spec_l2Lists_l0_ex.getD j (.ret, Sh.none)).2).T → Option R) (k : Nat) (x : spec_l2Lists_l0_sh.T) : Option R :=
  spec_l2Lists_l0 N (fun y0 y1 y2 => ks 0 (((), (), ()), ((y0, y1, ()), y2, ()))) k x.1.2.2.1 x.2.1.1 x.2.1.2.1 x.2.2.1
noncomputable def spec_l2Lists_l0_s (N : Nat) : LSum := ⟨spec_l2Lists_l0_sh, spec_l2Lists_l0_ex, fun x ks => spec_l2Lists_l0_again N ks N x⟩
theorem spec_l2Lists_l0_step (N : Nat) (R : Type) (k : Nat) (x : spec_l2Lists_l0_sh.T) (ks : (j : Nat) → ((spec_l2Lists_l0_ex.getD j (.ret, Sh.none)).2).T → Option R) : spec_l2Lists_l0_again N ks (k + 1) x = roundF (spec_l2Lists_G N) tab [] (loopAt spec_l2Lists_code 0) spec_l2Lists_l0_sh spec_l2Lists_l0_ex (fun y => spec_l2Lists_l0_again N ks k y) ks x := by kernel_rfl
theorem spec_l2Lists_l0_ok (N : Nat) : LoopOk Try.prog Try.f98.ntmps (spec_l2Lists_l0_s N) (loopAt spec_l2Lists_code 0) :=
  loop_ok (l := spec_l2Lists_l0_s N) progOk (spec_l2Lists_gok N) (draw_ok progOk (spec_l2Lists_gok N)) (fun R k x ks => spec_l2Lists_l0_again N ks k x) (fun _ _ _ => rfl) (fun R k x ks => spec_l2Lists_l0_step N R k x ks) (fun R x ks r h => ⟨N, h⟩) (lsOk_at (L := []) trivial) (by kernel_rfl) (by kernel_rfl)
noncomputable def spec_l2Lists_l1_sh : Sh := ⟨[(1, .one (.adr 0 0)), (3, .one (.ref 1)), (7, .one (.ro I))], [.box [.ro LLI, .ro LQII], .sl 43 LI .deep]⟩
noncomputable def spec_l2Lists_l1_ex : List (Ex × Sh) := [(.exit 2, ⟨[(3, .one (.ref 0))], [.sl 43 LI .deep]⟩)]
noncomputable def spec_l2Lists_l1 {R : Type} (N : Nat) (k0 : (List (List Int)) → Option R) : Nat → Int → (List (List Int)) → (List (Int × Int)) → (List (List Int)) → Option R
  | 0, _, _, _, _ => none
  | K + 1, x, o3, o4, o5 =>
    (br (ilt x (tLen o4))
      ((chk (inb o4 x)
        (chk (inb o4 x)
        (chk (inb o5 ((rdP o4 x).1))
        (chk (room (rdL o5 ((rdP o4 x).1)) [(rdP o4 x).2])
        (chk (inb o5 ((rdP o4 x).1))
        (chk (ieq ((rdP o4 x).1) ((rdP o4 x).1))
        (spec_l2Lists_l1 N k0 K (IntKind.i64.wrap (x + 1)) o3 o4 (tSet o5 ((rdP o4 x).1) (tApp (rdL o5 ((rdP o4 x).1)) [(rdP o4 x).2]))))))))))
      (k0 o5))
noncomputable def spec_l2Lists_l1_again {R : Type} (N : Nat) (ks : (j : Nat) → ((spec_l2Lists_l1_ex.getD j (.ret, Sh.none)).2).T → Option R) (k : Nat) (x : spec_l2Lists_l1_sh.T) : Option R :=
  spec_l2Lists_l1 N (fun y0 => ks 0 (((), ()), (y0, ()))) k x.1.2.2.1 x.2.1.1 x.2.1.2.1 x.2.2.1
noncomputable def spec_l2Lists_l1_s (N : Nat) : LSum := ⟨spec_l2Lists_l1_sh, spec_l2Lists_l1_ex, fun x ks => spec_l2Lists_l1_again N ks N x⟩
theorem spec_l2Lists_l1_step (N : Nat) (R : Type) (k : Nat) (x : spec_l2Lists_l1_sh.T) (ks : (j : Nat) → ((spec_l2Lists_l1_ex.getD j (.ret, Sh.none)).2).T → Option R) : spec_l2Lists_l1_again N ks (k + 1) x = roundF (spec_l2Lists_G N) tab [] (loopAt spec_l2Lists_code 1) spec_l2Lists_l1_sh spec_l2Lists_l1_ex (fun y => spec_l2Lists_l1_again N ks k y) ks x := by kernel_rfl
theorem spec_l2Lists_l1_ok (N : Nat) : LoopOk Try.prog Try.f98.ntmps (spec_l2Lists_l1_s N) (loopAt spec_l2Lists_code 1) :=
  loop_ok (l := spec_l2Lists_l1_s N) progOk (spec_l2Lists_gok N) (draw_ok progOk (spec_l2Lists_gok N)) (fun R k x ks => spec_l2Lists_l1_again N ks k x) (fun _ _ _ => rfl) (fun R k x ks => spec_l2Lists_l1_step N R k x ks) (fun R x ks r h => ⟨N, h⟩) (lsOk_at (L := []) trivial) (by kernel_rfl) (by kernel_rfl)
noncomputable def spec_l2Lists (N : Nat) (c : ((List (List Int)) × (List (Int × Int)))) : Option (((List (List Int)) × Unit) × (Unit)) :=
  (chk (ile 0 (tLen c.1) && ile (tLen c.1) (tLen c.1) && fits (tLen c.1))
    (spec_l2Lists_l0 N (fun o o1 o2 => spec_l2Lists_l1 N (fun o3 => some ((o3, ()), ())) N 0 o o1 o2) N 0 c.1 c.2 (tRep (tLen c.1) [])))
noncomputable def spec_l2Lists_S (N : Nat) : FSum := ⟨spec_l2Lists_ps, spec_l2Lists_rs, fun x => spec_l2Lists N x.1⟩
theorem spec_l2Lists_run (N : Nat) (x : argsT spec_l2Lists_ps) : spec_l2Lists N x.1 = funF (spec_l2Lists_G N) tab [spec_l2Lists_l0_s N, spec_l2Lists_l1_s N] Try.f98 spec_l2Lists_ps spec_l2Lists_rs x := by kernel_rfl
theorem spec_l2Lists_pc (N : Nat) : PC Try.prog 98 (spec_l2Lists_S N) := by
  have e : spec_l2Lists_S N = ⟨spec_l2Lists_ps, spec_l2Lists_rs, funF (spec_l2Lists_G N) tab [spec_l2Lists_l0_s N, spec_l2Lists_l1_s N] Try.f98 spec_l2Lists_ps spec_l2Lists_rs⟩ := congrArg (FSum.mk spec_l2Lists_ps spec_l2Lists_rs) (funext (spec_l2Lists_run N))
  rw [e]
  exact fun_ok (c := spec_l2Lists_code) progOk (spec_l2Lists_gok N) (draw_ok progOk (spec_l2Lists_gok N)) Try.call98 Try.func98 (by kernel_rfl) (lsOk_at (L := [spec_l2Lists_l0_s N, spec_l2Lists_l1_s N]) ⟨spec_l2Lists_l0_ok N, spec_l2Lists_l1_ok N, trivial⟩) (by kernel_rfl) (by kernel_rfl) (by kernel_rfl) (by kernel_rfl) (by kernel_rfl)

/-! ### spec_l2Spread -/
abbrev spec_l2Spread_ps : List (PV.Mode × Ty) := [(.ro, LLI), (.ro, I)]
abbrev spec_l2Spread_rs : List (Bool × Ty) := [(true, LI)]
noncomputable def spec_l2Spread_G (N : Nat) : GTab := gOf []
theorem spec_l2Spread_gok (N : Nat) : GOk Try.prog (spec_l2Spread_G N) := gOf_ok trivial
noncomputable def spec_l2Spread_code : Code := (Try.f99.body).getD .skip
noncomputable def spec_l2Spread_l0_sh : Sh := ⟨[(0, .one (.ro LLI)), (1, .one (.ro I)), (5, .one (.ref 0)), (6, .one (.ro I))], [.sl 3 I .own]⟩
noncomputable def spec_l2Spread_l0_ex : List (Ex × Sh) := [(.exit 0, ⟨[(0, .one (.ro LLI)), (1, .one (.ro I)), (5, .one (.ref 0))], [.sl 3 I .own]⟩)]
noncomputable def spec_l2Spread_l0 {R : Type} (N : Nat) (k0 : (List (List Int)) → Int → (List Int) → Option R) : Nat → (List (List Int)) → Int → Int → (List Int) → Option R
  | 0, _, _, _, _ => none
  | K + 1, x, x1, x2, o =>
    (br (ilt x2 (tLen o))
      ((chk (inb o x2)
        (spec_l2Spread_l0 N k0 K x x1 (IntKind.i64.wrap (x2 + 1)) (tSet o x2 (-1)))))
      (k0 x x1 o))
noncomputable def spec_l2Spread_l0_again {R : Type} (N : Nat) (ks : (j : Nat) → ((spec_l2Spread_l0_ex.getD j (.ret, Sh.none)).2).T → Option R) (k : Nat) (x : spec_l2Spread_l0_sh.T) : Option R :=
  spec_l2Spread_l0 N (fun y0 y1 y2 => ks 0 ((y0, y1, (), ()), (y2, ()))) k x.1.1 x.1.2.1 x.1.2.2.2.1 x.2.1
noncomputable def spec_l2Spread_l0_s (N : Nat) : LSum := ⟨spec_l2Spread_l0_sh, spec_l2Spread_l0_ex, fun x ks => spec_l2Spread_l0_again N ks N x⟩
theorem spec_l2Spread_l0_step (N : Nat) (R : Type) (k : Nat) (x : spec_l2Spread_l0_sh.T) (ks : (j : Nat) → ((spec_l2Spread_l0_ex.getD j (.ret, Sh.none)).2).T → Option R) : spec_l2Spread_l0_again N ks (k + 1) x = roundF (spec_l2Spread_G N) tab [] (loopAt spec_l2Spread_code 0) spec_l2Spread_l0_sh spec_l2Spread_l0_ex (fun y => spec_l2Spread_l0_again N ks k y) ks x := by kernel_rfl
theorem spec_l2Spread_l0_ok (N : Nat) : LoopOk Try.prog Try.f99.ntmps (spec_l2Spread_l0_s N) (loopAt spec_l2Spread_code 0) :=
  loop_ok (l := spec_l2Spread_l0_s N) progOk (spec_l2Spread_gok N) (draw_ok progOk (spec_l2Spread_gok N)) (fun R k x ks => spec_l2Spread_l0_again N ks k x) (fun _ _ _ => rfl) (fun R k x ks => spec_l2Spread_l0_step N R k x ks) (fun R x ks r h => ⟨N, h⟩) (lsOk_at (L := []) trivial) (by kernel_rfl) (by kernel_rfl)
noncomputable def spec_l2Spread_l1_0_sh : Sh := ⟨[(0, .one (.ro LLI)), (5, .one (.ref 0)), (7, .one (.ref 1)), (8, .one (.ro I)), (9, .one (.ro LI)), (10, .one (.ro I))], [.sl 3 I .own, .sl 3 I .own]⟩
noncomputable def spec_l2Spread_l1_0_ex : List (Ex × Sh) := [(.exit 4, ⟨[(0, .one (.ro LLI)), (5, .one (.ref 0)), (7, .one (.ref 1)), (8, .one (.ro I))], [.sl 3 I .own, .sl 3 I .own]⟩)]
noncomputable def spec_l2Spread_l1_0 {R : Type} (N : Nat) (k0 : (List (List Int)) → Int → (List Int) → (List Int) → Option R) : Nat → (List (List Int)) → Int → (List Int) → Int → (List Int) → (List Int) → Option R
  | 0, _, _, _, _, _, _ => none
  | K + 1, x4, x5, x6, x7, o3, o4 =>
    (br (ilt x7 (tLen x6))
      ((chk (inb x6 x7)
        (chk (inb o3 (rdI x6 x7))
        (br (ilt (rdI o3 (rdI x6 x7)) 0)
        ((chk (inb x6 x7)
          (chk (inb o4 x5)
          (chk (inb o3 (rdI o4 x5))
          (chk (inb o3 (rdI x6 x7))
          (chk (inb x6 x7)
          (chk (room o4 [(rdI x6 x7)])
          (spec_l2Spread_l1_0 N k0 K x4 x5 x6 (IntKind.i64.wrap (x7 + 1)) (tSet o3 (rdI x6 x7) (IntKind.i64.wrap ((rdI o3 (rdI o4 x5)) + 1))) (tApp o4 [(rdI x6 x7)])))))))))
        (spec_l2Spread_l1_0 N k0 K x4 x5 x6 (IntKind.i64.wrap (x7 + 1)) o3 o4)))))
      (k0 x4 x5 o3 o4))
noncomputable def spec_l2Spread_l1_0_again {R : Type} (N : Nat) (ks : (j : Nat) → ((spec_l2Spread_l1_0_ex.getD j (.ret, Sh.none)).2).T → Option R) (k : Nat) (x : spec_l2Spread_l1_0_sh.T) : Option R :=
  spec_l2Spread_l1_0 N (fun y0 y1 y2 y3 => ks 0 ((y0, (), (), y1, ()), (y2, y3, ()))) k x.1.1 x.1.2.2.2.1 x.1.2.2.2.2.1 x.1.2.2.2.2.2.1 x.2.1 x.2.2.1
noncomputable def spec_l2Spread_l1_0_s (N : Nat) : LSum := ⟨spec_l2Spread_l1_0_sh, spec_l2Spread_l1_0_ex, fun x ks => spec_l2Spread_l1_0_again N ks N x⟩
theorem spec_l2Spread_l1_0_step (N : Nat) (R : Type) (k : Nat) (x : spec_l2Spread_l1_0_sh.T) (ks : (j : Nat) → ((spec_l2Spread_l1_0_ex.getD j (.ret, Sh.none)).2).T → Option R) : spec_l2Spread_l1_0_again N ks (k + 1) x = roundF (spec_l2Spread_G N) tab [] (loopAt (loopAt spec_l2Spread_code 1) 0) spec_l2Spread_l1_0_sh spec_l2Spread_l1_0_ex (fun y => spec_l2Spread_l1_0_again N ks k y) ks x := by kernel_rfl
theorem spec_l2Spread_l1_0_ok (N : Nat) : LoopOk Try.prog Try.f99.ntmps (spec_l2Spread_l1_0_s N) (loopAt (loopAt spec_l2Spread_code 1) 0) :=
  loop_ok (l := spec_l2Spread_l1_0_s N) progOk (spec_l2Spread_gok N) (draw_ok progOk (spec_l2Spread_gok N)) (fun R k x ks => spec_l2Spread_l1_0_again N ks k x) (fun _ _ _ => rfl) (fun R k x ks => spec_l2Spread_l1_0_step N R k x ks) (fun R x ks r h => ⟨N, h⟩) (lsOk_at (L := []) trivial) (by kernel_rfl) (by kernel_rfl)
noncomputable def spec_l2Spread_l1_sh : Sh := ⟨[(0, .one (.ro LLI)), (5, .one (.ref 0)), (7, .one (.ref 1)), (8, .one (.ro I))], [.sl 3 I .own, .sl 3 I .own]⟩
noncomputable def spec_l2Spread_l1_ex : List (Ex × Sh) := [(.exit 2, ⟨[(5, .one (.ref 0))], [.sl 3 I .own]⟩)]
noncomputable def spec_l2Spread_l1 {R : Type} (N : Nat) (k0 : (List Int) → Option R) : Nat → (List (List Int)) → Int → (List Int) → (List Int) → Option R
  | 0, _, _, _, _ => none
  | K + 1, x2, x3, o1, o2 =>
    (br (ilt x3 (tLen o2))
      ((chk (inb o2 x3)
        (chk (inb x2 (rdI o2 x3))
        (spec_l2Spread_l1_0 N (fun x4 x5 o3 o4 => spec_l2Spread_l1 N k0 K x4 (IntKind.i64.wrap (x5 + 1)) o3 o4) N x2 x3 (rdL x2 (rdI o2 x3)) 0 o1 o2))))
      (k0 o1))
noncomputable def spec_l2Spread_l1_again {R : Type} (N : Nat) (ks : (j : Nat) → ((spec_l2Spread_l1_ex.getD j (.ret, Sh.none)).2).T → Option R) (k : Nat) (x : spec_l2Spread_l1_sh.T) : Option R :=
  spec_l2Spread_l1 N (fun y0 => ks 0 (((), ()), (y0, ()))) k x.1.1 x.1.2.2.2.1 x.2.1 x.2.2.1
noncomputable def spec_l2Spread_l1_s (N : Nat) : LSum := ⟨spec_l2Spread_l1_sh, spec_l2Spread_l1_ex, fun x ks => spec_l2Spread_l1_again N ks N x⟩
theorem spec_l2Spread_l1_step (N : Nat) (R : Type) (k : Nat) (x : spec_l2Spread_l1_sh.T) (ks : (j : Nat) → ((spec_l2Spread_l1_ex.getD j (.ret, Sh.none)).2).T → Option R) : spec_l2Spread_l1_again N ks (k + 1) x = roundF (spec_l2Spread_G N) tab [spec_l2Spread_l1_0_s N] (loopAt spec_l2Spread_code 1) spec_l2Spread_l1_sh spec_l2Spread_l1_ex (fun y => spec_l2Spread_l1_again N ks k y) ks x := by kernel_rfl
theorem spec_l2Spread_l1_ok (N : Nat) : LoopOk Try.prog Try.f99.ntmps (spec_l2Spread_l1_s N) (loopAt spec_l2Spread_code 1) :=
  loop_ok (l := spec_l2Spread_l1_s N) progOk (spec_l2Spread_gok N) (draw_ok progOk (spec_l2Spread_gok N)) (fun R k x ks => spec_l2Spread_l1_again N ks k x) (fun _ _ _ => rfl) (fun R k x ks => spec_l2Spread_l1_step N R k x ks) (fun R x ks r h => ⟨N, h⟩) (lsOk_at (L := [spec_l2Spread_l1_0_s N]) ⟨spec_l2Spread_l1_0_ok N, trivial⟩) (by kernel_rfl) (by kernel_rfl)
noncomputable def spec_l2Spread (N : Nat) (c : (List (List Int))) (c1 : Int) : Option (((List Int) × Unit) × (Unit)) :=
  (chk (ile 0 (tLen c) && ile (tLen c) (tLen c) && fits (tLen c))
    (spec_l2Spread_l0 N (fun x x1 o => (chk (inb o x1)
    (spec_l2Spread_l1 N (fun o1 => some ((o1, ()), ())) N x 0 (tSet o x1 0) [x1]))) N c c1 0 (tRep (tLen c) (0 : Int))))
noncomputable def spec_l2Spread_S (N : Nat) : FSum := ⟨spec_l2Spread_ps, spec_l2Spread_rs, fun x => spec_l2Spread N x.1 x.2.1⟩
theorem spec_l2Spread_run (N : Nat) (x : argsT spec_l2Spread_ps) : spec_l2Spread N x.1 x.2.1 = funF (spec_l2Spread_G N) tab [spec_l2Spread_l0_s N, spec_l2Spread_l1_s N] Try.f99 spec_l2Spread_ps spec_l2Spread_rs x := by kernel_rfl
theorem spec_l2Spread_pc (N : Nat) : PC Try.prog 99 (spec_l2Spread_S N) := by
  have e : spec_l2Spread_S N = ⟨spec_l2Spread_ps, spec_l2Spread_rs, funF (spec_l2Spread_G N) tab [spec_l2Spread_l0_s N, spec_l2Spread_l1_s N] Try.f99 spec_l2Spread_ps spec_l2Spread_rs⟩ := congrArg (FSum.mk spec_l2Spread_ps spec_l2Spread_rs) (funext (spec_l2Spread_run N))
  rw [e]
  exact fun_ok (c := spec_l2Spread_code) progOk (spec_l2Spread_gok N) (draw_ok progOk (spec_l2Spread_gok N)) Try.call99 Try.func99 (by kernel_rfl) (lsOk_at (L := [spec_l2Spread_l0_s N, spec_l2Spread_l1_s N]) ⟨spec_l2Spread_l0_ok N, spec_l2Spread_l1_ok N, trivial⟩) (by kernel_rfl) (by kernel_rfl) (by kernel_rfl) (by kernel_rfl) (by kernel_rfl)

/-! ### spec_l2Walk -/
abbrev spec_l2Walk_ps : List (PV.Mode × Ty) := [(.ro, QLLILQII), (.ro, I), (.ro, I)]
abbrev spec_l2Walk_rs : List (Bool × Ty) := [(true, LI)]
noncomputable def spec_l2Walk_G (N : Nat) : GTab := gOf [(98, spec_l2Lists_S N), (99, spec_l2Spread_S N)]
theorem spec_l2Walk_gok (N : Nat) : GOk Try.prog (spec_l2Walk_G N) := gOf_ok ⟨spec_l2Lists_pc N, spec_l2Spread_pc N, trivial⟩
noncomputable def spec_l2Walk_code : Code := (Try.f111.body).getD .skip
noncomputable def spec_l2Walk_l0_0_sh : Sh := ⟨[(1, .one (.ro I)), (2, .one (.ro I)), (7, .one (.ref 0)), (8, .one (.ref 1)), (9, .one (.ref 2)), (10, .one (.ro I))], [.sl 43 LI .deep, .sl 3 I .own, .sl 3 I .own]⟩
noncomputable def spec_l2Walk_l0_0_ex : List (Ex × Sh) := [(.exit 2, ⟨[(1, .one (.ro I)), (2, .one (.ro I)), (7, .one (.ref 0)), (8, .one (.ref 1)), (9, .one (.ref 2)), (10, .one (.ro I))], [.sl 43 LI .deep, .sl 3 I .own, .sl 3 I .own]⟩)]
noncomputable def spec_l2Walk_l0_0 {R : Type} (N : Nat) (k0 : Int → Int → Int → (List (List Int)) → (List Int) → (List Int) → Option R) : Nat → Int → Int → Int → (List (List Int)) → (List Int) → (List Int) → Option R
  | 0, _, _, _, _, _, _ => none
  | K + 1, i2, j2, kv, o3, o4, o5 =>
    (chk (inb o3 i2)
      (chk (inb (rdL o3 i2) kv)
      (chk (inb o4 (rdI (rdL o3 i2) kv))
      (chk (inb o4 i2)
      (br (ine (rdI o4 (rdI (rdL o3 i2) kv)) (IntKind.i64.wrap ((rdI o4 i2) - 1)))
      (spec_l2Walk_l0_0 N k0 K i2 j2 (IntKind.i64.wrap (kv + 1)) o3 o4 o5)
      (k0 i2 j2 kv o3 o4 o5))))))
noncomputable def spec_l2Walk_l0_0_again {R : Type} (N : Nat) (ks : (j : Nat) → ((spec_l2Walk_l0_0_ex.getD j (.ret, Sh.none)).2).T → Option R) (k : Nat) (x : spec_l2Walk_l0_0_sh.T) : Option R :=
  spec_l2Walk_l0_0 N (fun y0 y1 y2 y3 y4 y5 => ks 0 ((y0, y1, (), (), (), y2, ()), (y3, y4, y5, ()))) k x.1.1 x.1.2.1 x.1.2.2.2.2.2.1 x.2.1 x.2.2.1 x.2.2.2.1
noncomputable def spec_l2Walk_l0_0_s (N : Nat) : LSum := ⟨spec_l2Walk_l0_0_sh, spec_l2Walk_l0_0_ex, fun x ks => spec_l2Walk_l0_0_again N ks N x⟩
theorem spec_l2Walk_l0_0_step (N : Nat) (R : Type) (k : Nat) (x : spec_l2Walk_l0_0_sh.T) (ks : (j : Nat) → ((spec_l2Walk_l0_0_ex.getD j (.ret, Sh.none)).2).T → Option R) : spec_l2Walk_l0_0_again N ks (k + 1) x = roundF (spec_l2Walk_G N) tab [] (loopAt (loopAt spec_l2Walk_code 0) 0) spec_l2Walk_l0_0_sh spec_l2Walk_l0_0_ex (fun y => spec_l2Walk_l0_0_again N ks k y) ks x := by kernel_rfl
theorem spec_l2Walk_l0_0_ok (N : Nat) : LoopOk Try.prog Try.f111.ntmps (spec_l2Walk_l0_0_s N) (loopAt (loopAt spec_l2Walk_code 0) 0) :=
  loop_ok (l := spec_l2Walk_l0_0_s N) progOk (spec_l2Walk_gok N) (draw_ok progOk (spec_l2Walk_gok N)) (fun R k x ks => spec_l2Walk_l0_0_again N ks k x) (fun _ _ _ => rfl) (fun R k x ks => spec_l2Walk_l0_0_step N R k x ks) (fun R x ks r h => ⟨N, h⟩) (lsOk_at (L := []) trivial) (by kernel_rfl) (by kernel_rfl)
noncomputable def spec_l2Walk_l0_sh : Sh := ⟨[(1, .one (.ro I)), (2, .one (.ro I)), (7, .one (.ref 0)), (8, .one (.ref 1)), (9, .one (.ref 2))], [.sl 43 LI .deep, .sl 3 I .own, .sl 3 I .own]⟩
noncomputable def spec_l2Walk_l0_ex : List (Ex × Sh) := [(.exit 0, ⟨[(9, .one (.ref 0))], [.sl 3 I .own]⟩)]
noncomputable def spec_l2Walk_l0 {R : Type} (N : Nat) (k0 : (List Int) → Option R) : Nat → Int → Int → (List (List Int)) → (List Int) → (List Int) → Option R
  | 0, _, _, _, _, _ => none
  | K + 1, i1, j1, o, o1, o2 =>
    (br (ine i1 j1)
      (spec_l2Walk_l0_0 N (fun i2 j2 kv o3 o4 o5 => (chk (inb o3 i2)
        (chk (inb (rdL o3 i2) kv)
        (chk (room o5 [(rdI (rdL o3 i2) kv)])
        (spec_l2Walk_l0 N k0 K (rdI (rdL o3 i2) kv) j2 o3 o4 (tApp o5 [(rdI (rdL o3 i2) kv)])))))) N i1 j1 0 o o1 o2)
      (k0 o2))
noncomputable def spec_l2Walk_l0_again {R : Type} (N : Nat) (ks : (j : Nat) → ((spec_l2Walk_l0_ex.getD j (.ret, Sh.none)).2).T → Option R) (k : Nat) (x : spec_l2Walk_l0_sh.T) : Option R :=
  spec_l2Walk_l0 N (fun y0 => ks 0 (((), ()), (y0, ()))) k x.1.1 x.1.2.1 x.2.1 x.2.2.1 x.2.2.2.1
noncomputable def spec_l2Walk_l0_s (N : Nat) : LSum := ⟨spec_l2Walk_l0_sh, spec_l2Walk_l0_ex, fun x ks => spec_l2Walk_l0_again N ks N x⟩
theorem spec_l2Walk_l0_step (N : Nat) (R : Type) (k : Nat) (x : spec_l2Walk_l0_sh.T) (ks : (j : Nat) → ((spec_l2Walk_l0_ex.getD j (.ret, Sh.none)).2).T → Option R) : spec_l2Walk_l0_again N ks (k + 1) x = roundF (spec_l2Walk_G N) tab [spec_l2Walk_l0_0_s N] (loopAt spec_l2Walk_code 0) spec_l2Walk_l0_sh spec_l2Walk_l0_ex (fun y => spec_l2Walk_l0_again N ks k y) ks x := by kernel_rfl
theorem spec_l2Walk_l0_ok (N : Nat) : LoopOk Try.prog Try.f111.ntmps (spec_l2Walk_l0_s N) (loopAt spec_l2Walk_code 0) :=
  loop_ok (l := spec_l2Walk_l0_s N) progOk (spec_l2Walk_gok N) (draw_ok progOk (spec_l2Walk_gok N)) (fun R k x ks => spec_l2Walk_l0_again N ks k x) (fun _ _ _ => rfl) (fun R k x ks => spec_l2Walk_l0_step N R k x ks) (fun R x ks r h => ⟨N, h⟩) (lsOk_at (L := [spec_l2Walk_l0_0_s N]) ⟨spec_l2Walk_l0_0_ok N, trivial⟩) (by kernel_rfl) (by kernel_rfl)
noncomputable def spec_l2Walk (N : Nat) (x : ((List (List Int)) × (List (Int × Int)))) (i : Int) (j : Int) : Option (((List Int) × Unit) × (Unit)) :=
  ((spec_l2Lists N (x.1, x.2)).bind fun r =>
    ((spec_l2Spread N r.1.1 j).bind fun r1 =>
      (chk (inb r1.1.1 i)
        (br (ilt (rdI r1.1.1 i) 0)
        (some (([], ()), ()))
        (spec_l2Walk_l0 N (fun o => some ((o, ()), ())) N i j r.1.1 r1.1.1 [i])))))
noncomputable def spec_l2Walk_S (N : Nat) : FSum := ⟨spec_l2Walk_ps, spec_l2Walk_rs, fun x => spec_l2Walk N x.1 x.2.1 x.2.2.1⟩
theorem spec_l2Walk_run (N : Nat) (x : argsT spec_l2Walk_ps) : spec_l2Walk N x.1 x.2.1 x.2.2.1 = funF (spec_l2Walk_G N) tab [spec_l2Walk_l0_s N] Try.f111 spec_l2Walk_ps spec_l2Walk_rs x := by kernel_rfl
theorem spec_l2Walk_pc (N : Nat) : PC Try.prog 111 (spec_l2Walk_S N) := by
  have e : spec_l2Walk_S N = ⟨spec_l2Walk_ps, spec_l2Walk_rs, funF (spec_l2Walk_G N) tab [spec_l2Walk_l0_s N] Try.f111 spec_l2Walk_ps spec_l2Walk_rs⟩ := congrArg (FSum.mk spec_l2Walk_ps spec_l2Walk_rs) (funext (spec_l2Walk_run N))
  rw [e]
  exact fun_ok (c := spec_l2Walk_code) progOk (spec_l2Walk_gok N) (draw_ok progOk (spec_l2Walk_gok N)) Try.call111 Try.func111 (by kernel_rfl) (lsOk_at (L := [spec_l2Walk_l0_s N]) ⟨spec_l2Walk_l0_ok N, trivial⟩) (by kernel_rfl) (by kernel_rfl) (by kernel_rfl) (by kernel_rfl) (by kernel_rfl)

/-! ### spec_l1Own -/
abbrev spec_l1Own_ps : List (PV.Mode × Ty) := [(.ro, LI)]
abbrev spec_l1Own_rs : List (Bool × Ty) := [(true, LI)]
noncomputable def spec_l1Own_G (N : Nat) : GTab := gOf []
theorem spec_l1Own_gok (N : Nat) : GOk Try.prog (spec_l1Own_G N) := gOf_ok trivial
noncomputable def spec_l1Own_code : Code := (Try.f124.body).getD .skip
noncomputable def spec_l1Own (N : Nat) (l : (List Int)) : Option (((List Int) × Unit) × (Unit)) :=
  (chk (room (α := Int) (β := Int) [] l)
    (some (((tApp [] l), ()), ())))
noncomputable def spec_l1Own_S (N : Nat) : FSum := ⟨spec_l1Own_ps, spec_l1Own_rs, fun x => spec_l1Own N x.1⟩
theorem spec_l1Own_run (N : Nat) (x : argsT spec_l1Own_ps) : spec_l1Own N x.1 = funF (spec_l1Own_G N) tab [] Try.f124 spec_l1Own_ps spec_l1Own_rs x := by kernel_rfl
theorem spec_l1Own_pc (N : Nat) : PC Try.prog 124 (spec_l1Own_S N) := by
  have e : spec_l1Own_S N = ⟨spec_l1Own_ps, spec_l1Own_rs, funF (spec_l1Own_G N) tab [] Try.f124 spec_l1Own_ps spec_l1Own_rs⟩ := congrArg (FSum.mk spec_l1Own_ps spec_l1Own_rs) (funext (spec_l1Own_run N))
  rw [e]
  exact fun_ok (c := spec_l1Own_code) progOk (spec_l1Own_gok N) (draw_ok progOk (spec_l1Own_gok N)) Try.call124 Try.func124 (by kernel_rfl) (lsOk_at (L := []) trivial) (by kernel_rfl) (by kernel_rfl) (by kernel_rfl) (by kernel_rfl) (by kernel_rfl)

/-! ### spec_l4Named -/
abbrev spec_l4Named_ps : List (PV.Mode × Ty) := [(.ro, QLLILQII), (.ro, LI)]
abbrev spec_l4Named_rs : List (Bool × Ty) := [(true, LLI)]
noncomputable def spec_l4Named_G (N : Nat) : GTab := gOf [(124, spec_l1Own_S N)]
theorem spec_l4Named_gok (N : Nat) : GOk Try.prog (spec_l4Named_G N) := gOf_ok ⟨spec_l1Own_pc N, trivial⟩
noncomputable def spec_l4Named_code : Code := (Try.f110.body).getD .skip
noncomputable def spec_l4Named_l0_sh : Sh := ⟨[(1, .one (.ro LI)), (2, .one (.adr 0 0)), (5, .one (.ref 1)), (6, .one (.ro I))], [.box [.ro LLI, .ro LQII], .sl 43 LI .deep]⟩
noncomputable def spec_l4Named_l0_ex : List (Ex × Sh) := [(.exit 0, ⟨[(5, .one (.ref 0))], [.sl 43 LI .deep]⟩)]
noncomputable def spec_l4Named_l0 {R : Type} (N : Nat) (k0 : (List (List Int)) → Option R) : Nat → (List Int) → Int → (List (List Int)) → (List (Int × Int)) → (List (List Int)) → Option R
  | 0, _, _, _, _, _ => none
  | K + 1, walk1, i, o, o1, o2 =>
    (br (ilt i (tLen walk1))
      ((chk (inb walk1 i)
        (chk (inb o (rdI walk1 i))
        ((spec_l1Own N (rdL o (rdI walk1 i))).bind fun r =>
        (chk (room o2 [r.1.1])
          (spec_l4Named_l0 N k0 K walk1 (IntKind.i64.wrap (i + 1)) o o1 (tApp o2 [r.1.1])))))))
      (k0 o2))
noncomputable def spec_l4Named_l0_again {R : Type} (N : Nat) (ks : (j : Nat) → ((spec_l4Named_l0_ex.getD j (.ret, Sh.none)).2).T → Option R) (k : Nat) (x : spec_l4Named_l0_sh.T) : Option R :=
  spec_l4Named_l0 N (fun y0 => ks 0 (((), ()), (y0, ()))) k x.1.1 x.1.2.2.2.1 x.2.1.1 x.2.1.2.1 x.2.2.1
noncomputable def spec_l4Named_l0_s (N : Nat) : LSum := ⟨spec_l4Named_l0_sh, spec_l4Named_l0_ex, fun x ks => spec_l4Named_l0_again N ks N x⟩
theorem spec_l4Named_l0_step (N : Nat) (R : Type) (k : Nat) (x : spec_l4Named_l0_sh.T) (ks : (j : Nat) → ((spec_l4Named_l0_ex.getD j (.ret, Sh.none)).2).T → Option R) : spec_l4Named_l0_again N ks (k + 1) x = roundF (spec_l4Named_G N) tab [] (loopAt spec_l4Named_code 0) spec_l4Named_l0_sh spec_l4Named_l0_ex (fun y => spec_l4Named_l0_again N ks k y) ks x := by kernel_rfl
theorem spec_l4Named_l0_ok (N : Nat) : LoopOk Try.prog Try.f110.ntmps (spec_l4Named_l0_s N) (loopAt spec_l4Named_code 0) :=
  loop_ok (l := spec_l4Named_l0_s N) progOk (spec_l4Named_gok N) (draw_ok progOk (spec_l4Named_gok N)) (fun R k x ks => spec_l4Named_l0_again N ks k x) (fun _ _ _ => rfl) (fun R k x ks => spec_l4Named_l0_step N R k x ks) (fun R x ks r h => ⟨N, h⟩) (lsOk_at (L := []) trivial) (by kernel_rfl) (by kernel_rfl)
noncomputable def spec_l4Named (N : Nat) (x : ((List (List Int)) × (List (Int × Int)))) (walk : (List Int)) : Option (((List (List Int)) × Unit) × (Unit)) :=
  spec_l4Named_l0 N (fun o => some ((o, ()), ())) N walk 0 x.1 x.2 []
noncomputable def spec_l4Named_S (N : Nat) : FSum := ⟨spec_l4Named_ps, spec_l4Named_rs, fun x => spec_l4Named N x.1 x.2.1⟩
theorem spec_l4Named_run (N : Nat) (x : argsT spec_l4Named_ps) : spec_l4Named N x.1 x.2.1 = funF (spec_l4Named_G N) tab [spec_l4Named_l0_s N] Try.f110 spec_l4Named_ps spec_l4Named_rs x := by kernel_rfl
theorem spec_l4Named_pc (N : Nat) : PC Try.prog 110 (spec_l4Named_S N) := by
  have e : spec_l4Named_S N = ⟨spec_l4Named_ps, spec_l4Named_rs, funF (spec_l4Named_G N) tab [spec_l4Named_l0_s N] Try.f110 spec_l4Named_ps spec_l4Named_rs⟩ := congrArg (FSum.mk spec_l4Named_ps spec_l4Named_rs) (funext (spec_l4Named_run N))
  rw [e]
  exact fun_ok (c := spec_l4Named_code) progOk (spec_l4Named_gok N) (draw_ok progOk (spec_l4Named_gok N)) Try.call110 Try.func110 (by kernel_rfl) (lsOk_at (L := [spec_l4Named_l0_s N]) ⟨spec_l4Named_l0_ok N, trivial⟩) (by kernel_rfl) (by kernel_rfl) (by kernel_rfl) (by kernel_rfl) (by kernel_rfl)

/-! ### spec_l6Way -/
abbrev spec_l6Way_ps : List (PV.Mode × Ty) := [(.ro, QILLI), (.ro, LI), (.ro, LI)]
abbrev spec_l6Way_rs : List (Bool × Ty) := [(true, LLI)]
noncomputable def spec_l6Way_G (N : Nat) : GTab := gOf [(109, spec_l6Solutions_S N), (108, spec_l6Space_S N), (91, spec_l2Index_S N), (111, spec_l2Walk_S N), (110, spec_l4Named_S N)]
theorem spec_l6Way_gok (N : Nat) : GOk Try.prog (spec_l6Way_G N) := gOf_ok ⟨spec_l6Solutions_pc N, spec_l6Space_pc N, spec_l2Index_pc N, spec_l2Walk_pc N, spec_l4Named_pc N, trivial⟩
noncomputable def spec_l6Way_code : Code := (Try.f64.body).getD .skip
noncomputable def spec_l6Way (N : Nat) (f : (Int × (List (List Int)))) (a : (List Int)) (b : (List Int)) : Option (((List (List Int)) × Unit) × (Unit)) :=
  ((spec_l6Solutions N (f.1, f.2)).bind fun r =>
    ((spec_l6Space N r.1.1).bind fun r1 =>
      ((spec_l2Index N (r1.1.1.1, r1.1.1.2) a).bind fun r2 =>
        ((spec_l2Index N (r1.1.1.1, r1.1.1.2) b).bind fun r3 =>
          ((spec_l2Walk N (r1.1.1.1, r1.1.1.2) r2.1.1 r3.1.1).bind fun r4 =>
            ((spec_l4Named N (r1.1.1.1, r1.1.1.2) r4.1.1).bind fun r5 =>
              some ((r5.1.1, ()), ())))))))
noncomputable def spec_l6Way_S (N : Nat) : FSum := ⟨spec_l6Way_ps, spec_l6Way_rs, fun x => spec_l6Way N x.1 x.2.1 x.2.2.1⟩
theorem spec_l6Way_run (N : Nat) (x : argsT spec_l6Way_ps) : spec_l6Way N x.1 x.2.1 x.2.2.1 = funF (spec_l6Way_G N) tab [] Try.f64 spec_l6Way_ps spec_l6Way_rs x := by kernel_rfl
theorem spec_l6Way_pc (N : Nat) : PC Try.prog 64 (spec_l6Way_S N) := by
  have e : spec_l6Way_S N = ⟨spec_l6Way_ps, spec_l6Way_rs, funF (spec_l6Way_G N) tab [] Try.f64 spec_l6Way_ps spec_l6Way_rs⟩ := congrArg (FSum.mk spec_l6Way_ps spec_l6Way_rs) (funext (spec_l6Way_run N))
  rw [e]
  exact fun_ok (c := spec_l6Way_code) progOk (spec_l6Way_gok N) (draw_ok progOk (spec_l6Way_gok N)) Try.call64 Try.func64 (by kernel_rfl) (lsOk_at (L := []) trivial) (by kernel_rfl) (by kernel_rfl) (by kernel_rfl) (by kernel_rfl) (by kernel_rfl)
end Go.Proofs.Ytgelipdkheahdaa
