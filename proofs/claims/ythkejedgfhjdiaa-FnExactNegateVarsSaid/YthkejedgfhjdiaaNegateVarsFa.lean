/- Functions of the program as functions on data. -/
import Derived.Test.YthkejedgfhjdiaaNegateVarsTa
set_option linter.all false
namespace Go.Proofs.Ythkejedgfhjdiaa
open Go Go.PV
/-! ### laws_szIntS -/
noncomputable def laws_szIntS_G (N : Nat) : GTab := gOf []
theorem laws_szIntS_gok (N : Nat) : GOk Try.prog (laws_szIntS_G N) := gOf_ok trivial
noncomputable def laws_szIntS_code : Code := (Try.f60.body).getD .skip
noncomputable def laws_szIntS (N : Nat) (a : (List Int)) (left : Int) : Option ((Int × Unit) × (Unit)) :=
  (br (ilt (IntKind.i64.wrap (left - (tLen a))) 0)
    (some (((-1), ()), ()))
    (some (((IntKind.i64.wrap (left - (tLen a))), ()), ())))
abbrev laws_szIntS_ps : List (PV.Mode × Ty) := [(.ro, LI), (.ro, I)]
abbrev laws_szIntS_rs : List (Bool × Ty) := [(true, I)]
noncomputable def laws_szIntS_S (N : Nat) : FSum := ⟨laws_szIntS_ps, laws_szIntS_rs, fun x => laws_szIntS N x.1 x.2.1⟩
theorem laws_szIntS_run (N : Nat) (x : argsT laws_szIntS_ps) : laws_szIntS N x.1 x.2.1 = funF (laws_szIntS_G N) tab [] Try.f60 laws_szIntS_ps laws_szIntS_rs x := by kernel_rfl
theorem laws_szIntS_pc (N : Nat) : PC Try.prog 60 (laws_szIntS_S N) := by
  have e : laws_szIntS_S N = ⟨laws_szIntS_ps, laws_szIntS_rs, funF (laws_szIntS_G N) tab [] Try.f60 laws_szIntS_ps laws_szIntS_rs⟩ := congrArg (FSum.mk laws_szIntS_ps laws_szIntS_rs) (funext (laws_szIntS_run N))
  rw [e]
  exact fun_ok (c := laws_szIntS_code) progOk (laws_szIntS_gok N) (draw_ok progOk (laws_szIntS_gok N)) Try.call60 Try.func60 (by kernel_rfl) (lsOk_at (L := []) trivial) (by kernel_rfl) (by kernel_rfl) (by kernel_rfl) (by kernel_rfl) (by kernel_rfl)

/-! ### laws_szIntSS -/
noncomputable def laws_szIntSS_G (N : Nat) : GTab := gOf [(60, laws_szIntS_S N)]
theorem laws_szIntSS_gok (N : Nat) : GOk Try.prog (laws_szIntSS_G N) := gOf_ok ⟨laws_szIntS_pc N, trivial⟩
noncomputable def laws_szIntSS_code : Code := (Try.f15.body).getD .skip
noncomputable def laws_szIntSS_l0_sh : Sh := ⟨[(0, .one (.ro LLI)), (1, .one (.ro I)), (5, .one (.ro I))], []⟩
noncomputable def laws_szIntSS_l0_ex : List (Ex × Sh) := [(.ret, ⟨[(4, .one (.ro I))], []⟩), (.exit 0, ⟨[(1, .one (.ro I))], []⟩)]
noncomputable def laws_szIntSS_l0 {R : Type} (N : Nat) (k0 : Int → Option R) (k1 : Int → Option R) : Nat → (List (List Int)) → Int → Int → Option R
  | 0, _, _, _ => none
  | K + 1, a1, left1, i =>
    (br (ilt i (tLen a1))
      ((chk (inb a1 i)
        ((laws_szIntS N (rdL a1 i) left1).bind fun r =>
        (br (ilt r.1.1 0)
          (k0 (-1))
          (laws_szIntSS_l0 N k0 k1 K a1 r.1.1 (IntKind.i64.wrap (i + 1)))))))
      (k1 left1))
noncomputable def laws_szIntSS_l0_again {R : Type} (N : Nat) (ks : (j : Nat) → ((laws_szIntSS_l0_ex.getD j (.ret, Sh.none)).2).T → Option R) (k : Nat) (x : laws_szIntSS_l0_sh.T) : Option R :=
  laws_szIntSS_l0 N (fun y0 => ks 0 ((y0, ()), ())) (fun y0 => ks 1 ((y0, ()), ())) k x.1.1 x.1.2.1 x.1.2.2.1
noncomputable def laws_szIntSS_l0_s (N : Nat) : LSum := ⟨laws_szIntSS_l0_sh, laws_szIntSS_l0_ex, fun x ks => laws_szIntSS_l0_again N ks N x⟩
theorem laws_szIntSS_l0_step (N : Nat) (R : Type) (k : Nat) (x : laws_szIntSS_l0_sh.T) (ks : (j : Nat) → ((laws_szIntSS_l0_ex.getD j (.ret, Sh.none)).2).T → Option R) : laws_szIntSS_l0_again N ks (k + 1) x = roundF (laws_szIntSS_G N) tab [] (loopAt laws_szIntSS_code 0) laws_szIntSS_l0_sh laws_szIntSS_l0_ex (fun y => laws_szIntSS_l0_again N ks k y) ks x := by kernel_rfl
theorem laws_szIntSS_l0_ok (N : Nat) : LoopOk Try.prog Try.f15.ntmps (laws_szIntSS_l0_s N) (loopAt laws_szIntSS_code 0) :=
  loop_ok (l := laws_szIntSS_l0_s N) progOk (laws_szIntSS_gok N) (draw_ok progOk (laws_szIntSS_gok N)) (fun R k x ks => laws_szIntSS_l0_again N ks k x) (fun _ _ _ => rfl) (fun R k x ks => laws_szIntSS_l0_step N R k x ks) (fun R x ks r h => ⟨N, h⟩) (lsOk_at (L := []) trivial) (by kernel_rfl) (by kernel_rfl)
noncomputable def laws_szIntSS (N : Nat) (a : (List (List Int))) (left : Int) : Option ((Int × Unit) × (Unit)) :=
  (br (ilt (IntKind.i64.wrap (left - (tLen a))) 0)
    (some (((-1), ()), ()))
    (laws_szIntSS_l0 N (fun x => some ((x, ()), ())) (fun left1 => some ((left1, ()), ())) N a (IntKind.i64.wrap (left - (tLen a))) 0))
abbrev laws_szIntSS_ps : List (PV.Mode × Ty) := [(.ro, LLI), (.ro, I)]
abbrev laws_szIntSS_rs : List (Bool × Ty) := [(true, I)]
noncomputable def laws_szIntSS_S (N : Nat) : FSum := ⟨laws_szIntSS_ps, laws_szIntSS_rs, fun x => laws_szIntSS N x.1 x.2.1⟩
theorem laws_szIntSS_run (N : Nat) (x : argsT laws_szIntSS_ps) : laws_szIntSS N x.1 x.2.1 = funF (laws_szIntSS_G N) tab [laws_szIntSS_l0_s N] Try.f15 laws_szIntSS_ps laws_szIntSS_rs x := by kernel_rfl
theorem laws_szIntSS_pc (N : Nat) : PC Try.prog 15 (laws_szIntSS_S N) := by
  have e : laws_szIntSS_S N = ⟨laws_szIntSS_ps, laws_szIntSS_rs, funF (laws_szIntSS_G N) tab [laws_szIntSS_l0_s N] Try.f15 laws_szIntSS_ps laws_szIntSS_rs⟩ := congrArg (FSum.mk laws_szIntSS_ps laws_szIntSS_rs) (funext (laws_szIntSS_run N))
  rw [e]
  exact fun_ok (c := laws_szIntSS_code) progOk (laws_szIntSS_gok N) (draw_ok progOk (laws_szIntSS_gok N)) Try.call15 Try.func15 (by kernel_rfl) (lsOk_at (L := [laws_szIntSS_l0_s N]) ⟨laws_szIntSS_l0_ok N, trivial⟩) (by kernel_rfl) (by kernel_rfl) (by kernel_rfl) (by kernel_rfl) (by kernel_rfl)

/-! ### laws_szFormula -/
noncomputable def laws_szFormula_G (N : Nat) : GTab := gOf [(15, laws_szIntSS_S N)]
theorem laws_szFormula_gok (N : Nat) : GOk Try.prog (laws_szFormula_G N) := gOf_ok ⟨laws_szIntSS_pc N, trivial⟩
noncomputable def laws_szFormula_code : Code := (Try.f52.body).getD .skip
noncomputable def laws_szFormula (N : Nat) (a : (Int × (List (List Int)))) (left : Int) : Option ((Int × Unit) × (Unit)) :=
  ((laws_szIntSS N a.2 left).bind fun r =>
    (br (ilt r.1.1 0)
      (some (((-1), ()), ()))
      (some ((r.1.1, ()), ()))))
abbrev laws_szFormula_ps : List (PV.Mode × Ty) := [(.ro, QILLI), (.ro, I)]
abbrev laws_szFormula_rs : List (Bool × Ty) := [(true, I)]
noncomputable def laws_szFormula_S (N : Nat) : FSum := ⟨laws_szFormula_ps, laws_szFormula_rs, fun x => laws_szFormula N x.1 x.2.1⟩
theorem laws_szFormula_run (N : Nat) (x : argsT laws_szFormula_ps) : laws_szFormula N x.1 x.2.1 = funF (laws_szFormula_G N) tab [] Try.f52 laws_szFormula_ps laws_szFormula_rs x := by kernel_rfl
theorem laws_szFormula_pc (N : Nat) : PC Try.prog 52 (laws_szFormula_S N) := by
  have e : laws_szFormula_S N = ⟨laws_szFormula_ps, laws_szFormula_rs, funF (laws_szFormula_G N) tab [] Try.f52 laws_szFormula_ps laws_szFormula_rs⟩ := congrArg (FSum.mk laws_szFormula_ps laws_szFormula_rs) (funext (laws_szFormula_run N))
  rw [e]
  exact fun_ok (c := laws_szFormula_code) progOk (laws_szFormula_gok N) (draw_ok progOk (laws_szFormula_gok N)) Try.call52 Try.func52 (by kernel_rfl) (lsOk_at (L := []) trivial) (by kernel_rfl) (by kernel_rfl) (by kernel_rfl) (by kernel_rfl) (by kernel_rfl)

/-! ### laws_toIntS -/
noncomputable def laws_toIntS_G (N : Nat) : GTab := gOf []
theorem laws_toIntS_gok (N : Nat) : GOk Try.prog (laws_toIntS_G N) := gOf_ok trivial
noncomputable def laws_toIntS_code : Code := (Try.f33.body).getD .skip
noncomputable def laws_toIntS_l0_sh : Sh := ⟨[(0, .one (.ro LI)), (3, .one (.ref 0)), (4, .one (.ro I))], [.sl 3 I .own]⟩
noncomputable def laws_toIntS_l0_ex : List (Ex × Sh) := [(.exit 0, ⟨[(3, .one (.ref 0))], [.sl 3 I .own]⟩)]
noncomputable def laws_toIntS_l0 {R : Type} (N : Nat) (k0 : (List Int) → Option R) : Nat → (List Int) → Int → (List Int) → Option R
  | 0, _, _, _ => none
  | K + 1, a1, i, o =>
    (br (ilt i (tLen a1))
      ((chk (inb a1 i)
        (chk (inb o i)
        (laws_toIntS_l0 N k0 K a1 (IntKind.i64.wrap (i + 1)) (tSet o i (rdI a1 i))))))
      (k0 o))
noncomputable def laws_toIntS_l0_again {R : Type} (N : Nat) (ks : (j : Nat) → ((laws_toIntS_l0_ex.getD j (.ret, Sh.none)).2).T → Option R) (k : Nat) (x : laws_toIntS_l0_sh.T) : Option R :=
  laws_toIntS_l0 N (fun y0 => ks 0 (((), ()), (y0, ()))) k x.1.1 x.1.2.2.1 x.2.1
noncomputable def laws_toIntS_l0_s (N : Nat) : LSum := ⟨laws_toIntS_l0_sh, laws_toIntS_l0_ex, fun x ks => laws_toIntS_l0_again N ks N x⟩
theorem laws_toIntS_l0_step (N : Nat) (R : Type) (k : Nat) (x : laws_toIntS_l0_sh.T) (ks : (j : Nat) → ((laws_toIntS_l0_ex.getD j (.ret, Sh.none)).2).T → Option R) : laws_toIntS_l0_again N ks (k + 1) x = roundF (laws_toIntS_G N) tab [] (loopAt laws_toIntS_code 0) laws_toIntS_l0_sh laws_toIntS_l0_ex (fun y => laws_toIntS_l0_again N ks k y) ks x := by kernel_rfl
theorem laws_toIntS_l0_ok (N : Nat) : LoopOk Try.prog Try.f33.ntmps (laws_toIntS_l0_s N) (loopAt laws_toIntS_code 0) :=
  loop_ok (l := laws_toIntS_l0_s N) progOk (laws_toIntS_gok N) (draw_ok progOk (laws_toIntS_gok N)) (fun R k x ks => laws_toIntS_l0_again N ks k x) (fun _ _ _ => rfl) (fun R k x ks => laws_toIntS_l0_step N R k x ks) (fun R x ks r h => ⟨N, h⟩) (lsOk_at (L := []) trivial) (by kernel_rfl) (by kernel_rfl)
noncomputable def laws_toIntS (N : Nat) (a : (List Int)) : Option (((List Int) × Unit) × (Unit)) :=
  (chk (ile 0 (tLen a) && ile (tLen a) (tLen a) && fits (tLen a))
    (laws_toIntS_l0 N (fun o => some ((o, ()), ())) N a 0 (tRep (tLen a) 0)))
abbrev laws_toIntS_ps : List (PV.Mode × Ty) := [(.ro, LI)]
abbrev laws_toIntS_rs : List (Bool × Ty) := [(true, LI)]
noncomputable def laws_toIntS_S (N : Nat) : FSum := ⟨laws_toIntS_ps, laws_toIntS_rs, fun x => laws_toIntS N x.1⟩
theorem laws_toIntS_run (N : Nat) (x : argsT laws_toIntS_ps) : laws_toIntS N x.1 = funF (laws_toIntS_G N) tab [laws_toIntS_l0_s N] Try.f33 laws_toIntS_ps laws_toIntS_rs x := by kernel_rfl
theorem laws_toIntS_pc (N : Nat) : PC Try.prog 33 (laws_toIntS_S N) := by
  have e : laws_toIntS_S N = ⟨laws_toIntS_ps, laws_toIntS_rs, funF (laws_toIntS_G N) tab [laws_toIntS_l0_s N] Try.f33 laws_toIntS_ps laws_toIntS_rs⟩ := congrArg (FSum.mk laws_toIntS_ps laws_toIntS_rs) (funext (laws_toIntS_run N))
  rw [e]
  exact fun_ok (c := laws_toIntS_code) progOk (laws_toIntS_gok N) (draw_ok progOk (laws_toIntS_gok N)) Try.call33 Try.func33 (by kernel_rfl) (lsOk_at (L := [laws_toIntS_l0_s N]) ⟨laws_toIntS_l0_ok N, trivial⟩) (by kernel_rfl) (by kernel_rfl) (by kernel_rfl) (by kernel_rfl) (by kernel_rfl)

/-! ### laws_toIntSS -/
noncomputable def laws_toIntSS_G (N : Nat) : GTab := gOf [(33, laws_toIntS_S N)]
theorem laws_toIntSS_gok (N : Nat) : GOk Try.prog (laws_toIntSS_G N) := gOf_ok ⟨laws_toIntS_pc N, trivial⟩
noncomputable def laws_toIntSS_code : Code := (Try.f17.body).getD .skip
noncomputable def laws_toIntSS_l0_sh : Sh := ⟨[(0, .one (.ro LLI)), (3, .one (.ref 0)), (4, .one (.ro I))], [.sl 33 LI .deep]⟩
noncomputable def laws_toIntSS_l0_ex : List (Ex × Sh) := [(.exit 0, ⟨[(3, .one (.ref 0))], [.sl 33 LI .deep]⟩)]
noncomputable def laws_toIntSS_l0 {R : Type} (N : Nat) (k0 : (List (List Int)) → Option R) : Nat → (List (List Int)) → Int → (List (List Int)) → Option R
  | 0, _, _, _ => none
  | K + 1, a1, i, o =>
    (br (ilt i (tLen a1))
      ((chk (inb a1 i)
        ((laws_toIntS N (rdL a1 i)).bind fun r =>
        (chk (inb o i)
          (laws_toIntSS_l0 N k0 K a1 (IntKind.i64.wrap (i + 1)) (tSet o i r.1.1))))))
      (k0 o))
noncomputable def laws_toIntSS_l0_again {R : Type} (N : Nat) (ks : (j : Nat) → ((laws_toIntSS_l0_ex.getD j (.ret, Sh.none)).2).T → Option R) (k : Nat) (x : laws_toIntSS_l0_sh.T) : Option R :=
  laws_toIntSS_l0 N (fun y0 => ks 0 (((), ()), (y0, ()))) k x.1.1 x.1.2.2.1 x.2.1
noncomputable def laws_toIntSS_l0_s (N : Nat) : LSum := ⟨laws_toIntSS_l0_sh, laws_toIntSS_l0_ex, fun x ks => laws_toIntSS_l0_again N ks N x⟩
theorem laws_toIntSS_l0_step (N : Nat) (R : Type) (k : Nat) (x : laws_toIntSS_l0_sh.T) (ks : (j : Nat) → ((laws_toIntSS_l0_ex.getD j (.ret, Sh.none)).2).T → Option R) : laws_toIntSS_l0_again N ks (k + 1) x = roundF (laws_toIntSS_G N) tab [] (loopAt laws_toIntSS_code 0) laws_toIntSS_l0_sh laws_toIntSS_l0_ex (fun y => laws_toIntSS_l0_again N ks k y) ks x := by kernel_rfl
theorem laws_toIntSS_l0_ok (N : Nat) : LoopOk Try.prog Try.f17.ntmps (laws_toIntSS_l0_s N) (loopAt laws_toIntSS_code 0) :=
  loop_ok (l := laws_toIntSS_l0_s N) progOk (laws_toIntSS_gok N) (draw_ok progOk (laws_toIntSS_gok N)) (fun R k x ks => laws_toIntSS_l0_again N ks k x) (fun _ _ _ => rfl) (fun R k x ks => laws_toIntSS_l0_step N R k x ks) (fun R x ks r h => ⟨N, h⟩) (lsOk_at (L := []) trivial) (by kernel_rfl) (by kernel_rfl)
noncomputable def laws_toIntSS (N : Nat) (a : (List (List Int))) : Option (((List (List Int)) × Unit) × (Unit)) :=
  (chk (ile 0 (tLen a) && ile (tLen a) (tLen a) && fits (tLen a))
    (laws_toIntSS_l0 N (fun o => some ((o, ()), ())) N a 0 (tRep (tLen a) [])))
abbrev laws_toIntSS_ps : List (PV.Mode × Ty) := [(.ro, LLI)]
abbrev laws_toIntSS_rs : List (Bool × Ty) := [(true, LLI)]
noncomputable def laws_toIntSS_S (N : Nat) : FSum := ⟨laws_toIntSS_ps, laws_toIntSS_rs, fun x => laws_toIntSS N x.1⟩
theorem laws_toIntSS_run (N : Nat) (x : argsT laws_toIntSS_ps) : laws_toIntSS N x.1 = funF (laws_toIntSS_G N) tab [laws_toIntSS_l0_s N] Try.f17 laws_toIntSS_ps laws_toIntSS_rs x := by kernel_rfl
theorem laws_toIntSS_pc (N : Nat) : PC Try.prog 17 (laws_toIntSS_S N) := by
  have e : laws_toIntSS_S N = ⟨laws_toIntSS_ps, laws_toIntSS_rs, funF (laws_toIntSS_G N) tab [laws_toIntSS_l0_s N] Try.f17 laws_toIntSS_ps laws_toIntSS_rs⟩ := congrArg (FSum.mk laws_toIntSS_ps laws_toIntSS_rs) (funext (laws_toIntSS_run N))
  rw [e]
  exact fun_ok (c := laws_toIntSS_code) progOk (laws_toIntSS_gok N) (draw_ok progOk (laws_toIntSS_gok N)) Try.call17 Try.func17 (by kernel_rfl) (lsOk_at (L := [laws_toIntSS_l0_s N]) ⟨laws_toIntSS_l0_ok N, trivial⟩) (by kernel_rfl) (by kernel_rfl) (by kernel_rfl) (by kernel_rfl) (by kernel_rfl)

/-! ### laws_toFormula -/
noncomputable def laws_toFormula_G (N : Nat) : GTab := gOf [(17, laws_toIntSS_S N)]
theorem laws_toFormula_gok (N : Nat) : GOk Try.prog (laws_toFormula_G N) := gOf_ok ⟨laws_toIntSS_pc N, trivial⟩
noncomputable def laws_toFormula_code : Code := (Try.f54.body).getD .skip
noncomputable def laws_toFormula (N : Nat) (a : (Int × (List (List Int)))) : Option (((Int × (List (List Int))) × Unit) × (Unit)) :=
  ((laws_toIntSS N a.2).bind fun r =>
    some (((a.1, r.1.1), ()), ()))
abbrev laws_toFormula_ps : List (PV.Mode × Ty) := [(.ro, QILLI)]
abbrev laws_toFormula_rs : List (Bool × Ty) := [(true, QILLI)]
noncomputable def laws_toFormula_S (N : Nat) : FSum := ⟨laws_toFormula_ps, laws_toFormula_rs, fun x => laws_toFormula N x.1⟩
theorem laws_toFormula_run (N : Nat) (x : argsT laws_toFormula_ps) : laws_toFormula N x.1 = funF (laws_toFormula_G N) tab [] Try.f54 laws_toFormula_ps laws_toFormula_rs x := by kernel_rfl
theorem laws_toFormula_pc (N : Nat) : PC Try.prog 54 (laws_toFormula_S N) := by
  have e : laws_toFormula_S N = ⟨laws_toFormula_ps, laws_toFormula_rs, funF (laws_toFormula_G N) tab [] Try.f54 laws_toFormula_ps laws_toFormula_rs⟩ := congrArg (FSum.mk laws_toFormula_ps laws_toFormula_rs) (funext (laws_toFormula_run N))
  rw [e]
  exact fun_ok (c := laws_toFormula_code) progOk (laws_toFormula_gok N) (draw_ok progOk (laws_toFormula_gok N)) Try.call54 Try.func54 (by kernel_rfl) (lsOk_at (L := []) trivial) (by kernel_rfl) (by kernel_rfl) (by kernel_rfl) (by kernel_rfl) (by kernel_rfl)

/-! ### spec_l1In -/
noncomputable def spec_l1In_G (N : Nat) : GTab := gOf []
theorem spec_l1In_gok (N : Nat) : GOk Try.prog (spec_l1In_G N) := gOf_ok trivial
noncomputable def spec_l1In_code : Code := (Try.f61.body).getD .skip
noncomputable def spec_l1In (N : Nat) (x : Int) (a : Int) (b : Int) : Option ((Bool × Unit) × (Unit)) :=
  (br (ile a x)
    (some (((ile x b), ()), ()))
    (some ((false, ()), ())))
abbrev spec_l1In_ps : List (PV.Mode × Ty) := [(.ro, I), (.ro, I), (.ro, I)]
abbrev spec_l1In_rs : List (Bool × Ty) := [(true, .bool)]
noncomputable def spec_l1In_S (N : Nat) : FSum := ⟨spec_l1In_ps, spec_l1In_rs, fun x => spec_l1In N x.1 x.2.1 x.2.2.1⟩
theorem spec_l1In_run (N : Nat) (x : argsT spec_l1In_ps) : spec_l1In N x.1 x.2.1 x.2.2.1 = funF (spec_l1In_G N) tab [] Try.f61 spec_l1In_ps spec_l1In_rs x := by kernel_rfl
theorem spec_l1In_pc (N : Nat) : PC Try.prog 61 (spec_l1In_S N) := by
  have e : spec_l1In_S N = ⟨spec_l1In_ps, spec_l1In_rs, funF (spec_l1In_G N) tab [] Try.f61 spec_l1In_ps spec_l1In_rs⟩ := congrArg (FSum.mk spec_l1In_ps spec_l1In_rs) (funext (spec_l1In_run N))
  rw [e]
  exact fun_ok (c := spec_l1In_code) progOk (spec_l1In_gok N) (draw_ok progOk (spec_l1In_gok N)) Try.call61 Try.func61 (by kernel_rfl) (lsOk_at (L := []) trivial) (by kernel_rfl) (by kernel_rfl) (by kernel_rfl) (by kernel_rfl) (by kernel_rfl)

/-! ### spec_l6Literal -/
noncomputable def spec_l6Literal_G (N : Nat) : GTab := gOf [(61, spec_l1In_S N)]
theorem spec_l6Literal_gok (N : Nat) : GOk Try.prog (spec_l6Literal_G N) := gOf_ok ⟨spec_l1In_pc N, trivial⟩
noncomputable def spec_l6Literal_code : Code := (Try.f159.body).getD .skip
noncomputable def spec_l6Literal (N : Nat) (vars : Int) (x : Int) : Option ((Bool × Unit) × (Unit)) :=
  (br (ine x 0)
    (((spec_l1In N x (IntKind.i64.wrap (0 - vars)) vars).bind fun r =>
      some ((r.1.1, ()), ())))
    (some ((false, ()), ())))
abbrev spec_l6Literal_ps : List (PV.Mode × Ty) := [(.ro, I), (.ro, I)]
abbrev spec_l6Literal_rs : List (Bool × Ty) := [(true, .bool)]
noncomputable def spec_l6Literal_S (N : Nat) : FSum := ⟨spec_l6Literal_ps, spec_l6Literal_rs, fun x => spec_l6Literal N x.1 x.2.1⟩
theorem spec_l6Literal_run (N : Nat) (x : argsT spec_l6Literal_ps) : spec_l6Literal N x.1 x.2.1 = funF (spec_l6Literal_G N) tab [] Try.f159 spec_l6Literal_ps spec_l6Literal_rs x := by kernel_rfl
theorem spec_l6Literal_pc (N : Nat) : PC Try.prog 159 (spec_l6Literal_S N) := by
  have e : spec_l6Literal_S N = ⟨spec_l6Literal_ps, spec_l6Literal_rs, funF (spec_l6Literal_G N) tab [] Try.f159 spec_l6Literal_ps spec_l6Literal_rs⟩ := congrArg (FSum.mk spec_l6Literal_ps spec_l6Literal_rs) (funext (spec_l6Literal_run N))
  rw [e]
  exact fun_ok (c := spec_l6Literal_code) progOk (spec_l6Literal_gok N) (draw_ok progOk (spec_l6Literal_gok N)) Try.call159 Try.func159 (by kernel_rfl) (lsOk_at (L := []) trivial) (by kernel_rfl) (by kernel_rfl) (by kernel_rfl) (by kernel_rfl) (by kernel_rfl)

/-! ### spec_l6Good -/
noncomputable def spec_l6Good_G (N : Nat) : GTab := gOf [(61, spec_l1In_S N), (159, spec_l6Literal_S N)]
theorem spec_l6Good_gok (N : Nat) : GOk Try.prog (spec_l6Good_G N) := gOf_ok ⟨spec_l1In_pc N, spec_l6Literal_pc N, trivial⟩
noncomputable def spec_l6Good_code : Code := (Try.f112.body).getD .skip
noncomputable def spec_l6Good_l0_0_sh : Sh := ⟨[(1, .one (.adr 0 0)), (3, .one (.ro I)), (4, .one (.ro I))], [.box [.ro I, .ro LLI]]⟩
noncomputable def spec_l6Good_l0_0_ex : List (Ex × Sh) := [(.ret, ⟨[(2, .one (.ro .bool))], []⟩), (.exit 2, ⟨[(1, .one (.adr 0 0)), (3, .one (.ro I))], [.box [.ro I, .ro LLI]]⟩)]
noncomputable def spec_l6Good_l0_0 {R : Type} (N : Nat) (k0 : Bool → Option R) (k1 : Int → Int → (List (List Int)) → Option R) : Nat → Int → Int → Int → (List (List Int)) → Option R
  | 0, _, _, _, _ => none
  | K + 1, x1, x2, o2, o3 =>
    (chk (inb o3 x1)
      (br (ilt x2 (tLen (rdL o3 x1)))
      ((chk (inb o3 x1)
        (chk (inb (rdL o3 x1) x2)
        ((spec_l6Literal N o2 (rdI (rdL o3 x1) x2)).bind fun r1 =>
        (br (!r1.1.1)
          (k0 false)
          ((br (ilt 0 x2)
            ((chk (inb o3 x1)
              (chk (inb (rdL o3 x1) (IntKind.i64.wrap (x2 - 1)))
              (chk (inb o3 x1)
              (chk (inb (rdL o3 x1) x2)
              (br (ile (rdI (rdL o3 x1) x2) (rdI (rdL o3 x1) (IntKind.i64.wrap (x2 - 1))))
              (k0 false)
              (spec_l6Good_l0_0 N k0 k1 K x1 (IntKind.i64.wrap (x2 + 1)) o2 o3)))))))
            (spec_l6Good_l0_0 N k0 k1 K x1 (IntKind.i64.wrap (x2 + 1)) o2 o3))))))))
      (k1 x1 o2 o3)))
noncomputable def spec_l6Good_l0_0_again {R : Type} (N : Nat) (ks : (j : Nat) → ((spec_l6Good_l0_0_ex.getD j (.ret, Sh.none)).2).T → Option R) (k : Nat) (x : spec_l6Good_l0_0_sh.T) : Option R :=
  spec_l6Good_l0_0 N (fun y0 => ks 0 ((y0, ()), ())) (fun y0 y1 y2 => ks 1 (((), y0, ()), ((y1, y2, ()), ()))) k x.1.2.1 x.1.2.2.1 x.2.1.1 x.2.1.2.1
noncomputable def spec_l6Good_l0_0_s (N : Nat) : LSum := ⟨spec_l6Good_l0_0_sh, spec_l6Good_l0_0_ex, fun x ks => spec_l6Good_l0_0_again N ks N x⟩
theorem spec_l6Good_l0_0_step (N : Nat) (R : Type) (k : Nat) (x : spec_l6Good_l0_0_sh.T) (ks : (j : Nat) → ((spec_l6Good_l0_0_ex.getD j (.ret, Sh.none)).2).T → Option R) : spec_l6Good_l0_0_again N ks (k + 1) x = roundF (spec_l6Good_G N) tab [] (loopAt (loopAt spec_l6Good_code 0) 0) spec_l6Good_l0_0_sh spec_l6Good_l0_0_ex (fun y => spec_l6Good_l0_0_again N ks k y) ks x := by kernel_rfl
theorem spec_l6Good_l0_0_ok (N : Nat) : LoopOk Try.prog Try.f112.ntmps (spec_l6Good_l0_0_s N) (loopAt (loopAt spec_l6Good_code 0) 0) :=
  loop_ok (l := spec_l6Good_l0_0_s N) progOk (spec_l6Good_gok N) (draw_ok progOk (spec_l6Good_gok N)) (fun R k x ks => spec_l6Good_l0_0_again N ks k x) (fun _ _ _ => rfl) (fun R k x ks => spec_l6Good_l0_0_step N R k x ks) (fun R x ks r h => ⟨N, h⟩) (lsOk_at (L := []) trivial) (by kernel_rfl) (by kernel_rfl)
noncomputable def spec_l6Good_l0_sh : Sh := ⟨[(1, .one (.adr 0 0)), (3, .one (.ro I))], [.box [.ro I, .ro LLI]]⟩
noncomputable def spec_l6Good_l0_ex : List (Ex × Sh) := [(.ret, ⟨[(2, .one (.ro .bool))], []⟩), (.exit 0, ⟨[], []⟩)]
noncomputable def spec_l6Good_l0 {R : Type} (N : Nat) (k0 : Bool → Option R) (k1 : Unit → Option R) : Nat → Int → Int → (List (List Int)) → Option R
  | 0, _, _, _ => none
  | K + 1, x, o, o1 =>
    (br (ilt x (tLen o1))
      (spec_l6Good_l0_0 N (fun x1 => k0 x1) (fun x2 o2 o3 => spec_l6Good_l0 N k0 k1 K (IntKind.i64.wrap (x2 + 1)) o2 o3) N x 0 o o1)
      (k1 ()))
noncomputable def spec_l6Good_l0_again {R : Type} (N : Nat) (ks : (j : Nat) → ((spec_l6Good_l0_ex.getD j (.ret, Sh.none)).2).T → Option R) (k : Nat) (x : spec_l6Good_l0_sh.T) : Option R :=
  spec_l6Good_l0 N (fun y0 => ks 0 ((y0, ()), ())) (fun (_ : Unit) => ks 1 ((), ())) k x.1.2.1 x.2.1.1 x.2.1.2.1
noncomputable def spec_l6Good_l0_s (N : Nat) : LSum := ⟨spec_l6Good_l0_sh, spec_l6Good_l0_ex, fun x ks => spec_l6Good_l0_again N ks N x⟩
theorem spec_l6Good_l0_step (N : Nat) (R : Type) (k : Nat) (x : spec_l6Good_l0_sh.T) (ks : (j : Nat) → ((spec_l6Good_l0_ex.getD j (.ret, Sh.none)).2).T → Option R) : spec_l6Good_l0_again N ks (k + 1) x = roundF (spec_l6Good_G N) tab [spec_l6Good_l0_0_s N] (loopAt spec_l6Good_code 0) spec_l6Good_l0_sh spec_l6Good_l0_ex (fun y => spec_l6Good_l0_again N ks k y) ks x := by kernel_rfl
theorem spec_l6Good_l0_ok (N : Nat) : LoopOk Try.prog Try.f112.ntmps (spec_l6Good_l0_s N) (loopAt spec_l6Good_code 0) :=
  loop_ok (l := spec_l6Good_l0_s N) progOk (spec_l6Good_gok N) (draw_ok progOk (spec_l6Good_gok N)) (fun R k x ks => spec_l6Good_l0_again N ks k x) (fun _ _ _ => rfl) (fun R k x ks => spec_l6Good_l0_step N R k x ks) (fun R x ks r h => ⟨N, h⟩) (lsOk_at (L := [spec_l6Good_l0_0_s N]) ⟨spec_l6Good_l0_0_ok N, trivial⟩) (by kernel_rfl) (by kernel_rfl)
noncomputable def spec_l6Good (N : Nat) (c : (Int × (List (List Int)))) : Option ((Bool × Unit) × (Unit)) :=
  ((spec_l1In N c.1 0 6).bind fun r =>
    (br (!r.1.1)
      (some ((false, ()), ()))
      ((br (ilt 64 (tLen c.2))
        (some ((false, ()), ()))
        (spec_l6Good_l0 N (fun x => some ((x, ()), ())) (fun (_ : Unit) => some ((true, ()), ())) N 0 c.1 c.2)))))
abbrev spec_l6Good_ps : List (PV.Mode × Ty) := [(.ro, QILLI)]
abbrev spec_l6Good_rs : List (Bool × Ty) := [(true, .bool)]
noncomputable def spec_l6Good_S (N : Nat) : FSum := ⟨spec_l6Good_ps, spec_l6Good_rs, fun x => spec_l6Good N x.1⟩
theorem spec_l6Good_run (N : Nat) (x : argsT spec_l6Good_ps) : spec_l6Good N x.1 = funF (spec_l6Good_G N) tab [spec_l6Good_l0_s N] Try.f112 spec_l6Good_ps spec_l6Good_rs x := by kernel_rfl
theorem spec_l6Good_pc (N : Nat) : PC Try.prog 112 (spec_l6Good_S N) := by
  have e : spec_l6Good_S N = ⟨spec_l6Good_ps, spec_l6Good_rs, funF (spec_l6Good_G N) tab [spec_l6Good_l0_s N] Try.f112 spec_l6Good_ps spec_l6Good_rs⟩ := congrArg (FSum.mk spec_l6Good_ps spec_l6Good_rs) (funext (spec_l6Good_run N))
  rw [e]
  exact fun_ok (c := spec_l6Good_code) progOk (spec_l6Good_gok N) (draw_ok progOk (spec_l6Good_gok N)) Try.call112 Try.func112 (by kernel_rfl) (lsOk_at (L := [spec_l6Good_l0_s N]) ⟨spec_l6Good_l0_ok N, trivial⟩) (by kernel_rfl) (by kernel_rfl) (by kernel_rfl) (by kernel_rfl) (by kernel_rfl)

/-! ### spec_l1Rising -/
noncomputable def spec_l1Rising_G (N : Nat) : GTab := gOf [(61, spec_l1In_S N)]
theorem spec_l1Rising_gok (N : Nat) : GOk Try.prog (spec_l1Rising_G N) := gOf_ok ⟨spec_l1In_pc N, trivial⟩
noncomputable def spec_l1Rising_code : Code := (Try.f113.body).getD .skip
noncomputable def spec_l1Rising_l0_sh : Sh := ⟨[(0, .one (.ro LI)), (1, .one (.ro I)), (2, .one (.ro I)), (7, .one (.ro I))], []⟩
noncomputable def spec_l1Rising_l0_ex : List (Ex × Sh) := [(.ret, ⟨[(6, .one (.ro .bool))], []⟩), (.exit 0, ⟨[], []⟩)]
noncomputable def spec_l1Rising_l0 {R : Type} (N : Nat) (k0 : Bool → Option R) (k1 : Unit → Option R) : Nat → (List Int) → Int → Int → Int → Option R
  | 0, _, _, _, _ => none
  | K + 1, l1, lo1, hi1, i =>
    (br (ilt i (tLen l1))
      ((chk (inb l1 i)
        ((spec_l1In N (rdI l1 i) lo1 hi1).bind fun r =>
        (br (!r.1.1)
          (k0 false)
          ((br (ilt 0 i)
            ((chk (inb l1 (IntKind.i64.wrap (i - 1)))
              (chk (inb l1 i)
              (br (ile (rdI l1 i) (rdI l1 (IntKind.i64.wrap (i - 1))))
              (k0 false)
              (spec_l1Rising_l0 N k0 k1 K l1 lo1 hi1 (IntKind.i64.wrap (i + 1)))))))
            (spec_l1Rising_l0 N k0 k1 K l1 lo1 hi1 (IntKind.i64.wrap (i + 1)))))))))
      (k1 ()))
noncomputable def spec_l1Rising_l0_again {R : Type} (N : Nat) (ks : (j : Nat) → ((spec_l1Rising_l0_ex.getD j (.ret, Sh.none)).2).T → Option R) (k : Nat) (x : spec_l1Rising_l0_sh.T) : Option R :=
  spec_l1Rising_l0 N (fun y0 => ks 0 ((y0, ()), ())) (fun (_ : Unit) => ks 1 ((), ())) k x.1.1 x.1.2.1 x.1.2.2.1 x.1.2.2.2.1
noncomputable def spec_l1Rising_l0_s (N : Nat) : LSum := ⟨spec_l1Rising_l0_sh, spec_l1Rising_l0_ex, fun x ks => spec_l1Rising_l0_again N ks N x⟩
theorem spec_l1Rising_l0_step (N : Nat) (R : Type) (k : Nat) (x : spec_l1Rising_l0_sh.T) (ks : (j : Nat) → ((spec_l1Rising_l0_ex.getD j (.ret, Sh.none)).2).T → Option R) : spec_l1Rising_l0_again N ks (k + 1) x = roundF (spec_l1Rising_G N) tab [] (loopAt spec_l1Rising_code 0) spec_l1Rising_l0_sh spec_l1Rising_l0_ex (fun y => spec_l1Rising_l0_again N ks k y) ks x := by kernel_rfl
theorem spec_l1Rising_l0_ok (N : Nat) : LoopOk Try.prog Try.f113.ntmps (spec_l1Rising_l0_s N) (loopAt spec_l1Rising_code 0) :=
  loop_ok (l := spec_l1Rising_l0_s N) progOk (spec_l1Rising_gok N) (draw_ok progOk (spec_l1Rising_gok N)) (fun R k x ks => spec_l1Rising_l0_again N ks k x) (fun _ _ _ => rfl) (fun R k x ks => spec_l1Rising_l0_step N R k x ks) (fun R x ks r h => ⟨N, h⟩) (lsOk_at (L := []) trivial) (by kernel_rfl) (by kernel_rfl)
noncomputable def spec_l1Rising (N : Nat) (l : (List Int)) (lo : Int) (hi : Int) : Option ((Bool × Unit) × (Unit)) :=
  spec_l1Rising_l0 N (fun x => some ((x, ()), ())) (fun (_ : Unit) => some ((true, ()), ())) N l lo hi 0
abbrev spec_l1Rising_ps : List (PV.Mode × Ty) := [(.ro, LI), (.ro, I), (.ro, I)]
abbrev spec_l1Rising_rs : List (Bool × Ty) := [(true, .bool)]
noncomputable def spec_l1Rising_S (N : Nat) : FSum := ⟨spec_l1Rising_ps, spec_l1Rising_rs, fun x => spec_l1Rising N x.1 x.2.1 x.2.2.1⟩
theorem spec_l1Rising_run (N : Nat) (x : argsT spec_l1Rising_ps) : spec_l1Rising N x.1 x.2.1 x.2.2.1 = funF (spec_l1Rising_G N) tab [spec_l1Rising_l0_s N] Try.f113 spec_l1Rising_ps spec_l1Rising_rs x := by kernel_rfl
theorem spec_l1Rising_pc (N : Nat) : PC Try.prog 113 (spec_l1Rising_S N) := by
  have e : spec_l1Rising_S N = ⟨spec_l1Rising_ps, spec_l1Rising_rs, funF (spec_l1Rising_G N) tab [spec_l1Rising_l0_s N] Try.f113 spec_l1Rising_ps spec_l1Rising_rs⟩ := congrArg (FSum.mk spec_l1Rising_ps spec_l1Rising_rs) (funext (spec_l1Rising_run N))
  rw [e]
  exact fun_ok (c := spec_l1Rising_code) progOk (spec_l1Rising_gok N) (draw_ok progOk (spec_l1Rising_gok N)) Try.call113 Try.func113 (by kernel_rfl) (lsOk_at (L := [spec_l1Rising_l0_s N]) ⟨spec_l1Rising_l0_ok N, trivial⟩) (by kernel_rfl) (by kernel_rfl) (by kernel_rfl) (by kernel_rfl) (by kernel_rfl)

/-! ### spec_l1Most -/
noncomputable def spec_l1Most_G (N : Nat) : GTab := gOf []
theorem spec_l1Most_gok (N : Nat) : GOk Try.prog (spec_l1Most_G N) := gOf_ok trivial
noncomputable def spec_l1Most_code : Code := (Try.f114.body).getD .skip
noncomputable def spec_l1Most (N : Nat) (a : Int) (b : Int) : Option ((Int × Unit) × (Unit)) :=
  (br (ilt b a)
    (some ((a, ()), ()))
    (some ((b, ()), ())))
abbrev spec_l1Most_ps : List (PV.Mode × Ty) := [(.ro, I), (.ro, I)]
abbrev spec_l1Most_rs : List (Bool × Ty) := [(true, I)]
noncomputable def spec_l1Most_S (N : Nat) : FSum := ⟨spec_l1Most_ps, spec_l1Most_rs, fun x => spec_l1Most N x.1 x.2.1⟩
theorem spec_l1Most_run (N : Nat) (x : argsT spec_l1Most_ps) : spec_l1Most N x.1 x.2.1 = funF (spec_l1Most_G N) tab [] Try.f114 spec_l1Most_ps spec_l1Most_rs x := by kernel_rfl
theorem spec_l1Most_pc (N : Nat) : PC Try.prog 114 (spec_l1Most_S N) := by
  have e : spec_l1Most_S N = ⟨spec_l1Most_ps, spec_l1Most_rs, funF (spec_l1Most_G N) tab [] Try.f114 spec_l1Most_ps spec_l1Most_rs⟩ := congrArg (FSum.mk spec_l1Most_ps spec_l1Most_rs) (funext (spec_l1Most_run N))
  rw [e]
  exact fun_ok (c := spec_l1Most_code) progOk (spec_l1Most_gok N) (draw_ok progOk (spec_l1Most_gok N)) Try.call114 Try.func114 (by kernel_rfl) (lsOk_at (L := []) trivial) (by kernel_rfl) (by kernel_rfl) (by kernel_rfl) (by kernel_rfl) (by kernel_rfl)

/-! ### spec_l1Has -/
noncomputable def spec_l1Has_G (N : Nat) : GTab := gOf []
theorem spec_l1Has_gok (N : Nat) : GOk Try.prog (spec_l1Has_G N) := gOf_ok trivial
noncomputable def spec_l1Has_code : Code := (Try.f89.body).getD .skip
noncomputable def spec_l1Has_l0_sh : Sh := ⟨[(0, .one (.ro LI)), (1, .one (.ro I)), (5, .one (.ro I))], []⟩
noncomputable def spec_l1Has_l0_ex : List (Ex × Sh) := [(.ret, ⟨[(4, .one (.ro .bool))], []⟩), (.exit 0, ⟨[], []⟩)]
noncomputable def spec_l1Has_l0 {R : Type} (N : Nat) (k0 : Bool → Option R) (k1 : Unit → Option R) : Nat → (List Int) → Int → Int → Option R
  | 0, _, _, _ => none
  | K + 1, l1, n1, i =>
    (br (ilt i (tLen l1))
      ((chk (inb l1 i)
        (br (ieq (rdI l1 i) n1)
        (k0 true)
        (spec_l1Has_l0 N k0 k1 K l1 n1 (IntKind.i64.wrap (i + 1))))))
      (k1 ()))
noncomputable def spec_l1Has_l0_again {R : Type} (N : Nat) (ks : (j : Nat) → ((spec_l1Has_l0_ex.getD j (.ret, Sh.none)).2).T → Option R) (k : Nat) (x : spec_l1Has_l0_sh.T) : Option R :=
  spec_l1Has_l0 N (fun y0 => ks 0 ((y0, ()), ())) (fun (_ : Unit) => ks 1 ((), ())) k x.1.1 x.1.2.1 x.1.2.2.1
noncomputable def spec_l1Has_l0_s (N : Nat) : LSum := ⟨spec_l1Has_l0_sh, spec_l1Has_l0_ex, fun x ks => spec_l1Has_l0_again N ks N x⟩
theorem spec_l1Has_l0_step (N : Nat) (R : Type) (k : Nat) (x : spec_l1Has_l0_sh.T) (ks : (j : Nat) → ((spec_l1Has_l0_ex.getD j (.ret, Sh.none)).2).T → Option R) : spec_l1Has_l0_again N ks (k + 1) x = roundF (spec_l1Has_G N) tab [] (loopAt spec_l1Has_code 0) spec_l1Has_l0_sh spec_l1Has_l0_ex (fun y => spec_l1Has_l0_again N ks k y) ks x := by kernel_rfl
theorem spec_l1Has_l0_ok (N : Nat) : LoopOk Try.prog Try.f89.ntmps (spec_l1Has_l0_s N) (loopAt spec_l1Has_code 0) :=
  loop_ok (l := spec_l1Has_l0_s N) progOk (spec_l1Has_gok N) (draw_ok progOk (spec_l1Has_gok N)) (fun R k x ks => spec_l1Has_l0_again N ks k x) (fun _ _ _ => rfl) (fun R k x ks => spec_l1Has_l0_step N R k x ks) (fun R x ks r h => ⟨N, h⟩) (lsOk_at (L := []) trivial) (by kernel_rfl) (by kernel_rfl)
noncomputable def spec_l1Has (N : Nat) (l : (List Int)) (n : Int) : Option ((Bool × Unit) × (Unit)) :=
  spec_l1Has_l0 N (fun x => some ((x, ()), ())) (fun (_ : Unit) => some ((false, ()), ())) N l n 0
abbrev spec_l1Has_ps : List (PV.Mode × Ty) := [(.ro, LI), (.ro, I)]
abbrev spec_l1Has_rs : List (Bool × Ty) := [(true, .bool)]
noncomputable def spec_l1Has_S (N : Nat) : FSum := ⟨spec_l1Has_ps, spec_l1Has_rs, fun x => spec_l1Has N x.1 x.2.1⟩
theorem spec_l1Has_run (N : Nat) (x : argsT spec_l1Has_ps) : spec_l1Has N x.1 x.2.1 = funF (spec_l1Has_G N) tab [spec_l1Has_l0_s N] Try.f89 spec_l1Has_ps spec_l1Has_rs x := by kernel_rfl
theorem spec_l1Has_pc (N : Nat) : PC Try.prog 89 (spec_l1Has_S N) := by
  have e : spec_l1Has_S N = ⟨spec_l1Has_ps, spec_l1Has_rs, funF (spec_l1Has_G N) tab [spec_l1Has_l0_s N] Try.f89 spec_l1Has_ps spec_l1Has_rs⟩ := congrArg (FSum.mk spec_l1Has_ps spec_l1Has_rs) (funext (spec_l1Has_run N))
  rw [e]
  exact fun_ok (c := spec_l1Has_code) progOk (spec_l1Has_gok N) (draw_ok progOk (spec_l1Has_gok N)) Try.call89 Try.func89 (by kernel_rfl) (lsOk_at (L := [spec_l1Has_l0_s N]) ⟨spec_l1Has_l0_ok N, trivial⟩) (by kernel_rfl) (by kernel_rfl) (by kernel_rfl) (by kernel_rfl) (by kernel_rfl)

/-! ### spec_l1Put -/
noncomputable def spec_l1Put_G (N : Nat) : GTab := gOf []
theorem spec_l1Put_gok (N : Nat) : GOk Try.prog (spec_l1Put_G N) := gOf_ok trivial
noncomputable def spec_l1Put_code : Code := (Try.f115.body).getD .skip
noncomputable def spec_l1Put_l0_sh : Sh := ⟨[(0, .one (.ref 0)), (1, .one (.ro I)), (5, .one (.ro I))], [.sl 3 I .own]⟩
noncomputable def spec_l1Put_l0_ex : List (Ex × Sh) := [(.exit 0, ⟨[(0, .one (.ref 0)), (1, .one (.ro I)), (5, .one (.ro I))], [.sl 3 I .own]⟩)]
noncomputable def spec_l1Put_l0 {R : Type} (N : Nat) (k0 : Int → Int → (List Int) → Option R) : Nat → Int → Int → (List Int) → Option R
  | 0, _, _, _ => none
  | K + 1, n1, kv, o =>
    (br (ilt kv (tLen o))
      ((chk (inb o kv)
        (br (ilt (rdI o kv) n1)
        (spec_l1Put_l0 N k0 K n1 (IntKind.i64.wrap (kv + 1)) o)
        (k0 n1 kv o))))
      (k0 n1 kv o))
noncomputable def spec_l1Put_l0_again {R : Type} (N : Nat) (ks : (j : Nat) → ((spec_l1Put_l0_ex.getD j (.ret, Sh.none)).2).T → Option R) (k : Nat) (x : spec_l1Put_l0_sh.T) : Option R :=
  spec_l1Put_l0 N (fun y0 y1 y2 => ks 0 (((), y0, y1, ()), (y2, ()))) k x.1.2.1 x.1.2.2.1 x.2.1
noncomputable def spec_l1Put_l0_s (N : Nat) : LSum := ⟨spec_l1Put_l0_sh, spec_l1Put_l0_ex, fun x ks => spec_l1Put_l0_again N ks N x⟩
theorem spec_l1Put_l0_step (N : Nat) (R : Type) (k : Nat) (x : spec_l1Put_l0_sh.T) (ks : (j : Nat) → ((spec_l1Put_l0_ex.getD j (.ret, Sh.none)).2).T → Option R) : spec_l1Put_l0_again N ks (k + 1) x = roundF (spec_l1Put_G N) tab [] (loopAt spec_l1Put_code 0) spec_l1Put_l0_sh spec_l1Put_l0_ex (fun y => spec_l1Put_l0_again N ks k y) ks x := by kernel_rfl
theorem spec_l1Put_l0_ok (N : Nat) : LoopOk Try.prog Try.f115.ntmps (spec_l1Put_l0_s N) (loopAt spec_l1Put_code 0) :=
  loop_ok (l := spec_l1Put_l0_s N) progOk (spec_l1Put_gok N) (draw_ok progOk (spec_l1Put_gok N)) (fun R k x ks => spec_l1Put_l0_again N ks k x) (fun _ _ _ => rfl) (fun R k x ks => spec_l1Put_l0_step N R k x ks) (fun R x ks r h => ⟨N, h⟩) (lsOk_at (L := []) trivial) (by kernel_rfl) (by kernel_rfl)
noncomputable def spec_l1Put (N : Nat) (l : (List Int)) (n : Int) : Option (((List Int) × Unit) × (Unit)) :=
  spec_l1Put_l0 N (fun n1 kv o => (br (ilt kv (tLen o))
    ((chk (inb o kv)
      (br (ieq (rdI o kv) n1)
      (some ((o, ()), ()))
      ((chk (ile 0 0 && ile 0 kv && ile kv (tLen o))
        (chk (room (α := Int) (β := Int) [] (tCut o 0 kv))
        (chk (room (tApp [] (tCut o 0 kv)) [n1])
        (chk (ile 0 kv && ile kv (tLen o) && ile (tLen o) (tLen o))
        (chk (room (tApp (tApp [] (tCut o 0 kv)) [n1]) (tCut o kv (tLen o)))
        (some (((tApp (tApp (tApp [] (tCut o 0 kv)) [n1]) (tCut o kv (tLen o))), ()), ())))))))))))
    ((chk (ile 0 0 && ile 0 kv && ile kv (tLen o))
      (chk (room (α := Int) (β := Int) [] (tCut o 0 kv))
      (chk (room (tApp [] (tCut o 0 kv)) [n1])
      (chk (ile 0 kv && ile kv (tLen o) && ile (tLen o) (tLen o))
      (chk (room (tApp (tApp [] (tCut o 0 kv)) [n1]) (tCut o kv (tLen o)))
      (some (((tApp (tApp (tApp [] (tCut o 0 kv)) [n1]) (tCut o kv (tLen o))), ()), ())))))))))) N n 0 l
abbrev spec_l1Put_ps : List (PV.Mode × Ty) := [(.own, LI), (.ro, I)]
abbrev spec_l1Put_rs : List (Bool × Ty) := [(true, LI)]
noncomputable def spec_l1Put_S (N : Nat) : FSum := ⟨spec_l1Put_ps, spec_l1Put_rs, fun x => spec_l1Put N x.1 x.2.1⟩
theorem spec_l1Put_run (N : Nat) (x : argsT spec_l1Put_ps) : spec_l1Put N x.1 x.2.1 = funF (spec_l1Put_G N) tab [spec_l1Put_l0_s N] Try.f115 spec_l1Put_ps spec_l1Put_rs x := by kernel_rfl
theorem spec_l1Put_pc (N : Nat) : PC Try.prog 115 (spec_l1Put_S N) := by
  have e : spec_l1Put_S N = ⟨spec_l1Put_ps, spec_l1Put_rs, funF (spec_l1Put_G N) tab [spec_l1Put_l0_s N] Try.f115 spec_l1Put_ps spec_l1Put_rs⟩ := congrArg (FSum.mk spec_l1Put_ps spec_l1Put_rs) (funext (spec_l1Put_run N))
  rw [e]
  exact fun_ok (c := spec_l1Put_code) progOk (spec_l1Put_gok N) (draw_ok progOk (spec_l1Put_gok N)) Try.call115 Try.func115 (by kernel_rfl) (lsOk_at (L := [spec_l1Put_l0_s N]) ⟨spec_l1Put_l0_ok N, trivial⟩) (by kernel_rfl) (by kernel_rfl) (by kernel_rfl) (by kernel_rfl) (by kernel_rfl)

/-! ### spec_NegateVars -/
noncomputable def spec_NegateVars_G (N : Nat) : GTab := gOf [(112, spec_l6Good_S N), (113, spec_l1Rising_S N), (114, spec_l1Most_S N), (89, spec_l1Has_S N), (115, spec_l1Put_S N)]
theorem spec_NegateVars_gok (N : Nat) : GOk Try.prog (spec_NegateVars_G N) := gOf_ok ⟨spec_l6Good_pc N, spec_l1Rising_pc N, spec_l1Most_pc N, spec_l1Has_pc N, spec_l1Put_pc N, trivial⟩
noncomputable def spec_NegateVars_code : Code := (Try.f53.body).getD .skip
noncomputable def spec_NegateVars_l0_0_sh : Sh := ⟨[(1, .one (.ro LI)), (2, .one (.adr 0 0)), (4, .one (.adr 1 0)), (6, .one (.adr 2 0)), (7, .one (.ro I)), (8, .one (.ref 3)), (9, .one (.ro I))], [.box [.ro I, .ro LLI], .box [.ro I, .nilsl], .box [.ro I, .ref 4], .sl 3 I .own, .sl 33 LI .deep]⟩
noncomputable def spec_NegateVars_l0_0_ex : List (Ex × Sh) := [(.exit 2, ⟨[(1, .one (.ro LI)), (2, .one (.adr 0 0)), (4, .one (.adr 1 0)), (6, .one (.adr 2 0)), (7, .one (.ro I)), (8, .one (.ref 3))], [.box [.ro I, .ro LLI], .box [.ro I, .nilsl], .box [.ro I, .ref 4], .sl 3 I .own, .sl 33 LI .deep]⟩)]
noncomputable def spec_NegateVars_l0_0 {R : Type} (N : Nat) (k0 : (List Int) → Int → Int → (List (List Int)) → Int → Int → (List Int) → (List (List Int)) → Option R) : Nat → (List Int) → Int → Int → Int → (List (List Int)) → Int → Int → (List Int) → (List (List Int)) → Option R
  | 0, _, _, _, _, _, _, _, _, _ => none
  | K + 1, x2, x3, x4, o5, o6, o7, o8, o9, o10 =>
    (chk (inb o6 x3)
      (br (ilt x4 (tLen (rdL o6 x3)))
      ((chk (inb o6 x3)
        (chk (inb (rdL o6 x3) x4)
        ((spec_l1Most N (rdI (rdL o6 x3) x4) (IntKind.i64.wrap (0 - (rdI (rdL o6 x3) x4)))).bind fun r2 =>
        ((spec_l1Has N x2 (IntKind.i64.wrap (r2.1.1 - 1))).bind fun r3 =>
          (br r3.1.1
            (((spec_l1Put N o9 (IntKind.i64.wrap (0 - (rdI (rdL o6 x3) x4)))).bind fun r4 =>
              spec_NegateVars_l0_0 N k0 K x2 x3 (IntKind.i64.wrap (x4 + 1)) o5 o6 o7 o8 r4.1.1 o10))
            (((spec_l1Put N o9 (rdI (rdL o6 x3) x4)).bind fun r5 =>
              spec_NegateVars_l0_0 N k0 K x2 x3 (IntKind.i64.wrap (x4 + 1)) o5 o6 o7 o8 r5.1.1 o10))))))))
      (k0 x2 x3 o5 o6 o7 o8 o9 o10)))
noncomputable def spec_NegateVars_l0_0_again {R : Type} (N : Nat) (ks : (j : Nat) → ((spec_NegateVars_l0_0_ex.getD j (.ret, Sh.none)).2).T → Option R) (k : Nat) (x : spec_NegateVars_l0_0_sh.T) : Option R :=
  spec_NegateVars_l0_0 N (fun y0 y1 y2 y3 y4 y5 y6 y7 => ks 0 ((y0, (), (), (), y1, (), ()), ((y2, y3, ()), (y4, (), ()), (y5, (), ()), y6, y7, ()))) k x.1.1 x.1.2.2.2.2.1 x.1.2.2.2.2.2.2.1 x.2.1.1 x.2.1.2.1 x.2.2.1.1 x.2.2.2.1.1 x.2.2.2.2.1 x.2.2.2.2.2.1
noncomputable def spec_NegateVars_l0_0_s (N : Nat) : LSum := ⟨spec_NegateVars_l0_0_sh, spec_NegateVars_l0_0_ex, fun x ks => spec_NegateVars_l0_0_again N ks N x⟩
theorem spec_NegateVars_l0_0_step (N : Nat) (R : Type) (k : Nat) (x : spec_NegateVars_l0_0_sh.T) (ks : (j : Nat) → ((spec_NegateVars_l0_0_ex.getD j (.ret, Sh.none)).2).T → Option R) : spec_NegateVars_l0_0_again N ks (k + 1) x = roundF (spec_NegateVars_G N) tab [] (loopAt (loopAt spec_NegateVars_code 0) 0) spec_NegateVars_l0_0_sh spec_NegateVars_l0_0_ex (fun y => spec_NegateVars_l0_0_again N ks k y) ks x := by kernel_rfl
theorem spec_NegateVars_l0_0_ok (N : Nat) : LoopOk Try.prog Try.f53.ntmps (spec_NegateVars_l0_0_s N) (loopAt (loopAt spec_NegateVars_code 0) 0) :=
  loop_ok (l := spec_NegateVars_l0_0_s N) progOk (spec_NegateVars_gok N) (draw_ok progOk (spec_NegateVars_gok N)) (fun R k x ks => spec_NegateVars_l0_0_again N ks k x) (fun _ _ _ => rfl) (fun R k x ks => spec_NegateVars_l0_0_step N R k x ks) (fun R x ks r h => ⟨N, h⟩) (lsOk_at (L := []) trivial) (by kernel_rfl) (by kernel_rfl)
noncomputable def spec_NegateVars_l0_sh : Sh := ⟨[(1, .one (.ro LI)), (2, .one (.adr 0 0)), (4, .one (.adr 1 0)), (6, .one (.adr 2 0)), (7, .one (.ro I))], [.box [.ro I, .ro LLI], .box [.ro I, .nilsl], .box [.ro I, .ref 3], .sl 33 LI .deep]⟩
noncomputable def spec_NegateVars_l0_ex : List (Ex × Sh) := [(.exit 0, ⟨[(4, .one (.adr 0 0)), (6, .one (.adr 1 0))], [.box [.ro I, .nilsl], .box [.ro I, .ref 2], .sl 33 LI .deep]⟩)]
noncomputable def spec_NegateVars_l0 {R : Type} (N : Nat) (k0 : Int → Int → (List (List Int)) → Option R) : Nat → (List Int) → Int → Int → (List (List Int)) → Int → Int → (List (List Int)) → Option R
  | 0, _, _, _, _, _, _, _ => none
  | K + 1, x, x1, o, o1, o2, o3, o4 =>
    (br (ilt x1 (tLen o1))
      (spec_NegateVars_l0_0 N (fun x2 x3 o5 o6 o7 o8 o9 o10 => (chk (room o10 [o9])
        (spec_NegateVars_l0 N k0 K x2 (IntKind.i64.wrap (x3 + 1)) o5 o6 o7 o8 (tApp o10 [o9])))) N x x1 0 o o1 o2 o3 [] o4)
      (k0 o2 o3 o4))
noncomputable def spec_NegateVars_l0_again {R : Type} (N : Nat) (ks : (j : Nat) → ((spec_NegateVars_l0_ex.getD j (.ret, Sh.none)).2).T → Option R) (k : Nat) (x : spec_NegateVars_l0_sh.T) : Option R :=
  spec_NegateVars_l0 N (fun y0 y1 y2 => ks 0 (((), (), ()), ((y0, (), ()), (y1, (), ()), y2, ()))) k x.1.1 x.1.2.2.2.2.1 x.2.1.1 x.2.1.2.1 x.2.2.1.1 x.2.2.2.1.1 x.2.2.2.2.1
noncomputable def spec_NegateVars_l0_s (N : Nat) : LSum := ⟨spec_NegateVars_l0_sh, spec_NegateVars_l0_ex, fun x ks => spec_NegateVars_l0_again N ks N x⟩
theorem spec_NegateVars_l0_step (N : Nat) (R : Type) (k : Nat) (x : spec_NegateVars_l0_sh.T) (ks : (j : Nat) → ((spec_NegateVars_l0_ex.getD j (.ret, Sh.none)).2).T → Option R) : spec_NegateVars_l0_again N ks (k + 1) x = roundF (spec_NegateVars_G N) tab [spec_NegateVars_l0_0_s N] (loopAt spec_NegateVars_code 0) spec_NegateVars_l0_sh spec_NegateVars_l0_ex (fun y => spec_NegateVars_l0_again N ks k y) ks x := by kernel_rfl
theorem spec_NegateVars_l0_ok (N : Nat) : LoopOk Try.prog Try.f53.ntmps (spec_NegateVars_l0_s N) (loopAt spec_NegateVars_code 0) :=
  loop_ok (l := spec_NegateVars_l0_s N) progOk (spec_NegateVars_gok N) (draw_ok progOk (spec_NegateVars_gok N)) (fun R k x ks => spec_NegateVars_l0_again N ks k x) (fun _ _ _ => rfl) (fun R k x ks => spec_NegateVars_l0_step N R k x ks) (fun R x ks r h => ⟨N, h⟩) (lsOk_at (L := [spec_NegateVars_l0_0_s N]) ⟨spec_NegateVars_l0_0_ok N, trivial⟩) (by kernel_rfl) (by kernel_rfl)
noncomputable def spec_NegateVars (N : Nat) (c : (Int × (List (List Int)))) (c1 : (List Int)) : Option (((Int × (List (List Int))) × Bool × Unit) × (Unit)) :=
  ((spec_l6Good N (c.1, c.2)).bind fun r =>
    (br (!r.1.1)
      (some (((0, []), false, ()), ()))
      (((spec_l1Rising N c1 0 (IntKind.i64.wrap (c.1 - 1))).bind fun r1 =>
        (br (!r1.1.1)
          (some (((0, []), false, ()), ()))
          (spec_NegateVars_l0 N (fun o o1 o2 => some (((o1, o2), true, ()), ())) N c1 0 c.1 c.2 0 c.1 []))))))
abbrev spec_NegateVars_ps : List (PV.Mode × Ty) := [(.ro, QILLI), (.ro, LI)]
abbrev spec_NegateVars_rs : List (Bool × Ty) := [(true, QILLI), (true, .bool)]
noncomputable def spec_NegateVars_S (N : Nat) : FSum := ⟨spec_NegateVars_ps, spec_NegateVars_rs, fun x => spec_NegateVars N x.1 x.2.1⟩
theorem spec_NegateVars_run (N : Nat) (x : argsT spec_NegateVars_ps) : spec_NegateVars N x.1 x.2.1 = funF (spec_NegateVars_G N) tab [spec_NegateVars_l0_s N] Try.f53 spec_NegateVars_ps spec_NegateVars_rs x := by kernel_rfl
theorem spec_NegateVars_pc (N : Nat) : PC Try.prog 53 (spec_NegateVars_S N) := by
  have e : spec_NegateVars_S N = ⟨spec_NegateVars_ps, spec_NegateVars_rs, funF (spec_NegateVars_G N) tab [spec_NegateVars_l0_s N] Try.f53 spec_NegateVars_ps spec_NegateVars_rs⟩ := congrArg (FSum.mk spec_NegateVars_ps spec_NegateVars_rs) (funext (spec_NegateVars_run N))
  rw [e]
  exact fun_ok (c := spec_NegateVars_code) progOk (spec_NegateVars_gok N) (draw_ok progOk (spec_NegateVars_gok N)) Try.call53 Try.func53 (by kernel_rfl) (lsOk_at (L := [spec_NegateVars_l0_s N]) ⟨spec_NegateVars_l0_ok N, trivial⟩) (by kernel_rfl) (by kernel_rfl) (by kernel_rfl) (by kernel_rfl) (by kernel_rfl)

/-! ### impl_between -/
noncomputable def impl_between_G (N : Nat) : GTab := gOf []
theorem impl_between_gok (N : Nat) : GOk Try.prog (impl_between_G N) := gOf_ok trivial
noncomputable def impl_between_code : Code := (Try.f64.body).getD .skip
noncomputable def impl_between (N : Nat) (n : Int) (low : Int) (high : Int) : Option ((Bool × Unit) × (Unit)) :=
  (br (ile low n)
    (some (((ile n high), ()), ()))
    (some ((false, ()), ())))
abbrev impl_between_ps : List (PV.Mode × Ty) := [(.ro, I), (.ro, I), (.ro, I)]
abbrev impl_between_rs : List (Bool × Ty) := [(true, .bool)]
noncomputable def impl_between_S (N : Nat) : FSum := ⟨impl_between_ps, impl_between_rs, fun x => impl_between N x.1 x.2.1 x.2.2.1⟩
theorem impl_between_run (N : Nat) (x : argsT impl_between_ps) : impl_between N x.1 x.2.1 x.2.2.1 = funF (impl_between_G N) tab [] Try.f64 impl_between_ps impl_between_rs x := by kernel_rfl
theorem impl_between_pc (N : Nat) : PC Try.prog 64 (impl_between_S N) := by
  have e : impl_between_S N = ⟨impl_between_ps, impl_between_rs, funF (impl_between_G N) tab [] Try.f64 impl_between_ps impl_between_rs⟩ := congrArg (FSum.mk impl_between_ps impl_between_rs) (funext (impl_between_run N))
  rw [e]
  exact fun_ok (c := impl_between_code) progOk (impl_between_gok N) (draw_ok progOk (impl_between_gok N)) Try.call64 Try.func64 (by kernel_rfl) (lsOk_at (L := []) trivial) (by kernel_rfl) (by kernel_rfl) (by kernel_rfl) (by kernel_rfl) (by kernel_rfl)

/-! ### impl_IsFormula -/
noncomputable def impl_IsFormula_G (N : Nat) : GTab := gOf [(64, impl_between_S N)]
theorem impl_IsFormula_gok (N : Nat) : GOk Try.prog (impl_IsFormula_G N) := gOf_ok ⟨impl_between_pc N, trivial⟩
noncomputable def impl_IsFormula_code : Code := (Try.f116.body).getD .skip
noncomputable def impl_IsFormula_l0_0_sh : Sh := ⟨[(1, .one (.adr 0 0)), (4, .one (.ro LI)), (18, .one (.ro LLI)), (19, .one (.ro I)), (20, .one (.ro I)), (24, .one (.ro LI)), (25, .one (.ro I)), (26, .one (.ro I))], [.box [.ro I, .ro LLI]]⟩
noncomputable def impl_IsFormula_l0_0_ex : List (Ex × Sh) := [(.ret, ⟨[(2, .one (.ro .bool))], []⟩), (.exit 2, ⟨[(1, .one (.adr 0 0)), (18, .one (.ro LLI)), (19, .one (.ro I)), (20, .one (.ro I))], [.box [.ro I, .ro LLI]]⟩)]
noncomputable def impl_IsFormula_l0_0 {R : Type} (N : Nat) (k0 : Bool → Option R) (k1 : (List (List Int)) → Int → Int → Int → (List (List Int)) → Option R) : Nat → (List Int) → (List (List Int)) → Int → Int → (List Int) → Int → Int → Int → (List (List Int)) → Option R
  | 0, _, _, _, _, _, _, _, _, _ => none
  | K + 1, clause, x3, x4, x5, x6, x7, x8, o2, o3 =>
    (br (ilt x8 x7)
      ((chk (inb x6 x8)
        (br (ieq (rdI x6 x8) 0)
        (k0 false)
        (((impl_between N (rdI x6 x8) (IntKind.i64.wrap (0 - o2)) o2).bind fun r1 =>
          (br (!r1.1.1)
            (k0 false)
            ((br (ilt 0 x8)
              ((chk (inb clause (IntKind.i64.wrap (x8 - 1)))
                (br (ile (rdI x6 x8) (rdI clause (IntKind.i64.wrap (x8 - 1))))
                (k0 false)
                (impl_IsFormula_l0_0 N k0 k1 K clause x3 x4 x5 x6 x7 (IntKind.i64.wrap (x8 + 1)) o2 o3))))
              (impl_IsFormula_l0_0 N k0 k1 K clause x3 x4 x5 x6 x7 (IntKind.i64.wrap (x8 + 1)) o2 o3)))))))))
      (k1 x3 x4 x5 o2 o3))
noncomputable def impl_IsFormula_l0_0_again {R : Type} (N : Nat) (ks : (j : Nat) → ((impl_IsFormula_l0_0_ex.getD j (.ret, Sh.none)).2).T → Option R) (k : Nat) (x : impl_IsFormula_l0_0_sh.T) : Option R :=
  impl_IsFormula_l0_0 N (fun y0 => ks 0 ((y0, ()), ())) (fun y0 y1 y2 y3 y4 => ks 1 (((), y0, y1, y2, ()), ((y3, y4, ()), ()))) k x.1.2.1 x.1.2.2.1 x.1.2.2.2.1 x.1.2.2.2.2.1 x.1.2.2.2.2.2.1 x.1.2.2.2.2.2.2.1 x.1.2.2.2.2.2.2.2.1 x.2.1.1 x.2.1.2.1
noncomputable def impl_IsFormula_l0_0_s (N : Nat) : LSum := ⟨impl_IsFormula_l0_0_sh, impl_IsFormula_l0_0_ex, fun x ks => impl_IsFormula_l0_0_again N ks N x⟩
theorem impl_IsFormula_l0_0_step (N : Nat) (R : Type) (k : Nat) (x : impl_IsFormula_l0_0_sh.T) (ks : (j : Nat) → ((impl_IsFormula_l0_0_ex.getD j (.ret, Sh.none)).2).T → Option R) : impl_IsFormula_l0_0_again N ks (k + 1) x = roundF (impl_IsFormula_G N) tab [] (loopAt (loopAt impl_IsFormula_code 0) 0) impl_IsFormula_l0_0_sh impl_IsFormula_l0_0_ex (fun y => impl_IsFormula_l0_0_again N ks k y) ks x := by kernel_rfl
theorem impl_IsFormula_l0_0_ok (N : Nat) : LoopOk Try.prog Try.f116.ntmps (impl_IsFormula_l0_0_s N) (loopAt (loopAt impl_IsFormula_code 0) 0) :=
  loop_ok (l := impl_IsFormula_l0_0_s N) progOk (impl_IsFormula_gok N) (draw_ok progOk (impl_IsFormula_gok N)) (fun R k x ks => impl_IsFormula_l0_0_again N ks k x) (fun _ _ _ => rfl) (fun R k x ks => impl_IsFormula_l0_0_step N R k x ks) (fun R x ks r h => ⟨N, h⟩) (lsOk_at (L := []) trivial) (by kernel_rfl) (by kernel_rfl)
noncomputable def impl_IsFormula_l0_sh : Sh := ⟨[(1, .one (.adr 0 0)), (18, .one (.ro LLI)), (19, .one (.ro I)), (20, .one (.ro I))], [.box [.ro I, .ro LLI]]⟩
noncomputable def impl_IsFormula_l0_ex : List (Ex × Sh) := [(.ret, ⟨[(2, .one (.ro .bool))], []⟩), (.exit 0, ⟨[], []⟩)]
noncomputable def impl_IsFormula_l0 {R : Type} (N : Nat) (k0 : Bool → Option R) (k1 : Unit → Option R) : Nat → (List (List Int)) → Int → Int → Int → (List (List Int)) → Option R
  | 0, _, _, _, _, _ => none
  | K + 1, x, x1, x2, o, o1 =>
    (br (ilt x2 x1)
      ((chk (inb x x2)
        (impl_IsFormula_l0_0 N (fun x3 => k0 x3) (fun x4 x5 x6 o2 o3 => impl_IsFormula_l0 N k0 k1 K x4 x5 (IntKind.i64.wrap (x6 + 1)) o2 o3) N (rdL x x2) x x1 x2 (rdL x x2) (tLen (rdL x x2)) 0 o o1)))
      (k1 ()))
noncomputable def impl_IsFormula_l0_again {R : Type} (N : Nat) (ks : (j : Nat) → ((impl_IsFormula_l0_ex.getD j (.ret, Sh.none)).2).T → Option R) (k : Nat) (x : impl_IsFormula_l0_sh.T) : Option R :=
  impl_IsFormula_l0 N (fun y0 => ks 0 ((y0, ()), ())) (fun (_ : Unit) => ks 1 ((), ())) k x.1.2.1 x.1.2.2.1 x.1.2.2.2.1 x.2.1.1 x.2.1.2.1
noncomputable def impl_IsFormula_l0_s (N : Nat) : LSum := ⟨impl_IsFormula_l0_sh, impl_IsFormula_l0_ex, fun x ks => impl_IsFormula_l0_again N ks N x⟩
theorem impl_IsFormula_l0_step (N : Nat) (R : Type) (k : Nat) (x : impl_IsFormula_l0_sh.T) (ks : (j : Nat) → ((impl_IsFormula_l0_ex.getD j (.ret, Sh.none)).2).T → Option R) : impl_IsFormula_l0_again N ks (k + 1) x = roundF (impl_IsFormula_G N) tab [impl_IsFormula_l0_0_s N] (loopAt impl_IsFormula_code 0) impl_IsFormula_l0_sh impl_IsFormula_l0_ex (fun y => impl_IsFormula_l0_again N ks k y) ks x := by kernel_rfl
theorem impl_IsFormula_l0_ok (N : Nat) : LoopOk Try.prog Try.f116.ntmps (impl_IsFormula_l0_s N) (loopAt impl_IsFormula_code 0) :=
  loop_ok (l := impl_IsFormula_l0_s N) progOk (impl_IsFormula_gok N) (draw_ok progOk (impl_IsFormula_gok N)) (fun R k x ks => impl_IsFormula_l0_again N ks k x) (fun _ _ _ => rfl) (fun R k x ks => impl_IsFormula_l0_step N R k x ks) (fun R x ks r h => ⟨N, h⟩) (lsOk_at (L := [impl_IsFormula_l0_0_s N]) ⟨impl_IsFormula_l0_0_ok N, trivial⟩) (by kernel_rfl) (by kernel_rfl)
noncomputable def impl_IsFormula (N : Nat) (f : (Int × (List (List Int)))) : Option ((Bool × Unit) × (Unit)) :=
  ((impl_between N f.1 0 6).bind fun r =>
    (br (!r.1.1)
      (some ((false, ()), ()))
      ((br (ilt 64 (tLen f.2))
        (some ((false, ()), ()))
        (impl_IsFormula_l0 N (fun x => some ((x, ()), ())) (fun (_ : Unit) => some ((true, ()), ())) N f.2 (tLen f.2) 0 f.1 f.2)))))
abbrev impl_IsFormula_ps : List (PV.Mode × Ty) := [(.ro, QILLI)]
abbrev impl_IsFormula_rs : List (Bool × Ty) := [(true, .bool)]
noncomputable def impl_IsFormula_S (N : Nat) : FSum := ⟨impl_IsFormula_ps, impl_IsFormula_rs, fun x => impl_IsFormula N x.1⟩
theorem impl_IsFormula_run (N : Nat) (x : argsT impl_IsFormula_ps) : impl_IsFormula N x.1 = funF (impl_IsFormula_G N) tab [impl_IsFormula_l0_s N] Try.f116 impl_IsFormula_ps impl_IsFormula_rs x := by kernel_rfl
theorem impl_IsFormula_pc (N : Nat) : PC Try.prog 116 (impl_IsFormula_S N) := by
  have e : impl_IsFormula_S N = ⟨impl_IsFormula_ps, impl_IsFormula_rs, funF (impl_IsFormula_G N) tab [impl_IsFormula_l0_s N] Try.f116 impl_IsFormula_ps impl_IsFormula_rs⟩ := congrArg (FSum.mk impl_IsFormula_ps impl_IsFormula_rs) (funext (impl_IsFormula_run N))
  rw [e]
  exact fun_ok (c := impl_IsFormula_code) progOk (impl_IsFormula_gok N) (draw_ok progOk (impl_IsFormula_gok N)) Try.call116 Try.func116 (by kernel_rfl) (lsOk_at (L := [impl_IsFormula_l0_s N]) ⟨impl_IsFormula_l0_ok N, trivial⟩) (by kernel_rfl) (by kernel_rfl) (by kernel_rfl) (by kernel_rfl) (by kernel_rfl)

/-! ### impl_isRising -/
noncomputable def impl_isRising_G (N : Nat) : GTab := gOf [(64, impl_between_S N)]
theorem impl_isRising_gok (N : Nat) : GOk Try.prog (impl_isRising_G N) := gOf_ok ⟨impl_between_pc N, trivial⟩
noncomputable def impl_isRising_code : Code := (Try.f117.body).getD .skip
noncomputable def impl_isRising_l0_sh : Sh := ⟨[(0, .one (.ro LI)), (1, .one (.ro I)), (7, .one (.ro LI)), (8, .one (.ro I)), (9, .one (.ro I))], []⟩
noncomputable def impl_isRising_l0_ex : List (Ex × Sh) := [(.ret, ⟨[(4, .one (.ro .bool))], []⟩), (.exit 0, ⟨[], []⟩)]
noncomputable def impl_isRising_l0 {R : Type} (N : Nat) (k0 : Bool → Option R) (k1 : Unit → Option R) : Nat → (List Int) → Int → (List Int) → Int → Int → Option R
  | 0, _, _, _, _, _ => none
  | K + 1, list1, below1, x, x1, x2 =>
    (br (ilt x2 x1)
      ((chk (inb x x2)
        ((impl_between N (rdI x x2) 0 (IntKind.i64.wrap (below1 - 1))).bind fun r =>
        (br (!r.1.1)
          (k0 false)
          ((br (ilt 0 x2)
            ((chk (inb list1 (IntKind.i64.wrap (x2 - 1)))
              (br (ile (rdI x x2) (rdI list1 (IntKind.i64.wrap (x2 - 1))))
              (k0 false)
              (impl_isRising_l0 N k0 k1 K list1 below1 x x1 (IntKind.i64.wrap (x2 + 1))))))
            (impl_isRising_l0 N k0 k1 K list1 below1 x x1 (IntKind.i64.wrap (x2 + 1)))))))))
      (k1 ()))
noncomputable def impl_isRising_l0_again {R : Type} (N : Nat) (ks : (j : Nat) → ((impl_isRising_l0_ex.getD j (.ret, Sh.none)).2).T → Option R) (k : Nat) (x : impl_isRising_l0_sh.T) : Option R :=
  impl_isRising_l0 N (fun y0 => ks 0 ((y0, ()), ())) (fun (_ : Unit) => ks 1 ((), ())) k x.1.1 x.1.2.1 x.1.2.2.1 x.1.2.2.2.1 x.1.2.2.2.2.1
noncomputable def impl_isRising_l0_s (N : Nat) : LSum := ⟨impl_isRising_l0_sh, impl_isRising_l0_ex, fun x ks => impl_isRising_l0_again N ks N x⟩
theorem impl_isRising_l0_step (N : Nat) (R : Type) (k : Nat) (x : impl_isRising_l0_sh.T) (ks : (j : Nat) → ((impl_isRising_l0_ex.getD j (.ret, Sh.none)).2).T → Option R) : impl_isRising_l0_again N ks (k + 1) x = roundF (impl_isRising_G N) tab [] (loopAt impl_isRising_code 0) impl_isRising_l0_sh impl_isRising_l0_ex (fun y => impl_isRising_l0_again N ks k y) ks x := by kernel_rfl
theorem impl_isRising_l0_ok (N : Nat) : LoopOk Try.prog Try.f117.ntmps (impl_isRising_l0_s N) (loopAt impl_isRising_code 0) :=
  loop_ok (l := impl_isRising_l0_s N) progOk (impl_isRising_gok N) (draw_ok progOk (impl_isRising_gok N)) (fun R k x ks => impl_isRising_l0_again N ks k x) (fun _ _ _ => rfl) (fun R k x ks => impl_isRising_l0_step N R k x ks) (fun R x ks r h => ⟨N, h⟩) (lsOk_at (L := []) trivial) (by kernel_rfl) (by kernel_rfl)
noncomputable def impl_isRising (N : Nat) (list : (List Int)) (below : Int) : Option ((Bool × Unit) × (Unit)) :=
  impl_isRising_l0 N (fun x => some ((x, ()), ())) (fun (_ : Unit) => some ((true, ()), ())) N list below list (tLen list) 0
abbrev impl_isRising_ps : List (PV.Mode × Ty) := [(.ro, LI), (.ro, I)]
abbrev impl_isRising_rs : List (Bool × Ty) := [(true, .bool)]
noncomputable def impl_isRising_S (N : Nat) : FSum := ⟨impl_isRising_ps, impl_isRising_rs, fun x => impl_isRising N x.1 x.2.1⟩
theorem impl_isRising_run (N : Nat) (x : argsT impl_isRising_ps) : impl_isRising N x.1 x.2.1 = funF (impl_isRising_G N) tab [impl_isRising_l0_s N] Try.f117 impl_isRising_ps impl_isRising_rs x := by kernel_rfl
theorem impl_isRising_pc (N : Nat) : PC Try.prog 117 (impl_isRising_S N) := by
  have e : impl_isRising_S N = ⟨impl_isRising_ps, impl_isRising_rs, funF (impl_isRising_G N) tab [impl_isRising_l0_s N] Try.f117 impl_isRising_ps impl_isRising_rs⟩ := congrArg (FSum.mk impl_isRising_ps impl_isRising_rs) (funext (impl_isRising_run N))
  rw [e]
  exact fun_ok (c := impl_isRising_code) progOk (impl_isRising_gok N) (draw_ok progOk (impl_isRising_gok N)) Try.call117 Try.func117 (by kernel_rfl) (lsOk_at (L := [impl_isRising_l0_s N]) ⟨impl_isRising_l0_ok N, trivial⟩) (by kernel_rfl) (by kernel_rfl) (by kernel_rfl) (by kernel_rfl) (by kernel_rfl)

/-! ### slices_Clone_LI_int -/
noncomputable def slices_Clone_LI_int_G (N : Nat) : GTab := gOf []
theorem slices_Clone_LI_int_gok (N : Nat) : GOk Try.prog (slices_Clone_LI_int_G N) := gOf_ok trivial
noncomputable def slices_Clone_LI_int_code : Code := (Try.f111.body).getD .skip
noncomputable def slices_Clone_LI_int (N : Nat) (s : (List Int)) : Option (((List Int) × Unit) × (Unit)) :=
  (br (ieq (tLen s) 0)
    ((amb
      (some (([], ()), ()))
      ((chk (room (α := Int) (β := Int) [] s)
        (some (((tApp [] s), ()), ()))))))
    ((chk (room (α := Int) (β := Int) [] s)
      (some (((tApp [] s), ()), ())))))
abbrev slices_Clone_LI_int_ps : List (PV.Mode × Ty) := [(.ro, LI)]
abbrev slices_Clone_LI_int_rs : List (Bool × Ty) := [(true, LI)]
noncomputable def slices_Clone_LI_int_S (N : Nat) : FSum := ⟨slices_Clone_LI_int_ps, slices_Clone_LI_int_rs, fun x => slices_Clone_LI_int N x.1⟩
theorem slices_Clone_LI_int_run (N : Nat) (x : argsT slices_Clone_LI_int_ps) : slices_Clone_LI_int N x.1 = funF (slices_Clone_LI_int_G N) tab [] Try.f111 slices_Clone_LI_int_ps slices_Clone_LI_int_rs x := by kernel_rfl
theorem slices_Clone_LI_int_pc (N : Nat) : PC Try.prog 111 (slices_Clone_LI_int_S N) := by
  have e : slices_Clone_LI_int_S N = ⟨slices_Clone_LI_int_ps, slices_Clone_LI_int_rs, funF (slices_Clone_LI_int_G N) tab [] Try.f111 slices_Clone_LI_int_ps slices_Clone_LI_int_rs⟩ := congrArg (FSum.mk slices_Clone_LI_int_ps slices_Clone_LI_int_rs) (funext (slices_Clone_LI_int_run N))
  rw [e]
  exact fun_ok (c := slices_Clone_LI_int_code) progOk (slices_Clone_LI_int_gok N) (draw_ok progOk (slices_Clone_LI_int_gok N)) Try.call111 Try.func111 (by kernel_rfl) (lsOk_at (L := []) trivial) (by kernel_rfl) (by kernel_rfl) (by kernel_rfl) (by kernel_rfl) (by kernel_rfl)

/-! ### impl_copyLists -/
noncomputable def impl_copyLists_G (N : Nat) : GTab := gOf [(111, slices_Clone_LI_int_S N)]
theorem impl_copyLists_gok (N : Nat) : GOk Try.prog (impl_copyLists_G N) := gOf_ok ⟨slices_Clone_LI_int_pc N, trivial⟩
noncomputable def impl_copyLists_code : Code := (Try.f118.body).getD .skip
noncomputable def impl_copyLists_l0_sh : Sh := ⟨[(3, .one (.ref 0)), (7, .one (.ro LLI)), (8, .one (.ro I)), (9, .one (.ro I))], [.sl 33 LI .deep]⟩
noncomputable def impl_copyLists_l0_ex : List (Ex × Sh) := [(.exit 0, ⟨[(3, .one (.ref 0))], [.sl 33 LI .deep]⟩)]
noncomputable def impl_copyLists_l0 {R : Type} (N : Nat) (k0 : (List (List Int)) → Option R) : Nat → (List (List Int)) → Int → Int → (List (List Int)) → Option R
  | 0, _, _, _, _ => none
  | K + 1, x, x1, x2, o =>
    (br (ilt x2 x1)
      ((chk (inb x x2)
        ((slices_Clone_LI_int N (rdL x x2)).bind fun r =>
        (chk (room o [r.1.1])
          (impl_copyLists_l0 N k0 K x x1 (IntKind.i64.wrap (x2 + 1)) (tApp o [r.1.1]))))))
      (k0 o))
noncomputable def impl_copyLists_l0_again {R : Type} (N : Nat) (ks : (j : Nat) → ((impl_copyLists_l0_ex.getD j (.ret, Sh.none)).2).T → Option R) (k : Nat) (x : impl_copyLists_l0_sh.T) : Option R :=
  impl_copyLists_l0 N (fun y0 => ks 0 (((), ()), (y0, ()))) k x.1.2.1 x.1.2.2.1 x.1.2.2.2.1 x.2.1
noncomputable def impl_copyLists_l0_s (N : Nat) : LSum := ⟨impl_copyLists_l0_sh, impl_copyLists_l0_ex, fun x ks => impl_copyLists_l0_again N ks N x⟩
theorem impl_copyLists_l0_step (N : Nat) (R : Type) (k : Nat) (x : impl_copyLists_l0_sh.T) (ks : (j : Nat) → ((impl_copyLists_l0_ex.getD j (.ret, Sh.none)).2).T → Option R) : impl_copyLists_l0_again N ks (k + 1) x = roundF (impl_copyLists_G N) tab [] (loopAt impl_copyLists_code 0) impl_copyLists_l0_sh impl_copyLists_l0_ex (fun y => impl_copyLists_l0_again N ks k y) ks x := by kernel_rfl
theorem impl_copyLists_l0_ok (N : Nat) : LoopOk Try.prog Try.f118.ntmps (impl_copyLists_l0_s N) (loopAt impl_copyLists_code 0) :=
  loop_ok (l := impl_copyLists_l0_s N) progOk (impl_copyLists_gok N) (draw_ok progOk (impl_copyLists_gok N)) (fun R k x ks => impl_copyLists_l0_again N ks k x) (fun _ _ _ => rfl) (fun R k x ks => impl_copyLists_l0_step N R k x ks) (fun R x ks r h => ⟨N, h⟩) (lsOk_at (L := []) trivial) (by kernel_rfl) (by kernel_rfl)
noncomputable def impl_copyLists (N : Nat) (lists : (List (List Int))) : Option (((List (List Int)) × Unit) × (Unit)) :=
  impl_copyLists_l0 N (fun o => some ((o, ()), ())) N lists (tLen lists) 0 []
abbrev impl_copyLists_ps : List (PV.Mode × Ty) := [(.ro, LLI)]
abbrev impl_copyLists_rs : List (Bool × Ty) := [(true, LLI)]
noncomputable def impl_copyLists_S (N : Nat) : FSum := ⟨impl_copyLists_ps, impl_copyLists_rs, fun x => impl_copyLists N x.1⟩
theorem impl_copyLists_run (N : Nat) (x : argsT impl_copyLists_ps) : impl_copyLists N x.1 = funF (impl_copyLists_G N) tab [impl_copyLists_l0_s N] Try.f118 impl_copyLists_ps impl_copyLists_rs x := by kernel_rfl
theorem impl_copyLists_pc (N : Nat) : PC Try.prog 118 (impl_copyLists_S N) := by
  have e : impl_copyLists_S N = ⟨impl_copyLists_ps, impl_copyLists_rs, funF (impl_copyLists_G N) tab [impl_copyLists_l0_s N] Try.f118 impl_copyLists_ps impl_copyLists_rs⟩ := congrArg (FSum.mk impl_copyLists_ps impl_copyLists_rs) (funext (impl_copyLists_run N))
  rw [e]
  exact fun_ok (c := impl_copyLists_code) progOk (impl_copyLists_gok N) (draw_ok progOk (impl_copyLists_gok N)) Try.call118 Try.func118 (by kernel_rfl) (lsOk_at (L := [impl_copyLists_l0_s N]) ⟨impl_copyLists_l0_ok N, trivial⟩) (by kernel_rfl) (by kernel_rfl) (by kernel_rfl) (by kernel_rfl) (by kernel_rfl)

/-! ### slices_Index_LI_int -/
noncomputable def slices_Index_LI_int_G (N : Nat) : GTab := gOf []
theorem slices_Index_LI_int_gok (N : Nat) : GOk Try.prog (slices_Index_LI_int_G N) := gOf_ok trivial
noncomputable def slices_Index_LI_int_code : Code := (Try.f148.body).getD .skip
noncomputable def slices_Index_LI_int_l0_sh : Sh := ⟨[(0, .one (.ro LI)), (1, .one (.ro I)), (7, .one (.ro I)), (8, .one (.ro I))], []⟩
noncomputable def slices_Index_LI_int_l0_ex : List (Ex × Sh) := [(.ret, ⟨[(4, .one (.ro I))], []⟩), (.exit 0, ⟨[], []⟩)]
noncomputable def slices_Index_LI_int_l0 {R : Type} (N : Nat) (k0 : Int → Option R) (k1 : Unit → Option R) : Nat → (List Int) → Int → Int → Int → Option R
  | 0, _, _, _, _ => none
  | K + 1, s1, v1, x, x1 =>
    (br (ilt x1 x)
      ((chk (inb s1 x1)
        (br (ieq v1 (rdI s1 x1))
        (k0 x1)
        (slices_Index_LI_int_l0 N k0 k1 K s1 v1 x (IntKind.i64.wrap (x1 + 1))))))
      (k1 ()))
noncomputable def slices_Index_LI_int_l0_again {R : Type} (N : Nat) (ks : (j : Nat) → ((slices_Index_LI_int_l0_ex.getD j (.ret, Sh.none)).2).T → Option R) (k : Nat) (x : slices_Index_LI_int_l0_sh.T) : Option R :=
  slices_Index_LI_int_l0 N (fun y0 => ks 0 ((y0, ()), ())) (fun (_ : Unit) => ks 1 ((), ())) k x.1.1 x.1.2.1 x.1.2.2.1 x.1.2.2.2.1
noncomputable def slices_Index_LI_int_l0_s (N : Nat) : LSum := ⟨slices_Index_LI_int_l0_sh, slices_Index_LI_int_l0_ex, fun x ks => slices_Index_LI_int_l0_again N ks N x⟩
theorem slices_Index_LI_int_l0_step (N : Nat) (R : Type) (k : Nat) (x : slices_Index_LI_int_l0_sh.T) (ks : (j : Nat) → ((slices_Index_LI_int_l0_ex.getD j (.ret, Sh.none)).2).T → Option R) : slices_Index_LI_int_l0_again N ks (k + 1) x = roundF (slices_Index_LI_int_G N) tab [] (loopAt slices_Index_LI_int_code 0) slices_Index_LI_int_l0_sh slices_Index_LI_int_l0_ex (fun y => slices_Index_LI_int_l0_again N ks k y) ks x := by kernel_rfl
theorem slices_Index_LI_int_l0_ok (N : Nat) : LoopOk Try.prog Try.f148.ntmps (slices_Index_LI_int_l0_s N) (loopAt slices_Index_LI_int_code 0) :=
  loop_ok (l := slices_Index_LI_int_l0_s N) progOk (slices_Index_LI_int_gok N) (draw_ok progOk (slices_Index_LI_int_gok N)) (fun R k x ks => slices_Index_LI_int_l0_again N ks k x) (fun _ _ _ => rfl) (fun R k x ks => slices_Index_LI_int_l0_step N R k x ks) (fun R x ks r h => ⟨N, h⟩) (lsOk_at (L := []) trivial) (by kernel_rfl) (by kernel_rfl)
noncomputable def slices_Index_LI_int (N : Nat) (s : (List Int)) (v : Int) : Option ((Int × Unit) × (Unit)) :=
  slices_Index_LI_int_l0 N (fun x => some ((x, ()), ())) (fun (_ : Unit) => some (((-1), ()), ())) N s v (tLen s) 0
abbrev slices_Index_LI_int_ps : List (PV.Mode × Ty) := [(.ro, LI), (.ro, I)]
abbrev slices_Index_LI_int_rs : List (Bool × Ty) := [(true, I)]
noncomputable def slices_Index_LI_int_S (N : Nat) : FSum := ⟨slices_Index_LI_int_ps, slices_Index_LI_int_rs, fun x => slices_Index_LI_int N x.1 x.2.1⟩
theorem slices_Index_LI_int_run (N : Nat) (x : argsT slices_Index_LI_int_ps) : slices_Index_LI_int N x.1 x.2.1 = funF (slices_Index_LI_int_G N) tab [slices_Index_LI_int_l0_s N] Try.f148 slices_Index_LI_int_ps slices_Index_LI_int_rs x := by kernel_rfl
theorem slices_Index_LI_int_pc (N : Nat) : PC Try.prog 148 (slices_Index_LI_int_S N) := by
  have e : slices_Index_LI_int_S N = ⟨slices_Index_LI_int_ps, slices_Index_LI_int_rs, funF (slices_Index_LI_int_G N) tab [slices_Index_LI_int_l0_s N] Try.f148 slices_Index_LI_int_ps slices_Index_LI_int_rs⟩ := congrArg (FSum.mk slices_Index_LI_int_ps slices_Index_LI_int_rs) (funext (slices_Index_LI_int_run N))
  rw [e]
  exact fun_ok (c := slices_Index_LI_int_code) progOk (slices_Index_LI_int_gok N) (draw_ok progOk (slices_Index_LI_int_gok N)) Try.call148 Try.func148 (by kernel_rfl) (lsOk_at (L := [slices_Index_LI_int_l0_s N]) ⟨slices_Index_LI_int_l0_ok N, trivial⟩) (by kernel_rfl) (by kernel_rfl) (by kernel_rfl) (by kernel_rfl) (by kernel_rfl)

/-! ### slices_Contains_LI_int -/
noncomputable def slices_Contains_LI_int_G (N : Nat) : GTab := gOf [(148, slices_Index_LI_int_S N)]
theorem slices_Contains_LI_int_gok (N : Nat) : GOk Try.prog (slices_Contains_LI_int_G N) := gOf_ok ⟨slices_Index_LI_int_pc N, trivial⟩
noncomputable def slices_Contains_LI_int_code : Code := (Try.f92.body).getD .skip
noncomputable def slices_Contains_LI_int (N : Nat) (s : (List Int)) (v : Int) : Option ((Bool × Unit) × (Unit)) :=
  ((slices_Index_LI_int N s v).bind fun r =>
    some (((ile 0 r.1.1), ()), ()))
abbrev slices_Contains_LI_int_ps : List (PV.Mode × Ty) := [(.ro, LI), (.ro, I)]
abbrev slices_Contains_LI_int_rs : List (Bool × Ty) := [(true, .bool)]
noncomputable def slices_Contains_LI_int_S (N : Nat) : FSum := ⟨slices_Contains_LI_int_ps, slices_Contains_LI_int_rs, fun x => slices_Contains_LI_int N x.1 x.2.1⟩
theorem slices_Contains_LI_int_run (N : Nat) (x : argsT slices_Contains_LI_int_ps) : slices_Contains_LI_int N x.1 x.2.1 = funF (slices_Contains_LI_int_G N) tab [] Try.f92 slices_Contains_LI_int_ps slices_Contains_LI_int_rs x := by kernel_rfl
theorem slices_Contains_LI_int_pc (N : Nat) : PC Try.prog 92 (slices_Contains_LI_int_S N) := by
  have e : slices_Contains_LI_int_S N = ⟨slices_Contains_LI_int_ps, slices_Contains_LI_int_rs, funF (slices_Contains_LI_int_G N) tab [] Try.f92 slices_Contains_LI_int_ps slices_Contains_LI_int_rs⟩ := congrArg (FSum.mk slices_Contains_LI_int_ps slices_Contains_LI_int_rs) (funext (slices_Contains_LI_int_run N))
  rw [e]
  exact fun_ok (c := slices_Contains_LI_int_code) progOk (slices_Contains_LI_int_gok N) (draw_ok progOk (slices_Contains_LI_int_gok N)) Try.call92 Try.func92 (by kernel_rfl) (lsOk_at (L := []) trivial) (by kernel_rfl) (by kernel_rfl) (by kernel_rfl) (by kernel_rfl) (by kernel_rfl)

/-! ### math_bits_Len64 -/
noncomputable def math_bits_Len64_G (N : Nat) : GTab := gOf []
theorem math_bits_Len64_gok (N : Nat) : GOk Try.prog (math_bits_Len64_G N) := gOf_ok trivial
noncomputable def math_bits_Len64_code : Code := (Try.f187.body).getD .skip
noncomputable def math_bits_Len64 (N : Nat) (x : Int) : Option ((Int × Unit) × (Unit)) :=
  (br (ile 4294967296 x)
    ((br (ile 65536 (shrI .u64 x 32))
      ((br (ile 256 (shrI .u64 (shrI .u64 x 32) 16))
        ((chk (strIn str0 (IntKind.u8.wrap ((shrI .u64 (shrI .u64 (shrI .u64 x 32) 16) 8))))
          (some (((IntKind.i64.wrap (56 + (IntKind.i64.wrap ((strAt str0 (IntKind.u8.wrap ((shrI .u64 (shrI .u64 (shrI .u64 x 32) 16) 8)))))))), ()), ()))))
        ((chk (strIn str0 (IntKind.u8.wrap ((shrI .u64 (shrI .u64 x 32) 16))))
          (some (((IntKind.i64.wrap (48 + (IntKind.i64.wrap ((strAt str0 (IntKind.u8.wrap ((shrI .u64 (shrI .u64 x 32) 16)))))))), ()), ()))))))
      ((br (ile 256 (shrI .u64 x 32))
        ((chk (strIn str0 (IntKind.u8.wrap ((shrI .u64 (shrI .u64 x 32) 8))))
          (some (((IntKind.i64.wrap (40 + (IntKind.i64.wrap ((strAt str0 (IntKind.u8.wrap ((shrI .u64 (shrI .u64 x 32) 8)))))))), ()), ()))))
        ((chk (strIn str0 (IntKind.u8.wrap ((shrI .u64 x 32))))
          (some (((IntKind.i64.wrap (32 + (IntKind.i64.wrap ((strAt str0 (IntKind.u8.wrap ((shrI .u64 x 32)))))))), ()), ()))))))))
    ((br (ile 65536 x)
      ((br (ile 256 (shrI .u64 x 16))
        ((chk (strIn str0 (IntKind.u8.wrap ((shrI .u64 (shrI .u64 x 16) 8))))
          (some (((IntKind.i64.wrap (24 + (IntKind.i64.wrap ((strAt str0 (IntKind.u8.wrap ((shrI .u64 (shrI .u64 x 16) 8)))))))), ()), ()))))
        ((chk (strIn str0 (IntKind.u8.wrap ((shrI .u64 x 16))))
          (some (((IntKind.i64.wrap (16 + (IntKind.i64.wrap ((strAt str0 (IntKind.u8.wrap ((shrI .u64 x 16)))))))), ()), ()))))))
      ((br (ile 256 x)
        ((chk (strIn str0 (IntKind.u8.wrap ((shrI .u64 x 8))))
          (some (((IntKind.i64.wrap (8 + (IntKind.i64.wrap ((strAt str0 (IntKind.u8.wrap ((shrI .u64 x 8)))))))), ()), ()))))
        ((chk (strIn str0 (IntKind.u8.wrap (x)))
          (some (((IntKind.i64.wrap (0 + (IntKind.i64.wrap ((strAt str0 (IntKind.u8.wrap (x))))))), ()), ())))))))))
abbrev math_bits_Len64_ps : List (PV.Mode × Ty) := [(.ro, U64)]
abbrev math_bits_Len64_rs : List (Bool × Ty) := [(true, I)]
noncomputable def math_bits_Len64_S (N : Nat) : FSum := ⟨math_bits_Len64_ps, math_bits_Len64_rs, fun x => math_bits_Len64 N x.1⟩
theorem math_bits_Len64_run (N : Nat) (x : argsT math_bits_Len64_ps) : math_bits_Len64 N x.1 = funF (math_bits_Len64_G N) tab [] Try.f187 math_bits_Len64_ps math_bits_Len64_rs x := by kernel_rfl
theorem math_bits_Len64_pc (N : Nat) : PC Try.prog 187 (math_bits_Len64_S N) := by
  have e : math_bits_Len64_S N = ⟨math_bits_Len64_ps, math_bits_Len64_rs, funF (math_bits_Len64_G N) tab [] Try.f187 math_bits_Len64_ps math_bits_Len64_rs⟩ := congrArg (FSum.mk math_bits_Len64_ps math_bits_Len64_rs) (funext (math_bits_Len64_run N))
  rw [e]
  exact fun_ok (c := math_bits_Len64_code) progOk (math_bits_Len64_gok N) (draw_ok progOk (math_bits_Len64_gok N)) Try.call187 Try.func187 (by kernel_rfl) (lsOk_at (L := []) trivial) (by kernel_rfl) (by kernel_rfl) (by kernel_rfl) (by kernel_rfl) (by kernel_rfl)

/-! ### math_bits_Len -/
noncomputable def math_bits_Len_G (N : Nat) : GTab := gOf [(187, math_bits_Len64_S N)]
theorem math_bits_Len_gok (N : Nat) : GOk Try.prog (math_bits_Len_G N) := gOf_ok ⟨math_bits_Len64_pc N, trivial⟩
noncomputable def math_bits_Len_code : Code := (Try.f161.body).getD .skip
noncomputable def math_bits_Len (N : Nat) (x : Int) : Option ((Int × Unit) × (Unit)) :=
  ((math_bits_Len64 N x).bind fun r =>
    some ((r.1.1, ()), ()))
abbrev math_bits_Len_ps : List (PV.Mode × Ty) := [(.ro, U64)]
abbrev math_bits_Len_rs : List (Bool × Ty) := [(true, I)]
noncomputable def math_bits_Len_S (N : Nat) : FSum := ⟨math_bits_Len_ps, math_bits_Len_rs, fun x => math_bits_Len N x.1⟩
theorem math_bits_Len_run (N : Nat) (x : argsT math_bits_Len_ps) : math_bits_Len N x.1 = funF (math_bits_Len_G N) tab [] Try.f161 math_bits_Len_ps math_bits_Len_rs x := by kernel_rfl
theorem math_bits_Len_pc (N : Nat) : PC Try.prog 161 (math_bits_Len_S N) := by
  have e : math_bits_Len_S N = ⟨math_bits_Len_ps, math_bits_Len_rs, funF (math_bits_Len_G N) tab [] Try.f161 math_bits_Len_ps math_bits_Len_rs⟩ := congrArg (FSum.mk math_bits_Len_ps math_bits_Len_rs) (funext (math_bits_Len_run N))
  rw [e]
  exact fun_ok (c := math_bits_Len_code) progOk (math_bits_Len_gok N) (draw_ok progOk (math_bits_Len_gok N)) Try.call161 Try.func161 (by kernel_rfl) (lsOk_at (L := []) trivial) (by kernel_rfl) (by kernel_rfl) (by kernel_rfl) (by kernel_rfl) (by kernel_rfl)

/-! ### cmp_isNaN_int -/
noncomputable def cmp_isNaN_int_G (N : Nat) : GTab := gOf []
theorem cmp_isNaN_int_gok (N : Nat) : GOk Try.prog (cmp_isNaN_int_G N) := gOf_ok trivial
noncomputable def cmp_isNaN_int_code : Code := (Try.f200.body).getD .skip
noncomputable def cmp_isNaN_int (N : Nat) (x : Int) : Option ((Bool × Unit) × (Unit)) :=
  some (((ine x x), ()), ())
abbrev cmp_isNaN_int_ps : List (PV.Mode × Ty) := [(.ro, I)]
abbrev cmp_isNaN_int_rs : List (Bool × Ty) := [(true, .bool)]
noncomputable def cmp_isNaN_int_S (N : Nat) : FSum := ⟨cmp_isNaN_int_ps, cmp_isNaN_int_rs, fun x => cmp_isNaN_int N x.1⟩
theorem cmp_isNaN_int_run (N : Nat) (x : argsT cmp_isNaN_int_ps) : cmp_isNaN_int N x.1 = funF (cmp_isNaN_int_G N) tab [] Try.f200 cmp_isNaN_int_ps cmp_isNaN_int_rs x := by kernel_rfl
theorem cmp_isNaN_int_pc (N : Nat) : PC Try.prog 200 (cmp_isNaN_int_S N) := by
  have e : cmp_isNaN_int_S N = ⟨cmp_isNaN_int_ps, cmp_isNaN_int_rs, funF (cmp_isNaN_int_G N) tab [] Try.f200 cmp_isNaN_int_ps cmp_isNaN_int_rs⟩ := congrArg (FSum.mk cmp_isNaN_int_ps cmp_isNaN_int_rs) (funext (cmp_isNaN_int_run N))
  rw [e]
  exact fun_ok (c := cmp_isNaN_int_code) progOk (cmp_isNaN_int_gok N) (draw_ok progOk (cmp_isNaN_int_gok N)) Try.call200 Try.func200 (by kernel_rfl) (lsOk_at (L := []) trivial) (by kernel_rfl) (by kernel_rfl) (by kernel_rfl) (by kernel_rfl) (by kernel_rfl)

/-! ### cmp_Less_int -/
noncomputable def cmp_Less_int_G (N : Nat) : GTab := gOf [(200, cmp_isNaN_int_S N)]
theorem cmp_Less_int_gok (N : Nat) : GOk Try.prog (cmp_Less_int_G N) := gOf_ok ⟨cmp_isNaN_int_pc N, trivial⟩
noncomputable def cmp_Less_int_code : Code := (Try.f183.body).getD .skip
noncomputable def cmp_Less_int (N : Nat) (x : Int) (y : Int) : Option ((Bool × Unit) × (Unit)) :=
  ((cmp_isNaN_int N x).bind fun r =>
    (br r.1.1
      (((cmp_isNaN_int N y).bind fun r1 =>
        (br (!r1.1.1)
          (some ((true, ()), ()))
          (some (((ilt x y), ()), ())))))
      (some (((ilt x y), ()), ()))))
abbrev cmp_Less_int_ps : List (PV.Mode × Ty) := [(.ro, I), (.ro, I)]
abbrev cmp_Less_int_rs : List (Bool × Ty) := [(true, .bool)]
noncomputable def cmp_Less_int_S (N : Nat) : FSum := ⟨cmp_Less_int_ps, cmp_Less_int_rs, fun x => cmp_Less_int N x.1 x.2.1⟩
theorem cmp_Less_int_run (N : Nat) (x : argsT cmp_Less_int_ps) : cmp_Less_int N x.1 x.2.1 = funF (cmp_Less_int_G N) tab [] Try.f183 cmp_Less_int_ps cmp_Less_int_rs x := by kernel_rfl
theorem cmp_Less_int_pc (N : Nat) : PC Try.prog 183 (cmp_Less_int_S N) := by
  have e : cmp_Less_int_S N = ⟨cmp_Less_int_ps, cmp_Less_int_rs, funF (cmp_Less_int_G N) tab [] Try.f183 cmp_Less_int_ps cmp_Less_int_rs⟩ := congrArg (FSum.mk cmp_Less_int_ps cmp_Less_int_rs) (funext (cmp_Less_int_run N))
  rw [e]
  exact fun_ok (c := cmp_Less_int_code) progOk (cmp_Less_int_gok N) (draw_ok progOk (cmp_Less_int_gok N)) Try.call183 Try.func183 (by kernel_rfl) (lsOk_at (L := []) trivial) (by kernel_rfl) (by kernel_rfl) (by kernel_rfl) (by kernel_rfl) (by kernel_rfl)
end Go.Proofs.Ythkejedgfhjdiaa
