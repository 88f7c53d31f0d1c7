/- Functions of the program as functions on data. -/
import Derived.Test.YtfbkjgeaoafejaaFlipSpaceTa
set_option linter.all false
namespace Go.Proofs.Ytfbkjgeaoafejaa
open Go Go.PV
/-! ### laws_szIntS -/
abbrev laws_szIntS_ps : List (PV.Mode × Ty) := [(.ro, LI), (.ro, I)]
abbrev laws_szIntS_rs : List (Bool × Ty) := [(true, I)]
noncomputable def laws_szIntS_G (N : Nat) : GTab := gOf []
theorem laws_szIntS_gok (N : Nat) : GOk Try.prog (laws_szIntS_G N) := gOf_ok trivial
noncomputable def laws_szIntS_code : Code := (Try.f110.body).getD .skip
noncomputable def laws_szIntS (N : Nat) (a : (List Int)) (left : Int) : Option ((Int × Unit) × (Unit)) :=
  (br (ilt (IntKind.i64.wrap (left - (tLen a))) 0)
    (some (((-1), ()), ()))
    (some (((IntKind.i64.wrap (left - (tLen a))), ()), ())))
noncomputable def laws_szIntS_S (N : Nat) : FSum := ⟨laws_szIntS_ps, laws_szIntS_rs, fun x => laws_szIntS N x.1 x.2.1⟩
theorem laws_szIntS_run (N : Nat) (x : argsT laws_szIntS_ps) : laws_szIntS N x.1 x.2.1 = funF (laws_szIntS_G N) tab [] Try.f110 laws_szIntS_ps laws_szIntS_rs x := by kernel_rfl
theorem laws_szIntS_pc (N : Nat) : PC Try.prog 110 (laws_szIntS_S N) := by
  have e : laws_szIntS_S N = ⟨laws_szIntS_ps, laws_szIntS_rs, funF (laws_szIntS_G N) tab [] Try.f110 laws_szIntS_ps laws_szIntS_rs⟩ := congrArg (FSum.mk laws_szIntS_ps laws_szIntS_rs) (funext (laws_szIntS_run N))
  rw [e]
  exact fun_ok (c := laws_szIntS_code) progOk (laws_szIntS_gok N) (draw_ok progOk (laws_szIntS_gok N)) Try.call110 Try.func110 (by kernel_rfl) (lsOk_at (L := []) trivial) (by kernel_rfl) (by kernel_rfl) (by kernel_rfl) (by kernel_rfl) (by kernel_rfl)

/-! ### laws_szIntSS -/
abbrev laws_szIntSS_ps : List (PV.Mode × Ty) := [(.ro, LLI), (.ro, I)]
abbrev laws_szIntSS_rs : List (Bool × Ty) := [(true, I)]
noncomputable def laws_szIntSS_G (N : Nat) : GTab := gOf [(110, laws_szIntS_S N)]
theorem laws_szIntSS_gok (N : Nat) : GOk Try.prog (laws_szIntSS_G N) := gOf_ok ⟨laws_szIntS_pc N, trivial⟩
noncomputable def laws_szIntSS_code : Code := (Try.f102.body).getD .skip
noncomputable def laws_szIntSS_l0_sh : Sh := ⟨[(0, .one (.ro LLI)), (1, .one (.ro I)), (5, .one (.ro I))], []⟩
noncomputable def laws_szIntSS_l0_ex : List (Ex × Sh) := [(.ret, ⟨[(4, .one (.ro I))], []⟩), (.exit 0, ⟨[(1, .one (.ro I))], []⟩)]
noncomputable def laws_szIntSS_l0 {R : Type} (N : Nat) (k0 : Int → Option R) (k1 : Int → Option R) : Nat → (List (List Int)) → Int → Int → Option R
  | 0, _, _, _ => none
  | K + 1, a1, left1, i =>
    (br (ilt i (tLen a1))
      ((chk (inb a1 i)
        ((laws_szIntS N (rdL a1 i) left1).bind fun r =>
        (br (ilt r.1.1 0)
          (k0 (-1))
          (laws_szIntSS_l0 N k0 k1 K a1 r.1.1 (IntKind.i64.wrap (i + 1)))))))
      (k1 left1))
noncomputable def laws_szIntSS_l0_again {R : Type} (N : Nat) (ks : (j : Nat) → ((laws_szIntSS_l0_ex.getD j (.ret, Sh.none)).2).T → Option R) (k : Nat) (x : laws_szIntSS_l0_sh.T) : Option R :=
  laws_szIntSS_l0 N (fun y0 => ks 0 ((y0, ()), ())) (fun y0 => ks 1 ((y0, ()), ())) k x.1.1 x.1.2.1 x.1.2.2.1
noncomputable def laws_szIntSS_l0_s (N : Nat) : LSum := ⟨laws_szIntSS_l0_sh, laws_szIntSS_l0_ex, fun x ks => laws_szIntSS_l0_again N ks N x⟩
theorem laws_szIntSS_l0_step (N : Nat) (R : Type) (k : Nat) (x : laws_szIntSS_l0_sh.T) (ks : (j : Nat) → ((laws_szIntSS_l0_ex.getD j (.ret, Sh.none)).2).T → Option R) : laws_szIntSS_l0_again N ks (k + 1) x = roundF (laws_szIntSS_G N) tab [] (loopAt laws_szIntSS_code 0) laws_szIntSS_l0_sh laws_szIntSS_l0_ex (fun y => laws_szIntSS_l0_again N ks k y) ks x := by kernel_rfl
theorem laws_szIntSS_l0_ok (N : Nat) : LoopOk Try.prog Try.f102.ntmps (laws_szIntSS_l0_s N) (loopAt laws_szIntSS_code 0) :=
  loop_ok (l := laws_szIntSS_l0_s N) progOk (laws_szIntSS_gok N) (draw_ok progOk (laws_szIntSS_gok N)) (fun R k x ks => laws_szIntSS_l0_again N ks k x) (fun _ _ _ => rfl) (fun R k x ks => laws_szIntSS_l0_step N R k x ks) (fun R x ks r h => ⟨N, h⟩) (lsOk_at (L := []) trivial) (by kernel_rfl) (by kernel_rfl)
noncomputable def laws_szIntSS (N : Nat) (a : (List (List Int))) (left : Int) : Option ((Int × Unit) × (Unit)) :=
  (br (ilt (IntKind.i64.wrap (left - (tLen a))) 0)
    (some (((-1), ()), ()))
    (laws_szIntSS_l0 N (fun x => some ((x, ()), ())) (fun left1 => some ((left1, ()), ())) N a (IntKind.i64.wrap (left - (tLen a))) 0))
noncomputable def laws_szIntSS_S (N : Nat) : FSum := ⟨laws_szIntSS_ps, laws_szIntSS_rs, fun x => laws_szIntSS N x.1 x.2.1⟩
theorem laws_szIntSS_run (N : Nat) (x : argsT laws_szIntSS_ps) : laws_szIntSS N x.1 x.2.1 = funF (laws_szIntSS_G N) tab [laws_szIntSS_l0_s N] Try.f102 laws_szIntSS_ps laws_szIntSS_rs x := by kernel_rfl
theorem laws_szIntSS_pc (N : Nat) : PC Try.prog 102 (laws_szIntSS_S N) := by
  have e : laws_szIntSS_S N = ⟨laws_szIntSS_ps, laws_szIntSS_rs, funF (laws_szIntSS_G N) tab [laws_szIntSS_l0_s N] Try.f102 laws_szIntSS_ps laws_szIntSS_rs⟩ := congrArg (FSum.mk laws_szIntSS_ps laws_szIntSS_rs) (funext (laws_szIntSS_run N))
  rw [e]
  exact fun_ok (c := laws_szIntSS_code) progOk (laws_szIntSS_gok N) (draw_ok progOk (laws_szIntSS_gok N)) Try.call102 Try.func102 (by kernel_rfl) (lsOk_at (L := [laws_szIntSS_l0_s N]) ⟨laws_szIntSS_l0_ok N, trivial⟩) (by kernel_rfl) (by kernel_rfl) (by kernel_rfl) (by kernel_rfl) (by kernel_rfl)

/-! ### laws_szFormula -/
abbrev laws_szFormula_ps : List (PV.Mode × Ty) := [(.ro, QILLI), (.ro, I)]
abbrev laws_szFormula_rs : List (Bool × Ty) := [(true, I)]
noncomputable def laws_szFormula_G (N : Nat) : GTab := gOf [(102, laws_szIntSS_S N)]
theorem laws_szFormula_gok (N : Nat) : GOk Try.prog (laws_szFormula_G N) := gOf_ok ⟨laws_szIntSS_pc N, trivial⟩
noncomputable def laws_szFormula_code : Code := (Try.f40.body).getD .skip
noncomputable def laws_szFormula (N : Nat) (a : (Int × (List (List Int)))) (left : Int) : Option ((Int × Unit) × (Unit)) :=
  ((laws_szIntSS N a.2 left).bind fun r =>
    (br (ilt r.1.1 0)
      (some (((-1), ()), ()))
      (some ((r.1.1, ()), ()))))
noncomputable def laws_szFormula_S (N : Nat) : FSum := ⟨laws_szFormula_ps, laws_szFormula_rs, fun x => laws_szFormula N x.1 x.2.1⟩
theorem laws_szFormula_run (N : Nat) (x : argsT laws_szFormula_ps) : laws_szFormula N x.1 x.2.1 = funF (laws_szFormula_G N) tab [] Try.f40 laws_szFormula_ps laws_szFormula_rs x := by kernel_rfl
theorem laws_szFormula_pc (N : Nat) : PC Try.prog 40 (laws_szFormula_S N) := by
  have e : laws_szFormula_S N = ⟨laws_szFormula_ps, laws_szFormula_rs, funF (laws_szFormula_G N) tab [] Try.f40 laws_szFormula_ps laws_szFormula_rs⟩ := congrArg (FSum.mk laws_szFormula_ps laws_szFormula_rs) (funext (laws_szFormula_run N))
  rw [e]
  exact fun_ok (c := laws_szFormula_code) progOk (laws_szFormula_gok N) (draw_ok progOk (laws_szFormula_gok N)) Try.call40 Try.func40 (by kernel_rfl) (lsOk_at (L := []) trivial) (by kernel_rfl) (by kernel_rfl) (by kernel_rfl) (by kernel_rfl) (by kernel_rfl)

/-! ### laws_toIntS -/
abbrev laws_toIntS_ps : List (PV.Mode × Ty) := [(.ro, LI)]
abbrev laws_toIntS_rs : List (Bool × Ty) := [(true, LI)]
noncomputable def laws_toIntS_G (N : Nat) : GTab := gOf []
theorem laws_toIntS_gok (N : Nat) : GOk Try.prog (laws_toIntS_G N) := gOf_ok trivial
noncomputable def laws_toIntS_code : Code := (Try.f33.body).getD .skip
noncomputable def laws_toIntS_l0_sh : Sh := ⟨[(0, .one (.ro LI)), (3, .one (.ref 0)), (4, .one (.ro I))], [.sl 3 I .own]⟩
noncomputable def laws_toIntS_l0_ex : List (Ex × Sh) := [(.exit 0, ⟨[(3, .one (.ref 0))], [.sl 3 I .own]⟩)]
noncomputable def laws_toIntS_l0 {R : Type} (N : Nat) (k0 : (List Int) → Option R) : Nat → (List Int) → Int → (List Int) → Option R
  | 0, _, _, _ => none
  | K + 1, a1, i, o =>
    (br (ilt i (tLen a1))
      ((chk (inb a1 i)
        (chk (inb o i)
        (laws_toIntS_l0 N k0 K a1 (IntKind.i64.wrap (i + 1)) (tSet o i (rdI a1 i))))))
      (k0 o))
noncomputable def laws_toIntS_l0_again {R : Type} (N : Nat) (ks : (j : Nat) → ((laws_toIntS_l0_ex.getD j (.ret, Sh.none)).2).T → Option R) (k : Nat) (x : laws_toIntS_l0_sh.T) : Option R :=
  laws_toIntS_l0 N (fun y0 => ks 0 (((), ()), (y0, ()))) k x.1.1 x.1.2.2.1 x.2.1
noncomputable def laws_toIntS_l0_s (N : Nat) : LSum := ⟨laws_toIntS_l0_sh, laws_toIntS_l0_ex, fun x ks => laws_toIntS_l0_again N ks N x⟩
theorem laws_toIntS_l0_step (N : Nat) (R : Type) (k : Nat) (x : laws_toIntS_l0_sh.T) (ks : (j : Nat) → ((laws_toIntS_l0_ex.getD j (.ret, Sh.none)).2).T → Option R) : laws_toIntS_l0_again N ks (k + 1) x = roundF (laws_toIntS_G N) tab [] (loopAt laws_toIntS_code 0) laws_toIntS_l0_sh laws_toIntS_l0_ex (fun y => laws_toIntS_l0_again N ks k y) ks x := by kernel_rfl
theorem laws_toIntS_l0_ok (N : Nat) : LoopOk Try.prog Try.f33.ntmps (laws_toIntS_l0_s N) (loopAt laws_toIntS_code 0) :=
  loop_ok (l := laws_toIntS_l0_s N) progOk (laws_toIntS_gok N) (draw_ok progOk (laws_toIntS_gok N)) (fun R k x ks => laws_toIntS_l0_again N ks k x) (fun _ _ _ => rfl) (fun R k x ks => laws_toIntS_l0_step N R k x ks) (fun R x ks r h => ⟨N, h⟩) (lsOk_at (L := []) trivial) (by kernel_rfl) (by kernel_rfl)
noncomputable def laws_toIntS (N : Nat) (a : (List Int)) : Option (((List Int) × Unit) × (Unit)) :=
  (chk (ile 0 (tLen a) && ile (tLen a) (tLen a) && fits (tLen a))
    (laws_toIntS_l0 N (fun o => some ((o, ()), ())) N a 0 (tRep (tLen a) (0 : Int))))
noncomputable def laws_toIntS_S (N : Nat) : FSum := ⟨laws_toIntS_ps, laws_toIntS_rs, fun x => laws_toIntS N x.1⟩
theorem laws_toIntS_run (N : Nat) (x : argsT laws_toIntS_ps) : laws_toIntS N x.1 = funF (laws_toIntS_G N) tab [laws_toIntS_l0_s N] Try.f33 laws_toIntS_ps laws_toIntS_rs x := by kernel_rfl
theorem laws_toIntS_pc (N : Nat) : PC Try.prog 33 (laws_toIntS_S N) := by
  have e : laws_toIntS_S N = ⟨laws_toIntS_ps, laws_toIntS_rs, funF (laws_toIntS_G N) tab [laws_toIntS_l0_s N] Try.f33 laws_toIntS_ps laws_toIntS_rs⟩ := congrArg (FSum.mk laws_toIntS_ps laws_toIntS_rs) (funext (laws_toIntS_run N))
  rw [e]
  exact fun_ok (c := laws_toIntS_code) progOk (laws_toIntS_gok N) (draw_ok progOk (laws_toIntS_gok N)) Try.call33 Try.func33 (by kernel_rfl) (lsOk_at (L := [laws_toIntS_l0_s N]) ⟨laws_toIntS_l0_ok N, trivial⟩) (by kernel_rfl) (by kernel_rfl) (by kernel_rfl) (by kernel_rfl) (by kernel_rfl)

/-! ### laws_toIntSS -/
abbrev laws_toIntSS_ps : List (PV.Mode × Ty) := [(.ro, LLI)]
abbrev laws_toIntSS_rs : List (Bool × Ty) := [(true, LLI)]
noncomputable def laws_toIntSS_G (N : Nat) : GTab := gOf [(33, laws_toIntS_S N)]
theorem laws_toIntSS_gok (N : Nat) : GOk Try.prog (laws_toIntSS_G N) := gOf_ok ⟨laws_toIntS_pc N, trivial⟩
noncomputable def laws_toIntSS_code : Code := (Try.f106.body).getD .skip
noncomputable def laws_toIntSS_l0_sh : Sh := ⟨[(0, .one (.ro LLI)), (3, .one (.ref 0)), (4, .one (.ro I))], [.sl 42 LI .deep]⟩
noncomputable def laws_toIntSS_l0_ex : List (Ex × Sh) := [(.exit 0, ⟨[(3, .one (.ref 0))], [.sl 42 LI .deep]⟩)]
noncomputable def laws_toIntSS_l0 {R : Type} (N : Nat) (k0 : (List (List Int)) → Option R) : Nat → (List (List Int)) → Int → (List (List Int)) → Option R
  | 0, _, _, _ => none
  | K + 1, a1, i, o =>
    (br (ilt i (tLen a1))
      ((chk (inb a1 i)
        ((laws_toIntS N (rdL a1 i)).bind fun r =>
        (chk (inb o i)
          (laws_toIntSS_l0 N k0 K a1 (IntKind.i64.wrap (i + 1)) (tSet o i r.1.1))))))
      (k0 o))
noncomputable def laws_toIntSS_l0_again {R : Type} (N : Nat) (ks : (j : Nat) → ((laws_toIntSS_l0_ex.getD j (.ret, Sh.none)).2).T → Option R) (k : Nat) (x : laws_toIntSS_l0_sh.T) : Option R :=
  laws_toIntSS_l0 N (fun y0 => ks 0 (((), ()), (y0, ()))) k x.1.1 x.1.2.2.1 x.2.1
noncomputable def laws_toIntSS_l0_s (N : Nat) : LSum := ⟨laws_toIntSS_l0_sh, laws_toIntSS_l0_ex, fun x ks => laws_toIntSS_l0_again N ks N x⟩
theorem laws_toIntSS_l0_step (N : Nat) (R : Type) (k : Nat) (x : laws_toIntSS_l0_sh.T) (ks : (j : Nat) → ((laws_toIntSS_l0_ex.getD j (.ret, Sh.none)).2).T → Option R) : laws_toIntSS_l0_again N ks (k + 1) x = roundF (laws_toIntSS_G N) tab [] (loopAt laws_toIntSS_code 0) laws_toIntSS_l0_sh laws_toIntSS_l0_ex (fun y => laws_toIntSS_l0_again N ks k y) ks x := by kernel_rfl
theorem laws_toIntSS_l0_ok (N : Nat) : LoopOk Try.prog Try.f106.ntmps (laws_toIntSS_l0_s N) (loopAt laws_toIntSS_code 0) :=
  loop_ok (l := laws_toIntSS_l0_s N) progOk (laws_toIntSS_gok N) (draw_ok progOk (laws_toIntSS_gok N)) (fun R k x ks => laws_toIntSS_l0_again N ks k x) (fun _ _ _ => rfl) (fun R k x ks => laws_toIntSS_l0_step N R k x ks) (fun R x ks r h => ⟨N, h⟩) (lsOk_at (L := []) trivial) (by kernel_rfl) (by kernel_rfl)
noncomputable def laws_toIntSS (N : Nat) (a : (List (List Int))) : Option (((List (List Int)) × Unit) × (Unit)) :=
  (chk (ile 0 (tLen a) && ile (tLen a) (tLen a) && fits (tLen a))
    (laws_toIntSS_l0 N (fun o => some ((o, ()), ())) N a 0 (tRep (tLen a) [])))
noncomputable def laws_toIntSS_S (N : Nat) : FSum := ⟨laws_toIntSS_ps, laws_toIntSS_rs, fun x => laws_toIntSS N x.1⟩
theorem laws_toIntSS_run (N : Nat) (x : argsT laws_toIntSS_ps) : laws_toIntSS N x.1 = funF (laws_toIntSS_G N) tab [laws_toIntSS_l0_s N] Try.f106 laws_toIntSS_ps laws_toIntSS_rs x := by kernel_rfl
theorem laws_toIntSS_pc (N : Nat) : PC Try.prog 106 (laws_toIntSS_S N) := by
  have e : laws_toIntSS_S N = ⟨laws_toIntSS_ps, laws_toIntSS_rs, funF (laws_toIntSS_G N) tab [laws_toIntSS_l0_s N] Try.f106 laws_toIntSS_ps laws_toIntSS_rs⟩ := congrArg (FSum.mk laws_toIntSS_ps laws_toIntSS_rs) (funext (laws_toIntSS_run N))
  rw [e]
  exact fun_ok (c := laws_toIntSS_code) progOk (laws_toIntSS_gok N) (draw_ok progOk (laws_toIntSS_gok N)) Try.call106 Try.func106 (by kernel_rfl) (lsOk_at (L := [laws_toIntSS_l0_s N]) ⟨laws_toIntSS_l0_ok N, trivial⟩) (by kernel_rfl) (by kernel_rfl) (by kernel_rfl) (by kernel_rfl) (by kernel_rfl)

/-! ### laws_toFormula -/
abbrev laws_toFormula_ps : List (PV.Mode × Ty) := [(.ro, QILLI)]
abbrev laws_toFormula_rs : List (Bool × Ty) := [(true, QILLI)]
noncomputable def laws_toFormula_G (N : Nat) : GTab := gOf [(106, laws_toIntSS_S N)]
theorem laws_toFormula_gok (N : Nat) : GOk Try.prog (laws_toFormula_G N) := gOf_ok ⟨laws_toIntSS_pc N, trivial⟩
noncomputable def laws_toFormula_code : Code := (Try.f42.body).getD .skip
noncomputable def laws_toFormula (N : Nat) (a : (Int × (List (List Int)))) : Option (((Int × (List (List Int))) × Unit) × (Unit)) :=
  ((laws_toIntSS N a.2).bind fun r =>
    some (((a.1, r.1.1), ()), ()))
noncomputable def laws_toFormula_S (N : Nat) : FSum := ⟨laws_toFormula_ps, laws_toFormula_rs, fun x => laws_toFormula N x.1⟩
theorem laws_toFormula_run (N : Nat) (x : argsT laws_toFormula_ps) : laws_toFormula N x.1 = funF (laws_toFormula_G N) tab [] Try.f42 laws_toFormula_ps laws_toFormula_rs x := by kernel_rfl
theorem laws_toFormula_pc (N : Nat) : PC Try.prog 42 (laws_toFormula_S N) := by
  have e : laws_toFormula_S N = ⟨laws_toFormula_ps, laws_toFormula_rs, funF (laws_toFormula_G N) tab [] Try.f42 laws_toFormula_ps laws_toFormula_rs⟩ := congrArg (FSum.mk laws_toFormula_ps laws_toFormula_rs) (funext (laws_toFormula_run N))
  rw [e]
  exact fun_ok (c := laws_toFormula_code) progOk (laws_toFormula_gok N) (draw_ok progOk (laws_toFormula_gok N)) Try.call42 Try.func42 (by kernel_rfl) (lsOk_at (L := []) trivial) (by kernel_rfl) (by kernel_rfl) (by kernel_rfl) (by kernel_rfl) (by kernel_rfl)

/-! ### spec_l1In -/
abbrev spec_l1In_ps : List (PV.Mode × Ty) := [(.ro, I), (.ro, I), (.ro, I)]
abbrev spec_l1In_rs : List (Bool × Ty) := [(true, .bool)]
noncomputable def spec_l1In_G (N : Nat) : GTab := gOf []
theorem spec_l1In_gok (N : Nat) : GOk Try.prog (spec_l1In_G N) := gOf_ok trivial
noncomputable def spec_l1In_code : Code := (Try.f145.body).getD .skip
noncomputable def spec_l1In (N : Nat) (x : Int) (a : Int) (b : Int) : Option ((Bool × Unit) × (Unit)) :=
  (br (ile a x)
    (some (((ile x b), ()), ()))
    (some ((false, ()), ())))
noncomputable def spec_l1In_S (N : Nat) : FSum := ⟨spec_l1In_ps, spec_l1In_rs, fun x => spec_l1In N x.1 x.2.1 x.2.2.1⟩
theorem spec_l1In_run (N : Nat) (x : argsT spec_l1In_ps) : spec_l1In N x.1 x.2.1 x.2.2.1 = funF (spec_l1In_G N) tab [] Try.f145 spec_l1In_ps spec_l1In_rs x := by kernel_rfl
theorem spec_l1In_pc (N : Nat) : PC Try.prog 145 (spec_l1In_S N) := by
  have e : spec_l1In_S N = ⟨spec_l1In_ps, spec_l1In_rs, funF (spec_l1In_G N) tab [] Try.f145 spec_l1In_ps spec_l1In_rs⟩ := congrArg (FSum.mk spec_l1In_ps spec_l1In_rs) (funext (spec_l1In_run N))
  rw [e]
  exact fun_ok (c := spec_l1In_code) progOk (spec_l1In_gok N) (draw_ok progOk (spec_l1In_gok N)) Try.call145 Try.func145 (by kernel_rfl) (lsOk_at (L := []) trivial) (by kernel_rfl) (by kernel_rfl) (by kernel_rfl) (by kernel_rfl) (by kernel_rfl)

/-! ### spec_l6Literal -/
abbrev spec_l6Literal_ps : List (PV.Mode × Ty) := [(.ro, I), (.ro, I)]
abbrev spec_l6Literal_rs : List (Bool × Ty) := [(true, .bool)]
noncomputable def spec_l6Literal_G (N : Nat) : GTab := gOf [(145, spec_l1In_S N)]
theorem spec_l6Literal_gok (N : Nat) : GOk Try.prog (spec_l6Literal_G N) := gOf_ok ⟨spec_l1In_pc N, trivial⟩
noncomputable def spec_l6Literal_code : Code := (Try.f167.body).getD .skip
noncomputable def spec_l6Literal (N : Nat) (vars : Int) (x : Int) : Option ((Bool × Unit) × (Unit)) :=
  (br (ine x 0)
    (((spec_l1In N x (IntKind.i64.wrap (0 - vars)) vars).bind fun r =>
      some ((r.1.1, ()), ())))
    (some ((false, ()), ())))
noncomputable def spec_l6Literal_S (N : Nat) : FSum := ⟨spec_l6Literal_ps, spec_l6Literal_rs, fun x => spec_l6Literal N x.1 x.2.1⟩
theorem spec_l6Literal_run (N : Nat) (x : argsT spec_l6Literal_ps) : spec_l6Literal N x.1 x.2.1 = funF (spec_l6Literal_G N) tab [] Try.f167 spec_l6Literal_ps spec_l6Literal_rs x := by kernel_rfl
theorem spec_l6Literal_pc (N : Nat) : PC Try.prog 167 (spec_l6Literal_S N) := by
  have e : spec_l6Literal_S N = ⟨spec_l6Literal_ps, spec_l6Literal_rs, funF (spec_l6Literal_G N) tab [] Try.f167 spec_l6Literal_ps spec_l6Literal_rs⟩ := congrArg (FSum.mk spec_l6Literal_ps spec_l6Literal_rs) (funext (spec_l6Literal_run N))
  rw [e]
  exact fun_ok (c := spec_l6Literal_code) progOk (spec_l6Literal_gok N) (draw_ok progOk (spec_l6Literal_gok N)) Try.call167 Try.func167 (by kernel_rfl) (lsOk_at (L := []) trivial) (by kernel_rfl) (by kernel_rfl) (by kernel_rfl) (by kernel_rfl) (by kernel_rfl)

/-! ### spec_l6Good -/
abbrev spec_l6Good_ps : List (PV.Mode × Ty) := [(.ro, QILLI)]
abbrev spec_l6Good_rs : List (Bool × Ty) := [(true, .bool)]
noncomputable def spec_l6Good_G (N : Nat) : GTab := gOf [(145, spec_l1In_S N), (167, spec_l6Literal_S N)]
theorem spec_l6Good_gok (N : Nat) : GOk Try.prog (spec_l6Good_G N) := gOf_ok ⟨spec_l1In_pc N, spec_l6Literal_pc N, trivial⟩
noncomputable def spec_l6Good_code : Code := (Try.f103.body).getD .skip
noncomputable def spec_l6Good_l0_0_sh : Sh := ⟨[(1, .one (.adr 0 0)), (3, .one (.ro I)), (4, .one (.ro I))], [.box [.ro I, .ro LLI]]⟩
noncomputable def spec_l6Good_l0_0_ex : List (Ex × Sh) := [(.ret, ⟨[(2, .one (.ro .bool))], []⟩), (.exit 2, ⟨[(1, .one (.adr 0 0)), (3, .one (.ro I))], [.box [.ro I, .ro LLI]]⟩)]
noncomputable def spec_l6Good_l0_0 {R : Type} (N : Nat) (k0 : Bool → Option R) (k1 : Int → Int → (List (List Int)) → Option R) : Nat → Int → Int → Int → (List (List Int)) → Option R
  | 0, _, _, _, _ => none
  | K + 1, x1, x2, o2, o3 =>
    (chk (inb o3 x1)
      (br (ilt x2 (tLen (rdL o3 x1)))
      ((chk (inb o3 x1)
        (chk (inb (rdL o3 x1) x2)
        ((spec_l6Literal N o2 (rdI (rdL o3 x1) x2)).bind fun r1 =>
        (br (!r1.1.1)
          (k0 false)
          ((br (ilt 0 x2)
            ((chk (inb o3 x1)
              (chk (inb (rdL o3 x1) (IntKind.i64.wrap (x2 - 1)))
              (chk (inb o3 x1)
              (chk (inb (rdL o3 x1) x2)
              (br (ile (rdI (rdL o3 x1) x2) (rdI (rdL o3 x1) (IntKind.i64.wrap (x2 - 1))))
              (k0 false)
              (spec_l6Good_l0_0 N k0 k1 K x1 (IntKind.i64.wrap (x2 + 1)) o2 o3)))))))
            (spec_l6Good_l0_0 N k0 k1 K x1 (IntKind.i64.wrap (x2 + 1)) o2 o3))))))))
      (k1 x1 o2 o3)))
noncomputable def spec_l6Good_l0_0_again {R : Type} (N : Nat) (ks : (j : Nat) → ((spec_l6Good_l0_0_ex.getD j (.ret, Sh.none)).2).T → Option R) (k : Nat) (x : spec_l6Good_l0_0_sh.T) : Option R :=
  spec_l6Good_l0_0 N (fun y0 => ks 0 ((y0, ()), ())) (fun y0 y1 y2 => ks 1 (((), y0, ()), ((y1, y2, ()), ()))) k x.1.2.1 x.1.2.2.1 x.2.1.1 x.2.1.2.1
noncomputable def spec_l6Good_l0_0_s (N : Nat) : LSum := ⟨spec_l6Good_l0_0_sh, spec_l6Good_l0_0_ex, fun x ks => spec_l6Good_l0_0_again N ks N x⟩
theorem spec_l6Good_l0_0_step (N : Nat) (R : Type) (k : Nat) (x : spec_l6Good_l0_0_sh.T) (ks : (j : Nat) → ((spec_l6Good_l0_0_ex.getD j (.ret, Sh.none)).2).T → Option R) : spec_l6Good_l0_0_again N ks (k + 1) x = roundF (spec_l6Good_G N) tab [] (loopAt (loopAt spec_l6Good_code 0) 0) spec_l6Good_l0_0_sh spec_l6Good_l0_0_ex (fun y => spec_l6Good_l0_0_again N ks k y) ks x := by kernel_rfl
theorem spec_l6Good_l0_0_ok (N : Nat) : LoopOk Try.prog Try.f103.ntmps (spec_l6Good_l0_0_s N) (loopAt (loopAt spec_l6Good_code 0) 0) :=
  loop_ok (l := spec_l6Good_l0_0_s N) progOk (spec_l6Good_gok N) (draw_ok progOk (spec_l6Good_gok N)) (fun R k x ks => spec_l6Good_l0_0_again N ks k x) (fun _ _ _ => rfl) (fun R k x ks => spec_l6Good_l0_0_step N R k x ks) (fun R x ks r h => ⟨N, h⟩) (lsOk_at (L := []) trivial) (by kernel_rfl) (by kernel_rfl)
noncomputable def spec_l6Good_l0_sh : Sh := ⟨[(1, .one (.adr 0 0)), (3, .one (.ro I))], [.box [.ro I, .ro LLI]]⟩
noncomputable def spec_l6Good_l0_ex : List (Ex × Sh) := [(.ret, ⟨[(2, .one (.ro .bool))], []⟩), (.exit 0, ⟨[], []⟩)]
noncomputable def spec_l6Good_l0 {R : Type} (N : Nat) (k0 : Bool → Option R) (k1 : Unit → Option R) : Nat → Int → Int → (List (List Int)) → Option R
  | 0, _, _, _ => none
  | K + 1, x, o, o1 =>
    (br (ilt x (tLen o1))
      (spec_l6Good_l0_0 N (fun x1 => k0 x1) (fun x2 o2 o3 => spec_l6Good_l0 N k0 k1 K (IntKind.i64.wrap (x2 + 1)) o2 o3) N x 0 o o1)
      (k1 ()))
noncomputable def spec_l6Good_l0_again {R : Type} (N : Nat) (ks : (j : Nat) → ((spec_l6Good_l0_ex.getD j (.ret, Sh.none)).2).T → Option R) (k : Nat) (x : spec_l6Good_l0_sh.T) : Option R :=
  spec_l6Good_l0 N (fun y0 => ks 0 ((y0, ()), ())) (fun (_ : Unit) => ks 1 ((), ())) k x.1.2.1 x.2.1.1 x.2.1.2.1
noncomputable def spec_l6Good_l0_s (N : Nat) : LSum := ⟨spec_l6Good_l0_sh, spec_l6Good_l0_ex, fun x ks => spec_l6Good_l0_again N ks N x⟩
theorem spec_l6Good_l0_step (N : Nat) (R : Type) (k : Nat) (x : spec_l6Good_l0_sh.T) (ks : (j : Nat) → ((spec_l6Good_l0_ex.getD j (.ret, Sh.none)).2).T → Option R) : spec_l6Good_l0_again N ks (k + 1) x = roundF (spec_l6Good_G N) tab [spec_l6Good_l0_0_s N] (loopAt spec_l6Good_code 0) spec_l6Good_l0_sh spec_l6Good_l0_ex (fun y => spec_l6Good_l0_again N ks k y) ks x := by kernel_rfl
theorem spec_l6Good_l0_ok (N : Nat) : LoopOk Try.prog Try.f103.ntmps (spec_l6Good_l0_s N) (loopAt spec_l6Good_code 0) :=
  loop_ok (l := spec_l6Good_l0_s N) progOk (spec_l6Good_gok N) (draw_ok progOk (spec_l6Good_gok N)) (fun R k x ks => spec_l6Good_l0_again N ks k x) (fun _ _ _ => rfl) (fun R k x ks => spec_l6Good_l0_step N R k x ks) (fun R x ks r h => ⟨N, h⟩) (lsOk_at (L := [spec_l6Good_l0_0_s N]) ⟨spec_l6Good_l0_0_ok N, trivial⟩) (by kernel_rfl) (by kernel_rfl)
noncomputable def spec_l6Good (N : Nat) (c : (Int × (List (List Int)))) : Option ((Bool × Unit) × (Unit)) :=
  ((spec_l1In N c.1 0 6).bind fun r =>
    (br (!r.1.1)
      (some ((false, ()), ()))
      ((br (ilt 64 (tLen c.2))
        (some ((false, ()), ()))
        (spec_l6Good_l0 N (fun x => some ((x, ()), ())) (fun (_ : Unit) => some ((true, ()), ())) N 0 c.1 c.2)))))
noncomputable def spec_l6Good_S (N : Nat) : FSum := ⟨spec_l6Good_ps, spec_l6Good_rs, fun x => spec_l6Good N x.1⟩
theorem spec_l6Good_run (N : Nat) (x : argsT spec_l6Good_ps) : spec_l6Good N x.1 = funF (spec_l6Good_G N) tab [spec_l6Good_l0_s N] Try.f103 spec_l6Good_ps spec_l6Good_rs x := by kernel_rfl
theorem spec_l6Good_pc (N : Nat) : PC Try.prog 103 (spec_l6Good_S N) := by
  have e : spec_l6Good_S N = ⟨spec_l6Good_ps, spec_l6Good_rs, funF (spec_l6Good_G N) tab [spec_l6Good_l0_s N] Try.f103 spec_l6Good_ps spec_l6Good_rs⟩ := congrArg (FSum.mk spec_l6Good_ps spec_l6Good_rs) (funext (spec_l6Good_run N))
  rw [e]
  exact fun_ok (c := spec_l6Good_code) progOk (spec_l6Good_gok N) (draw_ok progOk (spec_l6Good_gok N)) Try.call103 Try.func103 (by kernel_rfl) (lsOk_at (L := [spec_l6Good_l0_s N]) ⟨spec_l6Good_l0_ok N, trivial⟩) (by kernel_rfl) (by kernel_rfl) (by kernel_rfl) (by kernel_rfl) (by kernel_rfl)

/-! ### spec_l6All -/
abbrev spec_l6All_ps : List (PV.Mode × Ty) := [(.ro, I)]
abbrev spec_l6All_rs : List (Bool × Ty) := [(false, LLI)]
noncomputable def spec_l6All_G (N : Nat) : GTab := gOf []
theorem spec_l6All_gok (N : Nat) : GOk Try.prog (spec_l6All_G N) := gOf_ok trivial
noncomputable def spec_l6All_code : Code := (Try.f169.body).getD .skip
noncomputable def spec_l6All_l0_0_sh : Sh := ⟨[(0, .one (.ro I)), (3, .one (.ref 0)), (4, .one (.ro I)), (5, .one (.ref 1)), (6, .one (.ro I))], [.sl 42 LI .deep, .sl 3 I .own]⟩
noncomputable def spec_l6All_l0_0_ex : List (Ex × Sh) := [(.exit 2, ⟨[(0, .one (.ro I)), (3, .one (.ref 0)), (4, .one (.ro I)), (5, .one (.ref 1))], [.sl 42 LI .deep, .sl 3 I .own]⟩)]
noncomputable def spec_l6All_l0_0 {R : Type} (N : Nat) (k0 : Int → Int → (List (List Int)) → (List Int) → Option R) : Nat → Int → Int → Int → (List (List Int)) → (List Int) → Option R
  | 0, _, _, _, _, _ => none
  | K + 1, vars2, code1, v, o1, o2 =>
    (br (ilt v vars2)
      ((chk (ile 0 (IntKind.i64.wrap ((IntKind.i64.wrap (vars2 - 1)) - v)))
        (chk (room o2 [(bitop .and .i64 (shrI .i64 code1 (IntKind.i64.wrap ((IntKind.i64.wrap (vars2 - 1)) - v))) 1)])
        (spec_l6All_l0_0 N k0 K vars2 code1 (IntKind.i64.wrap (v + 1)) o1 (tApp o2 [(bitop .and .i64 (shrI .i64 code1 (IntKind.i64.wrap ((IntKind.i64.wrap (vars2 - 1)) - v))) 1)])))))
      (k0 vars2 code1 o1 o2))
noncomputable def spec_l6All_l0_0_again {R : Type} (N : Nat) (ks : (j : Nat) → ((spec_l6All_l0_0_ex.getD j (.ret, Sh.none)).2).T → Option R) (k : Nat) (x : spec_l6All_l0_0_sh.T) : Option R :=
  spec_l6All_l0_0 N (fun y0 y1 y2 y3 => ks 0 ((y0, (), y1, (), ()), (y2, y3, ()))) k x.1.1 x.1.2.2.1 x.1.2.2.2.2.1 x.2.1 x.2.2.1
noncomputable def spec_l6All_l0_0_s (N : Nat) : LSum := ⟨spec_l6All_l0_0_sh, spec_l6All_l0_0_ex, fun x ks => spec_l6All_l0_0_again N ks N x⟩
theorem spec_l6All_l0_0_step (N : Nat) (R : Type) (k : Nat) (x : spec_l6All_l0_0_sh.T) (ks : (j : Nat) → ((spec_l6All_l0_0_ex.getD j (.ret, Sh.none)).2).T → Option R) : spec_l6All_l0_0_again N ks (k + 1) x = roundF (spec_l6All_G N) tab [] (loopAt (loopAt spec_l6All_code 0) 0) spec_l6All_l0_0_sh spec_l6All_l0_0_ex (fun y => spec_l6All_l0_0_again N ks k y) ks x := by kernel_rfl
theorem spec_l6All_l0_0_ok (N : Nat) : LoopOk Try.prog Try.f169.ntmps (spec_l6All_l0_0_s N) (loopAt (loopAt spec_l6All_code 0) 0) :=
  loop_ok (l := spec_l6All_l0_0_s N) progOk (spec_l6All_gok N) (draw_ok progOk (spec_l6All_gok N)) (fun R k x ks => spec_l6All_l0_0_again N ks k x) (fun _ _ _ => rfl) (fun R k x ks => spec_l6All_l0_0_step N R k x ks) (fun R x ks r h => ⟨N, h⟩) (lsOk_at (L := []) trivial) (by kernel_rfl) (by kernel_rfl)
noncomputable def spec_l6All_l0_sh : Sh := ⟨[(0, .one (.ro I)), (3, .one (.ref 0)), (4, .one (.ro I))], [.sl 42 LI .deep]⟩
noncomputable def spec_l6All_l0_ex : List (Ex × Sh) := [(.exit 0, ⟨[(3, .one (.ref 0))], [.sl 42 LI .deep]⟩)]
noncomputable def spec_l6All_l0 {R : Type} (N : Nat) (k0 : (List (List Int)) → Option R) : Nat → Int → Int → (List (List Int)) → Option R
  | 0, _, _, _ => none
  | K + 1, vars1, code, o =>
    (chk (ile 0 vars1)
      (br (ilt code (shlI .i64 1 vars1))
      (spec_l6All_l0_0 N (fun vars2 code1 o1 o2 => (chk (room o1 [o2])
        (spec_l6All_l0 N k0 K vars2 (IntKind.i64.wrap (code1 + 1)) (tApp o1 [o2])))) N vars1 code 0 o [])
      (k0 o)))
noncomputable def spec_l6All_l0_again {R : Type} (N : Nat) (ks : (j : Nat) → ((spec_l6All_l0_ex.getD j (.ret, Sh.none)).2).T → Option R) (k : Nat) (x : spec_l6All_l0_sh.T) : Option R :=
  spec_l6All_l0 N (fun y0 => ks 0 (((), ()), (y0, ()))) k x.1.1 x.1.2.2.1 x.2.1
noncomputable def spec_l6All_l0_s (N : Nat) : LSum := ⟨spec_l6All_l0_sh, spec_l6All_l0_ex, fun x ks => spec_l6All_l0_again N ks N x⟩
theorem spec_l6All_l0_step (N : Nat) (R : Type) (k : Nat) (x : spec_l6All_l0_sh.T) (ks : (j : Nat) → ((spec_l6All_l0_ex.getD j (.ret, Sh.none)).2).T → Option R) : spec_l6All_l0_again N ks (k + 1) x = roundF (spec_l6All_G N) tab [spec_l6All_l0_0_s N] (loopAt spec_l6All_code 0) spec_l6All_l0_sh spec_l6All_l0_ex (fun y => spec_l6All_l0_again N ks k y) ks x := by kernel_rfl
theorem spec_l6All_l0_ok (N : Nat) : LoopOk Try.prog Try.f169.ntmps (spec_l6All_l0_s N) (loopAt spec_l6All_code 0) :=
  loop_ok (l := spec_l6All_l0_s N) progOk (spec_l6All_gok N) (draw_ok progOk (spec_l6All_gok N)) (fun R k x ks => spec_l6All_l0_again N ks k x) (fun _ _ _ => rfl) (fun R k x ks => spec_l6All_l0_step N R k x ks) (fun R x ks r h => ⟨N, h⟩) (lsOk_at (L := [spec_l6All_l0_0_s N]) ⟨spec_l6All_l0_0_ok N, trivial⟩) (by kernel_rfl) (by kernel_rfl)
noncomputable def spec_l6All (N : Nat) (vars : Int) : Option (((List (List Int)) × Unit) × (Unit)) :=
  spec_l6All_l0 N (fun o => some ((o, ()), ())) N vars 0 []
noncomputable def spec_l6All_S (N : Nat) : FSum := ⟨spec_l6All_ps, spec_l6All_rs, fun x => spec_l6All N x.1⟩
theorem spec_l6All_run (N : Nat) (x : argsT spec_l6All_ps) : spec_l6All N x.1 = funF (spec_l6All_G N) tab [spec_l6All_l0_s N] Try.f169 spec_l6All_ps spec_l6All_rs x := by kernel_rfl
theorem spec_l6All_pc (N : Nat) : PC Try.prog 169 (spec_l6All_S N) := by
  have e : spec_l6All_S N = ⟨spec_l6All_ps, spec_l6All_rs, funF (spec_l6All_G N) tab [spec_l6All_l0_s N] Try.f169 spec_l6All_ps spec_l6All_rs⟩ := congrArg (FSum.mk spec_l6All_ps spec_l6All_rs) (funext (spec_l6All_run N))
  rw [e]
  exact fun_ok (c := spec_l6All_code) progOk (spec_l6All_gok N) (draw_ok progOk (spec_l6All_gok N)) Try.call169 Try.func169 (by kernel_rfl) (lsOk_at (L := [spec_l6All_l0_s N]) ⟨spec_l6All_l0_ok N, trivial⟩) (by kernel_rfl) (by kernel_rfl) (by kernel_rfl) (by kernel_rfl) (by kernel_rfl)

/-! ### spec_l6Meets -/
abbrev spec_l6Meets_ps : List (PV.Mode × Ty) := [(.ro, LI), (.ro, I)]
abbrev spec_l6Meets_rs : List (Bool × Ty) := [(true, .bool)]
noncomputable def spec_l6Meets_G (N : Nat) : GTab := gOf []
theorem spec_l6Meets_gok (N : Nat) : GOk Try.prog (spec_l6Meets_G N) := gOf_ok trivial
noncomputable def spec_l6Meets_code : Code := (Try.f215.body).getD .skip
noncomputable def spec_l6Meets (N : Nat) (bits : (List Int)) (x : Int) : Option ((Bool × Unit) × (Unit)) :=
  (br (ilt 0 x)
    ((chk (inb bits (IntKind.i64.wrap (x - 1)))
      (some (((ieq (rdI bits (IntKind.i64.wrap (x - 1))) 1), ()), ()))))
    ((chk (inb bits (IntKind.i64.wrap ((IntKind.i64.wrap (0 - x)) - 1)))
      (some (((ieq (rdI bits (IntKind.i64.wrap ((IntKind.i64.wrap (0 - x)) - 1))) 0), ()), ())))))
noncomputable def spec_l6Meets_S (N : Nat) : FSum := ⟨spec_l6Meets_ps, spec_l6Meets_rs, fun x => spec_l6Meets N x.1 x.2.1⟩
theorem spec_l6Meets_run (N : Nat) (x : argsT spec_l6Meets_ps) : spec_l6Meets N x.1 x.2.1 = funF (spec_l6Meets_G N) tab [] Try.f215 spec_l6Meets_ps spec_l6Meets_rs x := by kernel_rfl
theorem spec_l6Meets_pc (N : Nat) : PC Try.prog 215 (spec_l6Meets_S N) := by
  have e : spec_l6Meets_S N = ⟨spec_l6Meets_ps, spec_l6Meets_rs, funF (spec_l6Meets_G N) tab [] Try.f215 spec_l6Meets_ps spec_l6Meets_rs⟩ := congrArg (FSum.mk spec_l6Meets_ps spec_l6Meets_rs) (funext (spec_l6Meets_run N))
  rw [e]
  exact fun_ok (c := spec_l6Meets_code) progOk (spec_l6Meets_gok N) (draw_ok progOk (spec_l6Meets_gok N)) Try.call215 Try.func215 (by kernel_rfl) (lsOk_at (L := []) trivial) (by kernel_rfl) (by kernel_rfl) (by kernel_rfl) (by kernel_rfl) (by kernel_rfl)

/-! ### spec_l6Solves -/
abbrev spec_l6Solves_ps : List (PV.Mode × Ty) := [(.ro, QILLI), (.ro, LI)]
abbrev spec_l6Solves_rs : List (Bool × Ty) := [(true, .bool)]
noncomputable def spec_l6Solves_G (N : Nat) : GTab := gOf [(215, spec_l6Meets_S N)]
theorem spec_l6Solves_gok (N : Nat) : GOk Try.prog (spec_l6Solves_G N) := gOf_ok ⟨spec_l6Meets_pc N, trivial⟩
noncomputable def spec_l6Solves_code : Code := (Try.f170.body).getD .skip
noncomputable def spec_l6Solves_l0_0_sh : Sh := ⟨[(1, .one (.ro LI)), (2, .one (.adr 0 0)), (5, .one (.ro I)), (6, .one (.ro .bool)), (7, .one (.ro I))], [.box [.ro I, .ro LLI]]⟩
noncomputable def spec_l6Solves_l0_0_ex : List (Ex × Sh) := [(.exit 2, ⟨[(1, .one (.ro LI)), (2, .one (.adr 0 0)), (5, .one (.ro I)), (6, .one (.ro .bool))], [.box [.ro I, .ro LLI]]⟩)]
noncomputable def spec_l6Solves_l0_0 {R : Type} (N : Nat) (k0 : (List Int) → Int → Bool → Int → (List (List Int)) → Option R) : Nat → (List Int) → Int → Bool → Int → Int → (List (List Int)) → Option R
  | 0, _, _, _, _, _, _ => none
  | K + 1, bits2, i1, met, kv, o2, o3 =>
    (chk (inb o3 i1)
      (br (ilt kv (tLen (rdL o3 i1)))
      ((br met
        (spec_l6Solves_l0_0 N k0 K bits2 i1 true (IntKind.i64.wrap (kv + 1)) o2 o3)
        ((chk (inb o3 i1)
          (chk (inb (rdL o3 i1) kv)
          ((spec_l6Meets N bits2 (rdI (rdL o3 i1) kv)).bind fun r =>
          spec_l6Solves_l0_0 N k0 K bits2 i1 r.1.1 (IntKind.i64.wrap (kv + 1)) o2 o3))))))
      (k0 bits2 i1 met o2 o3)))
noncomputable def spec_l6Solves_l0_0_again {R : Type} (N : Nat) (ks : (j : Nat) → ((spec_l6Solves_l0_0_ex.getD j (.ret, Sh.none)).2).T → Option R) (k : Nat) (x : spec_l6Solves_l0_0_sh.T) : Option R :=
  spec_l6Solves_l0_0 N (fun y0 y1 y2 y3 y4 => ks 0 ((y0, (), y1, y2, ()), ((y3, y4, ()), ()))) k x.1.1 x.1.2.2.1 x.1.2.2.2.1 x.1.2.2.2.2.1 x.2.1.1 x.2.1.2.1
noncomputable def spec_l6Solves_l0_0_s (N : Nat) : LSum := ⟨spec_l6Solves_l0_0_sh, spec_l6Solves_l0_0_ex, fun x ks => spec_l6Solves_l0_0_again N ks N x⟩
theorem spec_l6Solves_l0_0_step (N : Nat) (R : Type) (k : Nat) (x : spec_l6Solves_l0_0_sh.T) (ks : (j : Nat) → ((spec_l6Solves_l0_0_ex.getD j (.ret, Sh.none)).2).T → Option R) : spec_l6Solves_l0_0_again N ks (k + 1) x = roundF (spec_l6Solves_G N) tab [] (loopAt (loopAt spec_l6Solves_code 0) 0) spec_l6Solves_l0_0_sh spec_l6Solves_l0_0_ex (fun y => spec_l6Solves_l0_0_again N ks k y) ks x := by kernel_rfl
theorem spec_l6Solves_l0_0_ok (N : Nat) : LoopOk Try.prog Try.f170.ntmps (spec_l6Solves_l0_0_s N) (loopAt (loopAt spec_l6Solves_code 0) 0) :=
  loop_ok (l := spec_l6Solves_l0_0_s N) progOk (spec_l6Solves_gok N) (draw_ok progOk (spec_l6Solves_gok N)) (fun R k x ks => spec_l6Solves_l0_0_again N ks k x) (fun _ _ _ => rfl) (fun R k x ks => spec_l6Solves_l0_0_step N R k x ks) (fun R x ks r h => ⟨N, h⟩) (lsOk_at (L := []) trivial) (by kernel_rfl) (by kernel_rfl)
noncomputable def spec_l6Solves_l0_sh : Sh := ⟨[(1, .one (.ro LI)), (2, .one (.adr 0 0)), (5, .one (.ro I))], [.box [.ro I, .ro LLI]]⟩
noncomputable def spec_l6Solves_l0_ex : List (Ex × Sh) := [(.ret, ⟨[(4, .one (.ro .bool))], []⟩), (.exit 0, ⟨[], []⟩)]
noncomputable def spec_l6Solves_l0 {R : Type} (N : Nat) (k0 : Bool → Option R) (k1 : Unit → Option R) : Nat → (List Int) → Int → Int → (List (List Int)) → Option R
  | 0, _, _, _, _ => none
  | K + 1, bits1, i, o, o1 =>
    (br (ilt i (tLen o1))
      (spec_l6Solves_l0_0 N (fun bits2 i1 met o2 o3 => (br (!met)
        (k0 false)
        (spec_l6Solves_l0 N k0 k1 K bits2 (IntKind.i64.wrap (i1 + 1)) o2 o3))) N bits1 i false 0 o o1)
      (k1 ()))
noncomputable def spec_l6Solves_l0_again {R : Type} (N : Nat) (ks : (j : Nat) → ((spec_l6Solves_l0_ex.getD j (.ret, Sh.none)).2).T → Option R) (k : Nat) (x : spec_l6Solves_l0_sh.T) : Option R :=
  spec_l6Solves_l0 N (fun y0 => ks 0 ((y0, ()), ())) (fun (_ : Unit) => ks 1 ((), ())) k x.1.1 x.1.2.2.1 x.2.1.1 x.2.1.2.1
noncomputable def spec_l6Solves_l0_s (N : Nat) : LSum := ⟨spec_l6Solves_l0_sh, spec_l6Solves_l0_ex, fun x ks => spec_l6Solves_l0_again N ks N x⟩
theorem spec_l6Solves_l0_step (N : Nat) (R : Type) (k : Nat) (x : spec_l6Solves_l0_sh.T) (ks : (j : Nat) → ((spec_l6Solves_l0_ex.getD j (.ret, Sh.none)).2).T → Option R) : spec_l6Solves_l0_again N ks (k + 1) x = roundF (spec_l6Solves_G N) tab [spec_l6Solves_l0_0_s N] (loopAt spec_l6Solves_code 0) spec_l6Solves_l0_sh spec_l6Solves_l0_ex (fun y => spec_l6Solves_l0_again N ks k y) ks x := by kernel_rfl
theorem spec_l6Solves_l0_ok (N : Nat) : LoopOk Try.prog Try.f170.ntmps (spec_l6Solves_l0_s N) (loopAt spec_l6Solves_code 0) :=
  loop_ok (l := spec_l6Solves_l0_s N) progOk (spec_l6Solves_gok N) (draw_ok progOk (spec_l6Solves_gok N)) (fun R k x ks => spec_l6Solves_l0_again N ks k x) (fun _ _ _ => rfl) (fun R k x ks => spec_l6Solves_l0_step N R k x ks) (fun R x ks r h => ⟨N, h⟩) (lsOk_at (L := [spec_l6Solves_l0_0_s N]) ⟨spec_l6Solves_l0_0_ok N, trivial⟩) (by kernel_rfl) (by kernel_rfl)
noncomputable def spec_l6Solves (N : Nat) (f : (Int × (List (List Int)))) (bits : (List Int)) : Option ((Bool × Unit) × (Unit)) :=
  spec_l6Solves_l0 N (fun x => some ((x, ()), ())) (fun (_ : Unit) => some ((true, ()), ())) N bits 0 f.1 f.2
noncomputable def spec_l6Solves_S (N : Nat) : FSum := ⟨spec_l6Solves_ps, spec_l6Solves_rs, fun x => spec_l6Solves N x.1 x.2.1⟩
theorem spec_l6Solves_run (N : Nat) (x : argsT spec_l6Solves_ps) : spec_l6Solves N x.1 x.2.1 = funF (spec_l6Solves_G N) tab [spec_l6Solves_l0_s N] Try.f170 spec_l6Solves_ps spec_l6Solves_rs x := by kernel_rfl
theorem spec_l6Solves_pc (N : Nat) : PC Try.prog 170 (spec_l6Solves_S N) := by
  have e : spec_l6Solves_S N = ⟨spec_l6Solves_ps, spec_l6Solves_rs, funF (spec_l6Solves_G N) tab [spec_l6Solves_l0_s N] Try.f170 spec_l6Solves_ps spec_l6Solves_rs⟩ := congrArg (FSum.mk spec_l6Solves_ps spec_l6Solves_rs) (funext (spec_l6Solves_run N))
  rw [e]
  exact fun_ok (c := spec_l6Solves_code) progOk (spec_l6Solves_gok N) (draw_ok progOk (spec_l6Solves_gok N)) Try.call170 Try.func170 (by kernel_rfl) (lsOk_at (L := [spec_l6Solves_l0_s N]) ⟨spec_l6Solves_l0_ok N, trivial⟩) (by kernel_rfl) (by kernel_rfl) (by kernel_rfl) (by kernel_rfl) (by kernel_rfl)

/-! ### spec_l6Solutions -/
abbrev spec_l6Solutions_ps : List (PV.Mode × Ty) := [(.ro, QILLI)]
abbrev spec_l6Solutions_rs : List (Bool × Ty) := [(false, LLI)]
noncomputable def spec_l6Solutions_G (N : Nat) : GTab := gOf [(169, spec_l6All_S N), (170, spec_l6Solves_S N)]
theorem spec_l6Solutions_gok (N : Nat) : GOk Try.prog (spec_l6Solutions_G N) := gOf_ok ⟨spec_l6All_pc N, spec_l6Solves_pc N, trivial⟩
noncomputable def spec_l6Solutions_code : Code := (Try.f105.body).getD .skip
noncomputable def spec_l6Solutions_l0_sh : Sh := ⟨[(1, .one (.adr 0 0)), (3, .one (.ref 1)), (4, .one (.ro LLI)), (5, .one (.ro I))], [.box [.ro I, .ro LLI], .sl 42 LI .own]⟩
noncomputable def spec_l6Solutions_l0_ex : List (Ex × Sh) := [(.exit 0, ⟨[(3, .one (.ref 0))], [.sl 42 LI .own]⟩)]
noncomputable def spec_l6Solutions_l0 {R : Type} (N : Nat) (k0 : (List (List Int)) → Option R) : Nat → (List (List Int)) → Int → Int → (List (List Int)) → (List (List Int)) → Option R
  | 0, _, _, _, _, _ => none
  | K + 1, all1, i1, o3, o4, o5 =>
    (br (ilt i1 (tLen all1))
      ((chk (inb all1 i1)
        ((spec_l6Solves N (o3, o4) (rdL all1 i1)).bind fun r2 =>
        (br r2.1.1
          ((chk (inb all1 i1)
            (chk (room o5 [(rdL all1 i1)])
            (spec_l6Solutions_l0 N k0 K all1 (IntKind.i64.wrap (i1 + 1)) o3 o4 (tApp o5 [(rdL all1 i1)])))))
          (spec_l6Solutions_l0 N k0 K all1 (IntKind.i64.wrap (i1 + 1)) o3 o4 o5)))))
      (k0 o5))
noncomputable def spec_l6Solutions_l0_again {R : Type} (N : Nat) (ks : (j : Nat) → ((spec_l6Solutions_l0_ex.getD j (.ret, Sh.none)).2).T → Option R) (k : Nat) (x : spec_l6Solutions_l0_sh.T) : Option R :=
  spec_l6Solutions_l0 N (fun y0 => ks 0 (((), ()), (y0, ()))) k x.1.2.2.1 x.1.2.2.2.1 x.2.1.1 x.2.1.2.1 x.2.2.1
noncomputable def spec_l6Solutions_l0_s (N : Nat) : LSum := ⟨spec_l6Solutions_l0_sh, spec_l6Solutions_l0_ex, fun x ks => spec_l6Solutions_l0_again N ks N x⟩
theorem spec_l6Solutions_l0_step (N : Nat) (R : Type) (k : Nat) (x : spec_l6Solutions_l0_sh.T) (ks : (j : Nat) → ((spec_l6Solutions_l0_ex.getD j (.ret, Sh.none)).2).T → Option R) : spec_l6Solutions_l0_again N ks (k + 1) x = roundF (spec_l6Solutions_G N) tab [] (loopAt spec_l6Solutions_code 0) spec_l6Solutions_l0_sh spec_l6Solutions_l0_ex (fun y => spec_l6Solutions_l0_again N ks k y) ks x := by kernel_rfl
theorem spec_l6Solutions_l0_ok (N : Nat) : LoopOk Try.prog Try.f105.ntmps (spec_l6Solutions_l0_s N) (loopAt spec_l6Solutions_code 0) :=
  loop_ok (l := spec_l6Solutions_l0_s N) progOk (spec_l6Solutions_gok N) (draw_ok progOk (spec_l6Solutions_gok N)) (fun R k x ks => spec_l6Solutions_l0_again N ks k x) (fun _ _ _ => rfl) (fun R k x ks => spec_l6Solutions_l0_step N R k x ks) (fun R x ks r h => ⟨N, h⟩) (lsOk_at (L := []) trivial) (by kernel_rfl) (by kernel_rfl)
noncomputable def spec_l6Solutions (N : Nat) (f : (Int × (List (List Int)))) : Option (((List (List Int)) × Unit) × (Unit)) :=
  ((spec_l6All N f.1).bind fun r =>
    spec_l6Solutions_l0 N (fun o3 => some ((o3, ()), ())) N r.1.1 0 f.1 f.2 [])
noncomputable def spec_l6Solutions_S (N : Nat) : FSum := ⟨spec_l6Solutions_ps, spec_l6Solutions_rs, fun x => spec_l6Solutions N x.1⟩
theorem spec_l6Solutions_run (N : Nat) (x : argsT spec_l6Solutions_ps) : spec_l6Solutions N x.1 = funF (spec_l6Solutions_G N) tab [spec_l6Solutions_l0_s N] Try.f105 spec_l6Solutions_ps spec_l6Solutions_rs x := by kernel_rfl
theorem spec_l6Solutions_pc (N : Nat) : PC Try.prog 105 (spec_l6Solutions_S N) := by
  have e : spec_l6Solutions_S N = ⟨spec_l6Solutions_ps, spec_l6Solutions_rs, funF (spec_l6Solutions_G N) tab [spec_l6Solutions_l0_s N] Try.f105 spec_l6Solutions_ps spec_l6Solutions_rs⟩ := congrArg (FSum.mk spec_l6Solutions_ps spec_l6Solutions_rs) (funext (spec_l6Solutions_run N))
  rw [e]
  exact fun_ok (c := spec_l6Solutions_code) progOk (spec_l6Solutions_gok N) (draw_ok progOk (spec_l6Solutions_gok N)) Try.call105 Try.func105 (by kernel_rfl) (lsOk_at (L := [spec_l6Solutions_l0_s N]) ⟨spec_l6Solutions_l0_ok N, trivial⟩) (by kernel_rfl) (by kernel_rfl) (by kernel_rfl) (by kernel_rfl) (by kernel_rfl)

/-! ### spec_l6Apart -/
abbrev spec_l6Apart_ps : List (PV.Mode × Ty) := [(.ro, LI), (.ro, LI)]
abbrev spec_l6Apart_rs : List (Bool × Ty) := [(true, I)]
noncomputable def spec_l6Apart_G (N : Nat) : GTab := gOf []
theorem spec_l6Apart_gok (N : Nat) : GOk Try.prog (spec_l6Apart_G N) := gOf_ok trivial
noncomputable def spec_l6Apart_code : Code := (Try.f168.body).getD .skip
noncomputable def spec_l6Apart_l0_sh : Sh := ⟨[(0, .one (.ro LI)), (1, .one (.ro LI)), (5, .one (.ro I)), (6, .one (.ro I))], []⟩
noncomputable def spec_l6Apart_l0_ex : List (Ex × Sh) := [(.exit 0, ⟨[(5, .one (.ro I))], []⟩)]
noncomputable def spec_l6Apart_l0 {R : Type} (N : Nat) (k0 : Int → Option R) : Nat → (List Int) → (List Int) → Int → Int → Option R
  | 0, _, _, _, _ => none
  | K + 1, a1, b1, count, i =>
    (br (ilt i (tLen a1))
      ((chk (inb a1 i)
        (chk (inb b1 i)
        (br (ine (rdI a1 i) (rdI b1 i))
        (spec_l6Apart_l0 N k0 K a1 b1 (IntKind.i64.wrap (count + 1)) (IntKind.i64.wrap (i + 1)))
        (spec_l6Apart_l0 N k0 K a1 b1 count (IntKind.i64.wrap (i + 1)))))))
      (k0 count))
noncomputable def spec_l6Apart_l0_again {R : Type} (N : Nat) (ks : (j : Nat) → ((spec_l6Apart_l0_ex.getD j (.ret, Sh.none)).2).T → Option R) (k : Nat) (x : spec_l6Apart_l0_sh.T) : Option R :=
  spec_l6Apart_l0 N (fun y0 => ks 0 ((y0, ()), ())) k x.1.1 x.1.2.1 x.1.2.2.1 x.1.2.2.2.1
noncomputable def spec_l6Apart_l0_s (N : Nat) : LSum := ⟨spec_l6Apart_l0_sh, spec_l6Apart_l0_ex, fun x ks => spec_l6Apart_l0_again N ks N x⟩
theorem spec_l6Apart_l0_step (N : Nat) (R : Type) (k : Nat) (x : spec_l6Apart_l0_sh.T) (ks : (j : Nat) → ((spec_l6Apart_l0_ex.getD j (.ret, Sh.none)).2).T → Option R) : spec_l6Apart_l0_again N ks (k + 1) x = roundF (spec_l6Apart_G N) tab [] (loopAt spec_l6Apart_code 0) spec_l6Apart_l0_sh spec_l6Apart_l0_ex (fun y => spec_l6Apart_l0_again N ks k y) ks x := by kernel_rfl
theorem spec_l6Apart_l0_ok (N : Nat) : LoopOk Try.prog Try.f168.ntmps (spec_l6Apart_l0_s N) (loopAt spec_l6Apart_code 0) :=
  loop_ok (l := spec_l6Apart_l0_s N) progOk (spec_l6Apart_gok N) (draw_ok progOk (spec_l6Apart_gok N)) (fun R k x ks => spec_l6Apart_l0_again N ks k x) (fun _ _ _ => rfl) (fun R k x ks => spec_l6Apart_l0_step N R k x ks) (fun R x ks r h => ⟨N, h⟩) (lsOk_at (L := []) trivial) (by kernel_rfl) (by kernel_rfl)
noncomputable def spec_l6Apart (N : Nat) (a : (List Int)) (b : (List Int)) : Option ((Int × Unit) × (Unit)) :=
  spec_l6Apart_l0 N (fun count => some ((count, ()), ())) N a b 0 0
noncomputable def spec_l6Apart_S (N : Nat) : FSum := ⟨spec_l6Apart_ps, spec_l6Apart_rs, fun x => spec_l6Apart N x.1 x.2.1⟩
theorem spec_l6Apart_run (N : Nat) (x : argsT spec_l6Apart_ps) : spec_l6Apart N x.1 x.2.1 = funF (spec_l6Apart_G N) tab [spec_l6Apart_l0_s N] Try.f168 spec_l6Apart_ps spec_l6Apart_rs x := by kernel_rfl
theorem spec_l6Apart_pc (N : Nat) : PC Try.prog 168 (spec_l6Apart_S N) := by
  have e : spec_l6Apart_S N = ⟨spec_l6Apart_ps, spec_l6Apart_rs, funF (spec_l6Apart_G N) tab [spec_l6Apart_l0_s N] Try.f168 spec_l6Apart_ps spec_l6Apart_rs⟩ := congrArg (FSum.mk spec_l6Apart_ps spec_l6Apart_rs) (funext (spec_l6Apart_run N))
  rw [e]
  exact fun_ok (c := spec_l6Apart_code) progOk (spec_l6Apart_gok N) (draw_ok progOk (spec_l6Apart_gok N)) Try.call168 Try.func168 (by kernel_rfl) (lsOk_at (L := [spec_l6Apart_l0_s N]) ⟨spec_l6Apart_l0_ok N, trivial⟩) (by kernel_rfl) (by kernel_rfl) (by kernel_rfl) (by kernel_rfl) (by kernel_rfl)

/-! ### spec_l6Space -/
abbrev spec_l6Space_ps : List (PV.Mode × Ty) := [(.ro, LLI)]
abbrev spec_l6Space_rs : List (Bool × Ty) := [(false, QLLILQII)]
noncomputable def spec_l6Space_G (N : Nat) : GTab := gOf [(168, spec_l6Apart_S N)]
theorem spec_l6Space_gok (N : Nat) : GOk Try.prog (spec_l6Space_G N) := gOf_ok ⟨spec_l6Apart_pc N, trivial⟩
noncomputable def spec_l6Space_code : Code := (Try.f104.body).getD .skip
noncomputable def spec_l6Space_l0_0_sh : Sh := ⟨[(0, .one (.ro LLI)), (2, .one (.adr 0 0)), (3, .one (.adr 1 0)), (4, .one (.ro I)), (5, .one (.ro I))], [.box [.nilsl, .nilsl], .box [.ro LLI, .ref 2], .sl 137 QII .own]⟩
noncomputable def spec_l6Space_l0_0_ex : List (Ex × Sh) := [(.exit 2, ⟨[(0, .one (.ro LLI)), (2, .one (.adr 0 0)), (3, .one (.adr 1 0)), (4, .one (.ro I))], [.box [.nilsl, .nilsl], .box [.ro LLI, .ref 2], .sl 137 QII .own]⟩)]
noncomputable def spec_l6Space_l0_0 {R : Type} (N : Nat) (k0 : (List (List Int)) → Int → (List (List Int)) → (List (Int × Int)) → Option R) : Nat → (List (List Int)) → Int → Int → (List (List Int)) → (List (Int × Int)) → Option R
  | 0, _, _, _, _, _ => none
  | K + 1, states2, i1, j, o2, o3 =>
    (br (ilt j (tLen states2))
      ((chk (inb states2 i1)
        (chk (inb states2 j)
        ((spec_l6Apart N (rdL states2 i1) (rdL states2 j)).bind fun r =>
        (br (ieq r.1.1 1)
          ((chk (room o3 [(i1, j)])
            (spec_l6Space_l0_0 N k0 K states2 i1 (IntKind.i64.wrap (j + 1)) o2 (tApp o3 [(i1, j)]))))
          (spec_l6Space_l0_0 N k0 K states2 i1 (IntKind.i64.wrap (j + 1)) o2 o3))))))
      (k0 states2 i1 o2 o3))
noncomputable def spec_l6Space_l0_0_again {R : Type} (N : Nat) (ks : (j : Nat) → ((spec_l6Space_l0_0_ex.getD j (.ret, Sh.none)).2).T → Option R) (k : Nat) (x : spec_l6Space_l0_0_sh.T) : Option R :=
  spec_l6Space_l0_0 N (fun y0 y1 y2 y3 => ks 0 ((y0, (), (), y1, ()), (((), (), ()), (y2, (), ()), y3, ()))) k x.1.1 x.1.2.2.2.1 x.1.2.2.2.2.1 x.2.2.1.1 x.2.2.2.1
noncomputable def spec_l6Space_l0_0_s (N : Nat) : LSum := ⟨spec_l6Space_l0_0_sh, spec_l6Space_l0_0_ex, fun x ks => spec_l6Space_l0_0_again N ks N x⟩
theorem spec_l6Space_l0_0_step (N : Nat) (R : Type) (k : Nat) (x : spec_l6Space_l0_0_sh.T) (ks : (j : Nat) → ((spec_l6Space_l0_0_ex.getD j (.ret, Sh.none)).2).T → Option R) : spec_l6Space_l0_0_again N ks (k + 1) x = roundF (spec_l6Space_G N) tab [] (loopAt (loopAt spec_l6Space_code 0) 0) spec_l6Space_l0_0_sh spec_l6Space_l0_0_ex (fun y => spec_l6Space_l0_0_again N ks k y) ks x := by kernel_rfl
theorem spec_l6Space_l0_0_ok (N : Nat) : LoopOk Try.prog Try.f104.ntmps (spec_l6Space_l0_0_s N) (loopAt (loopAt spec_l6Space_code 0) 0) :=
  loop_ok (l := spec_l6Space_l0_0_s N) progOk (spec_l6Space_gok N) (draw_ok progOk (spec_l6Space_gok N)) (fun R k x ks => spec_l6Space_l0_0_again N ks k x) (fun _ _ _ => rfl) (fun R k x ks => spec_l6Space_l0_0_step N R k x ks) (fun R x ks r h => ⟨N, h⟩) (lsOk_at (L := []) trivial) (by kernel_rfl) (by kernel_rfl)
noncomputable def spec_l6Space_l0_sh : Sh := ⟨[(0, .one (.ro LLI)), (2, .one (.adr 0 0)), (3, .one (.adr 1 0)), (4, .one (.ro I))], [.box [.nilsl, .nilsl], .box [.ro LLI, .ref 2], .sl 137 QII .own]⟩
noncomputable def spec_l6Space_l0_ex : List (Ex × Sh) := [(.exit 0, ⟨[(2, .one (.adr 0 0)), (3, .one (.adr 1 0))], [.box [.nilsl, .nilsl], .box [.ro LLI, .ref 2], .sl 137 QII .own]⟩)]
noncomputable def spec_l6Space_l0 {R : Type} (N : Nat) (k0 : (List (List Int)) → (List (Int × Int)) → Option R) : Nat → (List (List Int)) → Int → (List (List Int)) → (List (Int × Int)) → Option R
  | 0, _, _, _, _ => none
  | K + 1, states1, i, o, o1 =>
    (br (ilt i (tLen states1))
      (spec_l6Space_l0_0 N (fun states2 i1 o2 o3 => spec_l6Space_l0 N k0 K states2 (IntKind.i64.wrap (i1 + 1)) o2 o3) N states1 i (IntKind.i64.wrap (i + 1)) o o1)
      (k0 o o1))
noncomputable def spec_l6Space_l0_again {R : Type} (N : Nat) (ks : (j : Nat) → ((spec_l6Space_l0_ex.getD j (.ret, Sh.none)).2).T → Option R) (k : Nat) (x : spec_l6Space_l0_sh.T) : Option R :=
  spec_l6Space_l0 N (fun y0 y1 => ks 0 (((), (), ()), (((), (), ()), (y0, (), ()), y1, ()))) k x.1.1 x.1.2.2.2.1 x.2.2.1.1 x.2.2.2.1
noncomputable def spec_l6Space_l0_s (N : Nat) : LSum := ⟨spec_l6Space_l0_sh, spec_l6Space_l0_ex, fun x ks => spec_l6Space_l0_again N ks N x⟩
theorem spec_l6Space_l0_step (N : Nat) (R : Type) (k : Nat) (x : spec_l6Space_l0_sh.T) (ks : (j : Nat) → ((spec_l6Space_l0_ex.getD j (.ret, Sh.none)).2).T → Option R) : spec_l6Space_l0_again N ks (k + 1) x = roundF (spec_l6Space_G N) tab [spec_l6Space_l0_0_s N] (loopAt spec_l6Space_code 0) spec_l6Space_l0_sh spec_l6Space_l0_ex (fun y => spec_l6Space_l0_again N ks k y) ks x := by kernel_rfl
theorem spec_l6Space_l0_ok (N : Nat) : LoopOk Try.prog Try.f104.ntmps (spec_l6Space_l0_s N) (loopAt spec_l6Space_code 0) :=
  loop_ok (l := spec_l6Space_l0_s N) progOk (spec_l6Space_gok N) (draw_ok progOk (spec_l6Space_gok N)) (fun R k x ks => spec_l6Space_l0_again N ks k x) (fun _ _ _ => rfl) (fun R k x ks => spec_l6Space_l0_step N R k x ks) (fun R x ks r h => ⟨N, h⟩) (lsOk_at (L := [spec_l6Space_l0_0_s N]) ⟨spec_l6Space_l0_0_ok N, trivial⟩) (by kernel_rfl) (by kernel_rfl)
noncomputable def spec_l6Space (N : Nat) (states : (List (List Int))) : Option ((((List (List Int)) × (List (Int × Int))) × Unit) × (Unit)) :=
  spec_l6Space_l0 N (fun o o1 => some (((o, o1), ()), ())) N states 0 states []
noncomputable def spec_l6Space_S (N : Nat) : FSum := ⟨spec_l6Space_ps, spec_l6Space_rs, fun x => spec_l6Space N x.1⟩
theorem spec_l6Space_run (N : Nat) (x : argsT spec_l6Space_ps) : spec_l6Space N x.1 = funF (spec_l6Space_G N) tab [spec_l6Space_l0_s N] Try.f104 spec_l6Space_ps spec_l6Space_rs x := by kernel_rfl
theorem spec_l6Space_pc (N : Nat) : PC Try.prog 104 (spec_l6Space_S N) := by
  have e : spec_l6Space_S N = ⟨spec_l6Space_ps, spec_l6Space_rs, funF (spec_l6Space_G N) tab [spec_l6Space_l0_s N] Try.f104 spec_l6Space_ps spec_l6Space_rs⟩ := congrArg (FSum.mk spec_l6Space_ps spec_l6Space_rs) (funext (spec_l6Space_run N))
  rw [e]
  exact fun_ok (c := spec_l6Space_code) progOk (spec_l6Space_gok N) (draw_ok progOk (spec_l6Space_gok N)) Try.call104 Try.func104 (by kernel_rfl) (lsOk_at (L := [spec_l6Space_l0_s N]) ⟨spec_l6Space_l0_ok N, trivial⟩) (by kernel_rfl) (by kernel_rfl) (by kernel_rfl) (by kernel_rfl) (by kernel_rfl)

/-! ### spec_FlipSpace -/
abbrev spec_FlipSpace_ps : List (PV.Mode × Ty) := [(.ro, QILLI)]
abbrev spec_FlipSpace_rs : List (Bool × Ty) := [(false, QLLILQII), (true, .bool)]
noncomputable def spec_FlipSpace_G (N : Nat) : GTab := gOf [(103, spec_l6Good_S N), (105, spec_l6Solutions_S N), (104, spec_l6Space_S N)]
theorem spec_FlipSpace_gok (N : Nat) : GOk Try.prog (spec_FlipSpace_G N) := gOf_ok ⟨spec_l6Good_pc N, spec_l6Solutions_pc N, spec_l6Space_pc N, trivial⟩
noncomputable def spec_FlipSpace_code : Code := (Try.f41.body).getD .skip
noncomputable def spec_FlipSpace (N : Nat) (f : (Int × (List (List Int)))) : Option ((((List (List Int)) × (List (Int × Int))) × Bool × Unit) × (Unit)) :=
  ((spec_l6Good N (f.1, f.2)).bind fun r =>
    (br (!r.1.1)
      (some ((([], []), false, ()), ()))
      (((spec_l6Solutions N (f.1, f.2)).bind fun r1 =>
        ((spec_l6Space N r1.1.1).bind fun r2 =>
          some (((r2.1.1.1, r2.1.1.2), true, ()), ()))))))
noncomputable def spec_FlipSpace_S (N : Nat) : FSum := ⟨spec_FlipSpace_ps, spec_FlipSpace_rs, fun x => spec_FlipSpace N x.1⟩
theorem spec_FlipSpace_run (N : Nat) (x : argsT spec_FlipSpace_ps) : spec_FlipSpace N x.1 = funF (spec_FlipSpace_G N) tab [] Try.f41 spec_FlipSpace_ps spec_FlipSpace_rs x := by kernel_rfl
theorem spec_FlipSpace_pc (N : Nat) : PC Try.prog 41 (spec_FlipSpace_S N) := by
  have e : spec_FlipSpace_S N = ⟨spec_FlipSpace_ps, spec_FlipSpace_rs, funF (spec_FlipSpace_G N) tab [] Try.f41 spec_FlipSpace_ps spec_FlipSpace_rs⟩ := congrArg (FSum.mk spec_FlipSpace_ps spec_FlipSpace_rs) (funext (spec_FlipSpace_run N))
  rw [e]
  exact fun_ok (c := spec_FlipSpace_code) progOk (spec_FlipSpace_gok N) (draw_ok progOk (spec_FlipSpace_gok N)) Try.call41 Try.func41 (by kernel_rfl) (lsOk_at (L := []) trivial) (by kernel_rfl) (by kernel_rfl) (by kernel_rfl) (by kernel_rfl) (by kernel_rfl)

/-! ### impl_between -/
abbrev impl_between_ps : List (PV.Mode × Ty) := [(.ro, I), (.ro, I), (.ro, I)]
abbrev impl_between_rs : List (Bool × Ty) := [(true, .bool)]
noncomputable def impl_between_G (N : Nat) : GTab := gOf []
theorem impl_between_gok (N : Nat) : GOk Try.prog (impl_between_G N) := gOf_ok trivial
noncomputable def impl_between_code : Code := (Try.f90.body).getD .skip
noncomputable def impl_between (N : Nat) (n : Int) (low : Int) (high : Int) : Option ((Bool × Unit) × (Unit)) :=
  (br (ile low n)
    (some (((ile n high), ()), ()))
    (some ((false, ()), ())))
noncomputable def impl_between_S (N : Nat) : FSum := ⟨impl_between_ps, impl_between_rs, fun x => impl_between N x.1 x.2.1 x.2.2.1⟩
theorem impl_between_run (N : Nat) (x : argsT impl_between_ps) : impl_between N x.1 x.2.1 x.2.2.1 = funF (impl_between_G N) tab [] Try.f90 impl_between_ps impl_between_rs x := by kernel_rfl
theorem impl_between_pc (N : Nat) : PC Try.prog 90 (impl_between_S N) := by
  have e : impl_between_S N = ⟨impl_between_ps, impl_between_rs, funF (impl_between_G N) tab [] Try.f90 impl_between_ps impl_between_rs⟩ := congrArg (FSum.mk impl_between_ps impl_between_rs) (funext (impl_between_run N))
  rw [e]
  exact fun_ok (c := impl_between_code) progOk (impl_between_gok N) (draw_ok progOk (impl_between_gok N)) Try.call90 Try.func90 (by kernel_rfl) (lsOk_at (L := []) trivial) (by kernel_rfl) (by kernel_rfl) (by kernel_rfl) (by kernel_rfl) (by kernel_rfl)

/-! ### impl_IsFormula -/
abbrev impl_IsFormula_ps : List (PV.Mode × Ty) := [(.ro, QILLI)]
abbrev impl_IsFormula_rs : List (Bool × Ty) := [(true, .bool)]
noncomputable def impl_IsFormula_G (N : Nat) : GTab := gOf [(90, impl_between_S N)]
theorem impl_IsFormula_gok (N : Nat) : GOk Try.prog (impl_IsFormula_G N) := gOf_ok ⟨impl_between_pc N, trivial⟩
noncomputable def impl_IsFormula_code : Code := (Try.f107.body).getD .skip
noncomputable def impl_IsFormula_l0_0_sh : Sh := ⟨[(1, .one (.adr 0 0)), (4, .one (.ro LI)), (18, .one (.ro LLI)), (19, .one (.ro I)), (20, .one (.ro I)), (24, .one (.ro LI)), (25, .one (.ro I)), (26, .one (.ro I))], [.box [.ro I, .ro LLI]]⟩
noncomputable def impl_IsFormula_l0_0_ex : List (Ex × Sh) := [(.ret, ⟨[(2, .one (.ro .bool))], []⟩), (.exit 2, ⟨[(1, .one (.adr 0 0)), (18, .one (.ro LLI)), (19, .one (.ro I)), (20, .one (.ro I))], [.box [.ro I, .ro LLI]]⟩)]
noncomputable def impl_IsFormula_l0_0 {R : Type} (N : Nat) (k0 : Bool → Option R) (k1 : (List (List Int)) → Int → Int → Int → (List (List Int)) → Option R) : Nat → (List Int) → (List (List Int)) → Int → Int → (List Int) → Int → Int → Int → (List (List Int)) → Option R
  | 0, _, _, _, _, _, _, _, _, _ => none
  | K + 1, clause, x3, x4, x5, x6, x7, x8, o2, o3 =>
    (br (ilt x8 x7)
      ((chk (inb x6 x8)
        (br (ieq (rdI x6 x8) 0)
        (k0 false)
        (((impl_between N (rdI x6 x8) (IntKind.i64.wrap (0 - o2)) o2).bind fun r1 =>
          (br (!r1.1.1)
            (k0 false)
            ((br (ilt 0 x8)
              ((chk (inb clause (IntKind.i64.wrap (x8 - 1)))
                (br (ile (rdI x6 x8) (rdI clause (IntKind.i64.wrap (x8 - 1))))
                (k0 false)
                (impl_IsFormula_l0_0 N k0 k1 K clause x3 x4 x5 x6 x7 (IntKind.i64.wrap (x8 + 1)) o2 o3))))
              (impl_IsFormula_l0_0 N k0 k1 K clause x3 x4 x5 x6 x7 (IntKind.i64.wrap (x8 + 1)) o2 o3)))))))))
      (k1 x3 x4 x5 o2 o3))
noncomputable def impl_IsFormula_l0_0_again {R : Type} (N : Nat) (ks : (j : Nat) → ((impl_IsFormula_l0_0_ex.getD j (.ret, Sh.none)).2).T → Option R) (k : Nat) (x : impl_IsFormula_l0_0_sh.T) : Option R :=
  impl_IsFormula_l0_0 N (fun y0 => ks 0 ((y0, ()), ())) (fun y0 y1 y2 y3 y4 => ks 1 (((), y0, y1, y2, ()), ((y3, y4, ()), ()))) k x.1.2.1 x.1.2.2.1 x.1.2.2.2.1 x.1.2.2.2.2.1 x.1.2.2.2.2.2.1 x.1.2.2.2.2.2.2.1 x.1.2.2.2.2.2.2.2.1 x.2.1.1 x.2.1.2.1
noncomputable def impl_IsFormula_l0_0_s (N : Nat) : LSum := ⟨impl_IsFormula_l0_0_sh, impl_IsFormula_l0_0_ex, fun x ks => impl_IsFormula_l0_0_again N ks N x⟩
theorem impl_IsFormula_l0_0_step (N : Nat) (R : Type) (k : Nat) (x : impl_IsFormula_l0_0_sh.T) (ks : (j : Nat) → ((impl_IsFormula_l0_0_ex.getD j (.ret, Sh.none)).2).T → Option R) : impl_IsFormula_l0_0_again N ks (k + 1) x = roundF (impl_IsFormula_G N) tab [] (loopAt (loopAt impl_IsFormula_code 0) 0) impl_IsFormula_l0_0_sh impl_IsFormula_l0_0_ex (fun y => impl_IsFormula_l0_0_again N ks k y) ks x := by kernel_rfl
theorem impl_IsFormula_l0_0_ok (N : Nat) : LoopOk Try.prog Try.f107.ntmps (impl_IsFormula_l0_0_s N) (loopAt (loopAt impl_IsFormula_code 0) 0) :=
  loop_ok (l := impl_IsFormula_l0_0_s N) progOk (impl_IsFormula_gok N) (draw_ok progOk (impl_IsFormula_gok N)) (fun R k x ks => impl_IsFormula_l0_0_again N ks k x) (fun _ _ _ => rfl) (fun R k x ks => impl_IsFormula_l0_0_step N R k x ks) (fun R x ks r h => ⟨N, h⟩) (lsOk_at (L := []) trivial) (by kernel_rfl) (by kernel_rfl)
noncomputable def impl_IsFormula_l0_sh : Sh := ⟨[(1, .one (.adr 0 0)), (18, .one (.ro LLI)), (19, .one (.ro I)), (20, .one (.ro I))], [.box [.ro I, .ro LLI]]⟩
noncomputable def impl_IsFormula_l0_ex : List (Ex × Sh) := [(.ret, ⟨[(2, .one (.ro .bool))], []⟩), (.exit 0, ⟨[], []⟩)]
noncomputable def impl_IsFormula_l0 {R : Type} (N : Nat) (k0 : Bool → Option R) (k1 : Unit → Option R) : Nat → (List (List Int)) → Int → Int → Int → (List (List Int)) → Option R
  | 0, _, _, _, _, _ => none
  | K + 1, x, x1, x2, o, o1 =>
    (br (ilt x2 x1)
      ((chk (inb x x2)
        (impl_IsFormula_l0_0 N (fun x3 => k0 x3) (fun x4 x5 x6 o2 o3 => impl_IsFormula_l0 N k0 k1 K x4 x5 (IntKind.i64.wrap (x6 + 1)) o2 o3) N (rdL x x2) x x1 x2 (rdL x x2) (tLen (rdL x x2)) 0 o o1)))
      (k1 ()))
noncomputable def impl_IsFormula_l0_again {R : Type} (N : Nat) (ks : (j : Nat) → ((impl_IsFormula_l0_ex.getD j (.ret, Sh.none)).2).T → Option R) (k : Nat) (x : impl_IsFormula_l0_sh.T) : Option R :=
  impl_IsFormula_l0 N (fun y0 => ks 0 ((y0, ()), ())) (fun (_ : Unit) => ks 1 ((), ())) k x.1.2.1 x.1.2.2.1 x.1.2.2.2.1 x.2.1.1 x.2.1.2.1
noncomputable def impl_IsFormula_l0_s (N : Nat) : LSum := ⟨impl_IsFormula_l0_sh, impl_IsFormula_l0_ex, fun x ks => impl_IsFormula_l0_again N ks N x⟩
theorem impl_IsFormula_l0_step (N : Nat) (R : Type) (k : Nat) (x : impl_IsFormula_l0_sh.T) (ks : (j : Nat) → ((impl_IsFormula_l0_ex.getD j (.ret, Sh.none)).2).T → Option R) : impl_IsFormula_l0_again N ks (k + 1) x = roundF (impl_IsFormula_G N) tab [impl_IsFormula_l0_0_s N] (loopAt impl_IsFormula_code 0) impl_IsFormula_l0_sh impl_IsFormula_l0_ex (fun y => impl_IsFormula_l0_again N ks k y) ks x := by kernel_rfl
theorem impl_IsFormula_l0_ok (N : Nat) : LoopOk Try.prog Try.f107.ntmps (impl_IsFormula_l0_s N) (loopAt impl_IsFormula_code 0) :=
  loop_ok (l := impl_IsFormula_l0_s N) progOk (impl_IsFormula_gok N) (draw_ok progOk (impl_IsFormula_gok N)) (fun R k x ks => impl_IsFormula_l0_again N ks k x) (fun _ _ _ => rfl) (fun R k x ks => impl_IsFormula_l0_step N R k x ks) (fun R x ks r h => ⟨N, h⟩) (lsOk_at (L := [impl_IsFormula_l0_0_s N]) ⟨impl_IsFormula_l0_0_ok N, trivial⟩) (by kernel_rfl) (by kernel_rfl)
noncomputable def impl_IsFormula (N : Nat) (f : (Int × (List (List Int)))) : Option ((Bool × Unit) × (Unit)) :=
  ((impl_between N f.1 0 6).bind fun r =>
    (br (!r.1.1)
      (some ((false, ()), ()))
      ((br (ilt 64 (tLen f.2))
        (some ((false, ()), ()))
        (impl_IsFormula_l0 N (fun x => some ((x, ()), ())) (fun (_ : Unit) => some ((true, ()), ())) N f.2 (tLen f.2) 0 f.1 f.2)))))
noncomputable def impl_IsFormula_S (N : Nat) : FSum := ⟨impl_IsFormula_ps, impl_IsFormula_rs, fun x => impl_IsFormula N x.1⟩
theorem impl_IsFormula_run (N : Nat) (x : argsT impl_IsFormula_ps) : impl_IsFormula N x.1 = funF (impl_IsFormula_G N) tab [impl_IsFormula_l0_s N] Try.f107 impl_IsFormula_ps impl_IsFormula_rs x := by kernel_rfl
theorem impl_IsFormula_pc (N : Nat) : PC Try.prog 107 (impl_IsFormula_S N) := by
  have e : impl_IsFormula_S N = ⟨impl_IsFormula_ps, impl_IsFormula_rs, funF (impl_IsFormula_G N) tab [impl_IsFormula_l0_s N] Try.f107 impl_IsFormula_ps impl_IsFormula_rs⟩ := congrArg (FSum.mk impl_IsFormula_ps impl_IsFormula_rs) (funext (impl_IsFormula_run N))
  rw [e]
  exact fun_ok (c := impl_IsFormula_code) progOk (impl_IsFormula_gok N) (draw_ok progOk (impl_IsFormula_gok N)) Try.call107 Try.func107 (by kernel_rfl) (lsOk_at (L := [impl_IsFormula_l0_s N]) ⟨impl_IsFormula_l0_ok N, trivial⟩) (by kernel_rfl) (by kernel_rfl) (by kernel_rfl) (by kernel_rfl) (by kernel_rfl)

/-! ### slices_IndexFunc_LLI_LI -/
abbrev slices_IndexFunc_LLI_LI_ps : List (PV.Mode × Ty) := [(.ro, LLI), (.ro, FLIBo)]
abbrev slices_IndexFunc_LLI_LI_rs : List (Bool × Ty) := [(true, I)]
noncomputable def slices_IndexFunc_LLI_LI_G (N : Nat) : GTab := gOf []
theorem slices_IndexFunc_LLI_LI_gok (N : Nat) : GOk Try.prog (slices_IndexFunc_LLI_LI_G N) := gOf_ok trivial
noncomputable def slices_IndexFunc_LLI_LI_code : Code := (Try.f207.body).getD .skip
noncomputable def slices_IndexFunc_LLI_LI_l0_sh : Sh := ⟨[(0, .one (.ro LLI)), (1, .one (.ro FLIBo)), (7, .one (.ro I)), (8, .one (.ro I))], []⟩
noncomputable def slices_IndexFunc_LLI_LI_l0_ex : List (Ex × Sh) := [(.ret, ⟨[(4, .one (.ro I))], []⟩), (.exit 0, ⟨[], []⟩)]
noncomputable def slices_IndexFunc_LLI_LI_l0 {R : Type} (N : Nat) (k0 : Int → Option R) (k1 : Unit → Option R) : Nat → (List (List Int)) → ((List Int) → Option Bool) → Int → Int → Option R
  | 0, _, _, _, _ => none
  | K + 1, s1, f1, x, x1 =>
    (br (ilt x1 x)
      ((chk (inb s1 x1)
        ((f1 (rdL s1 x1)).bind fun v =>
        (br v
        (k0 x1)
        (slices_IndexFunc_LLI_LI_l0 N k0 k1 K s1 f1 x (IntKind.i64.wrap (x1 + 1)))))))
      (k1 ()))
noncomputable def slices_IndexFunc_LLI_LI_l0_again {R : Type} (N : Nat) (ks : (j : Nat) → ((slices_IndexFunc_LLI_LI_l0_ex.getD j (.ret, Sh.none)).2).T → Option R) (k : Nat) (x : slices_IndexFunc_LLI_LI_l0_sh.T) : Option R :=
  slices_IndexFunc_LLI_LI_l0 N (fun y0 => ks 0 ((y0, ()), ())) (fun (_ : Unit) => ks 1 ((), ())) k x.1.1 x.1.2.1 x.1.2.2.1 x.1.2.2.2.1
noncomputable def slices_IndexFunc_LLI_LI_l0_s (N : Nat) : LSum := ⟨slices_IndexFunc_LLI_LI_l0_sh, slices_IndexFunc_LLI_LI_l0_ex, fun x ks => slices_IndexFunc_LLI_LI_l0_again N ks N x⟩
theorem slices_IndexFunc_LLI_LI_l0_step (N : Nat) (R : Type) (k : Nat) (x : slices_IndexFunc_LLI_LI_l0_sh.T) (ks : (j : Nat) → ((slices_IndexFunc_LLI_LI_l0_ex.getD j (.ret, Sh.none)).2).T → Option R) : slices_IndexFunc_LLI_LI_l0_again N ks (k + 1) x = roundF (slices_IndexFunc_LLI_LI_G N) tab [] (loopAt slices_IndexFunc_LLI_LI_code 0) slices_IndexFunc_LLI_LI_l0_sh slices_IndexFunc_LLI_LI_l0_ex (fun y => slices_IndexFunc_LLI_LI_l0_again N ks k y) ks x := by kernel_rfl
theorem slices_IndexFunc_LLI_LI_l0_ok (N : Nat) : LoopOk Try.prog Try.f207.ntmps (slices_IndexFunc_LLI_LI_l0_s N) (loopAt slices_IndexFunc_LLI_LI_code 0) :=
  loop_ok (l := slices_IndexFunc_LLI_LI_l0_s N) progOk (slices_IndexFunc_LLI_LI_gok N) (draw_ok progOk (slices_IndexFunc_LLI_LI_gok N)) (fun R k x ks => slices_IndexFunc_LLI_LI_l0_again N ks k x) (fun _ _ _ => rfl) (fun R k x ks => slices_IndexFunc_LLI_LI_l0_step N R k x ks) (fun R x ks r h => ⟨N, h⟩) (lsOk_at (L := []) trivial) (by kernel_rfl) (by kernel_rfl)
noncomputable def slices_IndexFunc_LLI_LI (N : Nat) (s : (List (List Int))) (f : ((List Int) → Option Bool)) : Option ((Int × Unit) × (Unit)) :=
  slices_IndexFunc_LLI_LI_l0 N (fun x => some ((x, ()), ())) (fun (_ : Unit) => some (((-1), ()), ())) N s f (tLen s) 0
noncomputable def slices_IndexFunc_LLI_LI_S (N : Nat) : FSum := ⟨slices_IndexFunc_LLI_LI_ps, slices_IndexFunc_LLI_LI_rs, fun x => slices_IndexFunc_LLI_LI N x.1 x.2.1⟩
theorem slices_IndexFunc_LLI_LI_run (N : Nat) (x : argsT slices_IndexFunc_LLI_LI_ps) : slices_IndexFunc_LLI_LI N x.1 x.2.1 = funF (slices_IndexFunc_LLI_LI_G N) tab [slices_IndexFunc_LLI_LI_l0_s N] Try.f207 slices_IndexFunc_LLI_LI_ps slices_IndexFunc_LLI_LI_rs x := by kernel_rfl
theorem slices_IndexFunc_LLI_LI_pc (N : Nat) : PC Try.prog 207 (slices_IndexFunc_LLI_LI_S N) := by
  have e : slices_IndexFunc_LLI_LI_S N = ⟨slices_IndexFunc_LLI_LI_ps, slices_IndexFunc_LLI_LI_rs, funF (slices_IndexFunc_LLI_LI_G N) tab [slices_IndexFunc_LLI_LI_l0_s N] Try.f207 slices_IndexFunc_LLI_LI_ps slices_IndexFunc_LLI_LI_rs⟩ := congrArg (FSum.mk slices_IndexFunc_LLI_LI_ps slices_IndexFunc_LLI_LI_rs) (funext (slices_IndexFunc_LLI_LI_run N))
  rw [e]
  exact fun_ok (c := slices_IndexFunc_LLI_LI_code) progOk (slices_IndexFunc_LLI_LI_gok N) (draw_ok progOk (slices_IndexFunc_LLI_LI_gok N)) Try.call207 Try.func207 (by kernel_rfl) (lsOk_at (L := [slices_IndexFunc_LLI_LI_l0_s N]) ⟨slices_IndexFunc_LLI_LI_l0_ok N, trivial⟩) (by kernel_rfl) (by kernel_rfl) (by kernel_rfl) (by kernel_rfl) (by kernel_rfl)

/-! ### slices_ContainsFunc_LLI_LI -/
abbrev slices_ContainsFunc_LLI_LI_ps : List (PV.Mode × Ty) := [(.ro, LLI), (.ro, FLIBo)]
abbrev slices_ContainsFunc_LLI_LI_rs : List (Bool × Ty) := [(true, .bool)]
noncomputable def slices_ContainsFunc_LLI_LI_G (N : Nat) : GTab := gOf [(207, slices_IndexFunc_LLI_LI_S N)]
theorem slices_ContainsFunc_LLI_LI_gok (N : Nat) : GOk Try.prog (slices_ContainsFunc_LLI_LI_G N) := gOf_ok ⟨slices_IndexFunc_LLI_LI_pc N, trivial⟩
noncomputable def slices_ContainsFunc_LLI_LI_code : Code := (Try.f158.body).getD .skip
noncomputable def slices_ContainsFunc_LLI_LI (N : Nat) (s : (List (List Int))) (f : ((List Int) → Option Bool)) : Option ((Bool × Unit) × (Unit)) :=
  ((slices_IndexFunc_LLI_LI N s f).bind fun r =>
    some (((ile 0 r.1.1), ()), ()))
noncomputable def slices_ContainsFunc_LLI_LI_S (N : Nat) : FSum := ⟨slices_ContainsFunc_LLI_LI_ps, slices_ContainsFunc_LLI_LI_rs, fun x => slices_ContainsFunc_LLI_LI N x.1 x.2.1⟩
theorem slices_ContainsFunc_LLI_LI_run (N : Nat) (x : argsT slices_ContainsFunc_LLI_LI_ps) : slices_ContainsFunc_LLI_LI N x.1 x.2.1 = funF (slices_ContainsFunc_LLI_LI_G N) tab [] Try.f158 slices_ContainsFunc_LLI_LI_ps slices_ContainsFunc_LLI_LI_rs x := by kernel_rfl
theorem slices_ContainsFunc_LLI_LI_pc (N : Nat) : PC Try.prog 158 (slices_ContainsFunc_LLI_LI_S N) := by
  have e : slices_ContainsFunc_LLI_LI_S N = ⟨slices_ContainsFunc_LLI_LI_ps, slices_ContainsFunc_LLI_LI_rs, funF (slices_ContainsFunc_LLI_LI_G N) tab [] Try.f158 slices_ContainsFunc_LLI_LI_ps slices_ContainsFunc_LLI_LI_rs⟩ := congrArg (FSum.mk slices_ContainsFunc_LLI_LI_ps slices_ContainsFunc_LLI_LI_rs) (funext (slices_ContainsFunc_LLI_LI_run N))
  rw [e]
  exact fun_ok (c := slices_ContainsFunc_LLI_LI_code) progOk (slices_ContainsFunc_LLI_LI_gok N) (draw_ok progOk (slices_ContainsFunc_LLI_LI_gok N)) Try.call158 Try.func158 (by kernel_rfl) (lsOk_at (L := []) trivial) (by kernel_rfl) (by kernel_rfl) (by kernel_rfl) (by kernel_rfl) (by kernel_rfl)

/-! ### impl_meets -/
abbrev impl_meets_ps : List (PV.Mode × Ty) := [(.ro, LI), (.ro, I)]
abbrev impl_meets_rs : List (Bool × Ty) := [(true, .bool)]
noncomputable def impl_meets_G (N : Nat) : GTab := gOf []
theorem impl_meets_gok (N : Nat) : GOk Try.prog (impl_meets_G N) := gOf_ok trivial
noncomputable def impl_meets_code : Code := (Try.f241.body).getD .skip
noncomputable def impl_meets (N : Nat) (list : (List Int)) (literal : Int) : Option ((Bool × Unit) × (Unit)) :=
  (br (ilt 0 literal)
    ((chk (inb list (IntKind.i64.wrap (literal - 1)))
      (some (((ieq (rdI list (IntKind.i64.wrap (literal - 1))) 1), ()), ()))))
    ((chk (inb list (IntKind.i64.wrap ((-1) - literal)))
      (some (((ieq (rdI list (IntKind.i64.wrap ((-1) - literal))) 0), ()), ())))))
noncomputable def impl_meets_S (N : Nat) : FSum := ⟨impl_meets_ps, impl_meets_rs, fun x => impl_meets N x.1 x.2.1⟩
theorem impl_meets_run (N : Nat) (x : argsT impl_meets_ps) : impl_meets N x.1 x.2.1 = funF (impl_meets_G N) tab [] Try.f241 impl_meets_ps impl_meets_rs x := by kernel_rfl
theorem impl_meets_pc (N : Nat) : PC Try.prog 241 (impl_meets_S N) := by
  have e : impl_meets_S N = ⟨impl_meets_ps, impl_meets_rs, funF (impl_meets_G N) tab [] Try.f241 impl_meets_ps impl_meets_rs⟩ := congrArg (FSum.mk impl_meets_ps impl_meets_rs) (funext (impl_meets_run N))
  rw [e]
  exact fun_ok (c := impl_meets_code) progOk (impl_meets_gok N) (draw_ok progOk (impl_meets_gok N)) Try.call241 Try.func241 (by kernel_rfl) (lsOk_at (L := []) trivial) (by kernel_rfl) (by kernel_rfl) (by kernel_rfl) (by kernel_rfl) (by kernel_rfl)

/-! ### impl_Formula_solves_c1_c1 -/
abbrev impl_Formula_solves_c1_c1_ps : List (PV.Mode × Ty) := [(.ro, I), (.ro, ALI)]
abbrev impl_Formula_solves_c1_c1_rs : List (Bool × Ty) := [(true, .bool)]
noncomputable def impl_Formula_solves_c1_c1_G (N : Nat) : GTab := gOf [(241, impl_meets_S N)]
theorem impl_Formula_solves_c1_c1_gok (N : Nat) : GOk Try.prog (impl_Formula_solves_c1_c1_G N) := gOf_ok ⟨impl_meets_pc N, trivial⟩
noncomputable def impl_Formula_solves_c1_c1_code : Code := (Try.f240.body).getD .skip
noncomputable def impl_Formula_solves_c1_c1 (N : Nat) (literal : Int) (c : (List Int)) : Option ((Bool × Unit) × (Unit)) :=
  ((impl_meets N c literal).bind fun r =>
    some ((r.1.1, ()), ()))
noncomputable def impl_Formula_solves_c1_c1_S (N : Nat) : FSum := ⟨impl_Formula_solves_c1_c1_ps, impl_Formula_solves_c1_c1_rs, fun x => impl_Formula_solves_c1_c1 N x.1 x.2.1⟩
theorem impl_Formula_solves_c1_c1_run (N : Nat) (x : argsT impl_Formula_solves_c1_c1_ps) : impl_Formula_solves_c1_c1 N x.1 x.2.1 = funF (impl_Formula_solves_c1_c1_G N) tab [] Try.f240 impl_Formula_solves_c1_c1_ps impl_Formula_solves_c1_c1_rs x := by kernel_rfl
theorem impl_Formula_solves_c1_c1_pc (N : Nat) : PC Try.prog 240 (impl_Formula_solves_c1_c1_S N) := by
  have e : impl_Formula_solves_c1_c1_S N = ⟨impl_Formula_solves_c1_c1_ps, impl_Formula_solves_c1_c1_rs, funF (impl_Formula_solves_c1_c1_G N) tab [] Try.f240 impl_Formula_solves_c1_c1_ps impl_Formula_solves_c1_c1_rs⟩ := congrArg (FSum.mk impl_Formula_solves_c1_c1_ps impl_Formula_solves_c1_c1_rs) (funext (impl_Formula_solves_c1_c1_run N))
  rw [e]
  exact fun_ok (c := impl_Formula_solves_c1_c1_code) progOk (impl_Formula_solves_c1_c1_gok N) (draw_ok progOk (impl_Formula_solves_c1_c1_gok N)) Try.call240 Try.func240 (by kernel_rfl) (lsOk_at (L := []) trivial) (by kernel_rfl) (by kernel_rfl) (by kernel_rfl) (by kernel_rfl) (by kernel_rfl)

/-! ### slices_IndexFunc_LI_int -/
abbrev slices_IndexFunc_LI_int_ps : List (PV.Mode × Ty) := [(.ro, LI), (.ro, FIBo)]
abbrev slices_IndexFunc_LI_int_rs : List (Bool × Ty) := [(true, I)]
noncomputable def slices_IndexFunc_LI_int_G (N : Nat) : GTab := gOf []
theorem slices_IndexFunc_LI_int_gok (N : Nat) : GOk Try.prog (slices_IndexFunc_LI_int_G N) := gOf_ok trivial
noncomputable def slices_IndexFunc_LI_int_code : Code := (Try.f165.body).getD .skip
noncomputable def slices_IndexFunc_LI_int_l0_sh : Sh := ⟨[(0, .one (.ro LI)), (1, .one (.ro FIBo)), (7, .one (.ro I)), (8, .one (.ro I))], []⟩
noncomputable def slices_IndexFunc_LI_int_l0_ex : List (Ex × Sh) := [(.ret, ⟨[(4, .one (.ro I))], []⟩), (.exit 0, ⟨[], []⟩)]
noncomputable def slices_IndexFunc_LI_int_l0 {R : Type} (N : Nat) (k0 : Int → Option R) (k1 : Unit → Option R) : Nat → (List Int) → (Int → Option Bool) → Int → Int → Option R
  | 0, _, _, _, _ => none
  | K + 1, s1, f1, x, x1 =>
    (br (ilt x1 x)
      ((chk (inb s1 x1)
        ((f1 (rdI s1 x1)).bind fun v =>
        (br v
        (k0 x1)
        (slices_IndexFunc_LI_int_l0 N k0 k1 K s1 f1 x (IntKind.i64.wrap (x1 + 1)))))))
      (k1 ()))
noncomputable def slices_IndexFunc_LI_int_l0_again {R : Type} (N : Nat) (ks : (j : Nat) → ((slices_IndexFunc_LI_int_l0_ex.getD j (.ret, Sh.none)).2).T → Option R) (k : Nat) (x : slices_IndexFunc_LI_int_l0_sh.T) : Option R :=
  slices_IndexFunc_LI_int_l0 N (fun y0 => ks 0 ((y0, ()), ())) (fun (_ : Unit) => ks 1 ((), ())) k x.1.1 x.1.2.1 x.1.2.2.1 x.1.2.2.2.1
noncomputable def slices_IndexFunc_LI_int_l0_s (N : Nat) : LSum := ⟨slices_IndexFunc_LI_int_l0_sh, slices_IndexFunc_LI_int_l0_ex, fun x ks => slices_IndexFunc_LI_int_l0_again N ks N x⟩
theorem slices_IndexFunc_LI_int_l0_step (N : Nat) (R : Type) (k : Nat) (x : slices_IndexFunc_LI_int_l0_sh.T) (ks : (j : Nat) → ((slices_IndexFunc_LI_int_l0_ex.getD j (.ret, Sh.none)).2).T → Option R) : slices_IndexFunc_LI_int_l0_again N ks (k + 1) x = roundF (slices_IndexFunc_LI_int_G N) tab [] (loopAt slices_IndexFunc_LI_int_code 0) slices_IndexFunc_LI_int_l0_sh slices_IndexFunc_LI_int_l0_ex (fun y => slices_IndexFunc_LI_int_l0_again N ks k y) ks x := by kernel_rfl
theorem slices_IndexFunc_LI_int_l0_ok (N : Nat) : LoopOk Try.prog Try.f165.ntmps (slices_IndexFunc_LI_int_l0_s N) (loopAt slices_IndexFunc_LI_int_code 0) :=
  loop_ok (l := slices_IndexFunc_LI_int_l0_s N) progOk (slices_IndexFunc_LI_int_gok N) (draw_ok progOk (slices_IndexFunc_LI_int_gok N)) (fun R k x ks => slices_IndexFunc_LI_int_l0_again N ks k x) (fun _ _ _ => rfl) (fun R k x ks => slices_IndexFunc_LI_int_l0_step N R k x ks) (fun R x ks r h => ⟨N, h⟩) (lsOk_at (L := []) trivial) (by kernel_rfl) (by kernel_rfl)
noncomputable def slices_IndexFunc_LI_int (N : Nat) (s : (List Int)) (f : (Int → Option Bool)) : Option ((Int × Unit) × (Unit)) :=
  slices_IndexFunc_LI_int_l0 N (fun x => some ((x, ()), ())) (fun (_ : Unit) => some (((-1), ()), ())) N s f (tLen s) 0
noncomputable def slices_IndexFunc_LI_int_S (N : Nat) : FSum := ⟨slices_IndexFunc_LI_int_ps, slices_IndexFunc_LI_int_rs, fun x => slices_IndexFunc_LI_int N x.1 x.2.1⟩
theorem slices_IndexFunc_LI_int_run (N : Nat) (x : argsT slices_IndexFunc_LI_int_ps) : slices_IndexFunc_LI_int N x.1 x.2.1 = funF (slices_IndexFunc_LI_int_G N) tab [slices_IndexFunc_LI_int_l0_s N] Try.f165 slices_IndexFunc_LI_int_ps slices_IndexFunc_LI_int_rs x := by kernel_rfl
theorem slices_IndexFunc_LI_int_pc (N : Nat) : PC Try.prog 165 (slices_IndexFunc_LI_int_S N) := by
  have e : slices_IndexFunc_LI_int_S N = ⟨slices_IndexFunc_LI_int_ps, slices_IndexFunc_LI_int_rs, funF (slices_IndexFunc_LI_int_G N) tab [slices_IndexFunc_LI_int_l0_s N] Try.f165 slices_IndexFunc_LI_int_ps slices_IndexFunc_LI_int_rs⟩ := congrArg (FSum.mk slices_IndexFunc_LI_int_ps slices_IndexFunc_LI_int_rs) (funext (slices_IndexFunc_LI_int_run N))
  rw [e]
  exact fun_ok (c := slices_IndexFunc_LI_int_code) progOk (slices_IndexFunc_LI_int_gok N) (draw_ok progOk (slices_IndexFunc_LI_int_gok N)) Try.call165 Try.func165 (by kernel_rfl) (lsOk_at (L := [slices_IndexFunc_LI_int_l0_s N]) ⟨slices_IndexFunc_LI_int_l0_ok N, trivial⟩) (by kernel_rfl) (by kernel_rfl) (by kernel_rfl) (by kernel_rfl) (by kernel_rfl)

/-! ### slices_ContainsFunc_LI_int -/
abbrev slices_ContainsFunc_LI_int_ps : List (PV.Mode × Ty) := [(.ro, LI), (.ro, FIBo)]
abbrev slices_ContainsFunc_LI_int_rs : List (Bool × Ty) := [(true, .bool)]
noncomputable def slices_ContainsFunc_LI_int_G (N : Nat) : GTab := gOf [(165, slices_IndexFunc_LI_int_S N)]
theorem slices_ContainsFunc_LI_int_gok (N : Nat) : GOk Try.prog (slices_ContainsFunc_LI_int_G N) := gOf_ok ⟨slices_IndexFunc_LI_int_pc N, trivial⟩
noncomputable def slices_ContainsFunc_LI_int_code : Code := (Try.f99.body).getD .skip
noncomputable def slices_ContainsFunc_LI_int (N : Nat) (s : (List Int)) (f : (Int → Option Bool)) : Option ((Bool × Unit) × (Unit)) :=
  ((slices_IndexFunc_LI_int N s f).bind fun r =>
    some (((ile 0 r.1.1), ()), ()))
noncomputable def slices_ContainsFunc_LI_int_S (N : Nat) : FSum := ⟨slices_ContainsFunc_LI_int_ps, slices_ContainsFunc_LI_int_rs, fun x => slices_ContainsFunc_LI_int N x.1 x.2.1⟩
theorem slices_ContainsFunc_LI_int_run (N : Nat) (x : argsT slices_ContainsFunc_LI_int_ps) : slices_ContainsFunc_LI_int N x.1 x.2.1 = funF (slices_ContainsFunc_LI_int_G N) tab [] Try.f99 slices_ContainsFunc_LI_int_ps slices_ContainsFunc_LI_int_rs x := by kernel_rfl
theorem slices_ContainsFunc_LI_int_pc (N : Nat) : PC Try.prog 99 (slices_ContainsFunc_LI_int_S N) := by
  have e : slices_ContainsFunc_LI_int_S N = ⟨slices_ContainsFunc_LI_int_ps, slices_ContainsFunc_LI_int_rs, funF (slices_ContainsFunc_LI_int_G N) tab [] Try.f99 slices_ContainsFunc_LI_int_ps slices_ContainsFunc_LI_int_rs⟩ := congrArg (FSum.mk slices_ContainsFunc_LI_int_ps slices_ContainsFunc_LI_int_rs) (funext (slices_ContainsFunc_LI_int_run N))
  rw [e]
  exact fun_ok (c := slices_ContainsFunc_LI_int_code) progOk (slices_ContainsFunc_LI_int_gok N) (draw_ok progOk (slices_ContainsFunc_LI_int_gok N)) Try.call99 Try.func99 (by kernel_rfl) (lsOk_at (L := []) trivial) (by kernel_rfl) (by kernel_rfl) (by kernel_rfl) (by kernel_rfl) (by kernel_rfl)

/-! ### impl_Formula_solves_c1 -/
abbrev impl_Formula_solves_c1_ps : List (PV.Mode × Ty) := [(.ro, LI), (.ro, ALI)]
abbrev impl_Formula_solves_c1_rs : List (Bool × Ty) := [(true, .bool)]
noncomputable def impl_Formula_solves_c1_G (N : Nat) : GTab := gOf [(240, impl_Formula_solves_c1_c1_S N), (99, slices_ContainsFunc_LI_int_S N)]
theorem impl_Formula_solves_c1_gok (N : Nat) : GOk Try.prog (impl_Formula_solves_c1_G N) := gOf_ok ⟨impl_Formula_solves_c1_c1_pc N, slices_ContainsFunc_LI_int_pc N, trivial⟩
noncomputable def impl_Formula_solves_c1_code : Code := (Try.f239.body).getD .skip
noncomputable def impl_Formula_solves_c1 (N : Nat) (clause : (List Int)) (c : (List Int)) : Option ((Bool × Unit) × (Unit)) :=
  ((slices_ContainsFunc_LI_int N clause (fun y0 => (impl_Formula_solves_c1_c1 N y0 c).bind fun z => some z.1.1)).bind fun r =>
    some (((!r.1.1), ()), ()))
noncomputable def impl_Formula_solves_c1_S (N : Nat) : FSum := ⟨impl_Formula_solves_c1_ps, impl_Formula_solves_c1_rs, fun x => impl_Formula_solves_c1 N x.1 x.2.1⟩
theorem impl_Formula_solves_c1_run (N : Nat) (x : argsT impl_Formula_solves_c1_ps) : impl_Formula_solves_c1 N x.1 x.2.1 = funF (impl_Formula_solves_c1_G N) tab [] Try.f239 impl_Formula_solves_c1_ps impl_Formula_solves_c1_rs x := by kernel_rfl
theorem impl_Formula_solves_c1_pc (N : Nat) : PC Try.prog 239 (impl_Formula_solves_c1_S N) := by
  have e : impl_Formula_solves_c1_S N = ⟨impl_Formula_solves_c1_ps, impl_Formula_solves_c1_rs, funF (impl_Formula_solves_c1_G N) tab [] Try.f239 impl_Formula_solves_c1_ps impl_Formula_solves_c1_rs⟩ := congrArg (FSum.mk impl_Formula_solves_c1_ps impl_Formula_solves_c1_rs) (funext (impl_Formula_solves_c1_run N))
  rw [e]
  exact fun_ok (c := impl_Formula_solves_c1_code) progOk (impl_Formula_solves_c1_gok N) (draw_ok progOk (impl_Formula_solves_c1_gok N)) Try.call239 Try.func239 (by kernel_rfl) (lsOk_at (L := []) trivial) (by kernel_rfl) (by kernel_rfl) (by kernel_rfl) (by kernel_rfl) (by kernel_rfl)
end Go.Proofs.Ytfbkjgeaoafejaa
