/- Functions of the program as functions on data. -/
import Derived.Test.YthkejedgfhjdiaaFormulaOfTa
set_option linter.all false
namespace Go.Proofs.Ythkejedgfhjdiaa
open Go Go.PV
/-! ### laws_szIntS -/
noncomputable def laws_szIntS_G (N : Nat) : GTab := gOf []
theorem laws_szIntS_gok (N : Nat) : GOk Try.prog (laws_szIntS_G N) := gOf_ok trivial
noncomputable def laws_szIntS_code : Code := (Try.f60.body).getD .skip
noncomputable def laws_szIntS (N : Nat) (a : (List Int)) (left : Int) : Option ((Int × Unit) × (Unit)) :=
  (br (ilt (IntKind.i64.wrap (left - (tLen a))) 0)
    (some (((-1), ()), ()))
    (some (((IntKind.i64.wrap (left - (tLen a))), ()), ())))
abbrev laws_szIntS_ps : List (PV.Mode × Ty) := [(.ro, LI), (.ro, I)]
abbrev laws_szIntS_rs : List (Bool × Ty) := [(true, I)]
noncomputable def laws_szIntS_S (N : Nat) : FSum := ⟨laws_szIntS_ps, laws_szIntS_rs, fun x => laws_szIntS N x.1 x.2.1⟩
theorem laws_szIntS_run (N : Nat) (x : argsT laws_szIntS_ps) : laws_szIntS N x.1 x.2.1 = funF (laws_szIntS_G N) tab [] Try.f60 laws_szIntS_ps laws_szIntS_rs x := by kernel_rfl
theorem laws_szIntS_pc (N : Nat) : PC Try.prog 60 (laws_szIntS_S N) := by
  have e : laws_szIntS_S N = ⟨laws_szIntS_ps, laws_szIntS_rs, funF (laws_szIntS_G N) tab [] Try.f60 laws_szIntS_ps laws_szIntS_rs⟩ := congrArg (FSum.mk laws_szIntS_ps laws_szIntS_rs) (funext (laws_szIntS_run N))
  rw [e]
  exact fun_ok (c := laws_szIntS_code) progOk (laws_szIntS_gok N) (draw_ok progOk (laws_szIntS_gok N)) Try.call60 Try.func60 (by kernel_rfl) (lsOk_at (L := []) trivial) (by kernel_rfl) (by kernel_rfl) (by kernel_rfl) (by kernel_rfl) (by kernel_rfl)

/-! ### laws_szIntSS -/
noncomputable def laws_szIntSS_G (N : Nat) : GTab := gOf [(60, laws_szIntS_S N)]
theorem laws_szIntSS_gok (N : Nat) : GOk Try.prog (laws_szIntSS_G N) := gOf_ok ⟨laws_szIntS_pc N, trivial⟩
noncomputable def laws_szIntSS_code : Code := (Try.f15.body).getD .skip
noncomputable def laws_szIntSS_l0_sh : Sh := ⟨[(0, .one (.ro LLI)), (1, .one (.ro I)), (5, .one (.ro I))], []⟩
noncomputable def laws_szIntSS_l0_ex : List (Ex × Sh) := [(.ret, ⟨[(4, .one (.ro I))], []⟩), (.exit 0, ⟨[(1, .one (.ro I))], []⟩)]
noncomputable def laws_szIntSS_l0 {R : Type} (N : Nat) (k0 : Int → Option R) (k1 : Int → Option R) : Nat → (List (List Int)) → Int → Int → Option R
  | 0, _, _, _ => none
  | K + 1, a1, left1, i =>
    (br (ilt i (tLen a1))
      ((chk (inb a1 i)
        ((laws_szIntS N (rdL a1 i) left1).bind fun r =>
        (br (ilt r.1.1 0)
          (k0 (-1))
          (laws_szIntSS_l0 N k0 k1 K a1 r.1.1 (IntKind.i64.wrap (i + 1)))))))
      (k1 left1))
noncomputable def laws_szIntSS_l0_again {R : Type} (N : Nat) (ks : (j : Nat) → ((laws_szIntSS_l0_ex.getD j (.ret, Sh.none)).2).T → Option R) (k : Nat) (x : laws_szIntSS_l0_sh.T) : Option R :=
  laws_szIntSS_l0 N (fun y0 => ks 0 ((y0, ()), ())) (fun y0 => ks 1 ((y0, ()), ())) k x.1.1 x.1.2.1 x.1.2.2.1
noncomputable def laws_szIntSS_l0_s (N : Nat) : LSum := ⟨laws_szIntSS_l0_sh, laws_szIntSS_l0_ex, fun x ks => laws_szIntSS_l0_again N ks N x⟩
theorem laws_szIntSS_l0_step (N : Nat) (R : Type) (k : Nat) (x : laws_szIntSS_l0_sh.T) (ks : (j : Nat) → ((laws_szIntSS_l0_ex.getD j (.ret, Sh.none)).2).T → Option R) : laws_szIntSS_l0_again N ks (k + 1) x = roundF (laws_szIntSS_G N) tab [] (loopAt laws_szIntSS_code 0) laws_szIntSS_l0_sh laws_szIntSS_l0_ex (fun y => laws_szIntSS_l0_again N ks k y) ks x := by kernel_rfl
theorem laws_szIntSS_l0_ok (N : Nat) : LoopOk Try.prog Try.f15.ntmps (laws_szIntSS_l0_s N) (loopAt laws_szIntSS_code 0) :=
  loop_ok (l := laws_szIntSS_l0_s N) progOk (laws_szIntSS_gok N) (draw_ok progOk (laws_szIntSS_gok N)) (fun R k x ks => laws_szIntSS_l0_again N ks k x) (fun _ _ _ => rfl) (fun R k x ks => laws_szIntSS_l0_step N R k x ks) (fun R x ks r h => ⟨N, h⟩) (lsOk_at (L := []) trivial) (by kernel_rfl) (by kernel_rfl)
noncomputable def laws_szIntSS (N : Nat) (a : (List (List Int))) (left : Int) : Option ((Int × Unit) × (Unit)) :=
  (br (ilt (IntKind.i64.wrap (left - (tLen a))) 0)
    (some (((-1), ()), ()))
    (laws_szIntSS_l0 N (fun x => some ((x, ()), ())) (fun left1 => some ((left1, ()), ())) N a (IntKind.i64.wrap (left - (tLen a))) 0))
abbrev laws_szIntSS_ps : List (PV.Mode × Ty) := [(.ro, LLI), (.ro, I)]
abbrev laws_szIntSS_rs : List (Bool × Ty) := [(true, I)]
noncomputable def laws_szIntSS_S (N : Nat) : FSum := ⟨laws_szIntSS_ps, laws_szIntSS_rs, fun x => laws_szIntSS N x.1 x.2.1⟩
theorem laws_szIntSS_run (N : Nat) (x : argsT laws_szIntSS_ps) : laws_szIntSS N x.1 x.2.1 = funF (laws_szIntSS_G N) tab [laws_szIntSS_l0_s N] Try.f15 laws_szIntSS_ps laws_szIntSS_rs x := by kernel_rfl
theorem laws_szIntSS_pc (N : Nat) : PC Try.prog 15 (laws_szIntSS_S N) := by
  have e : laws_szIntSS_S N = ⟨laws_szIntSS_ps, laws_szIntSS_rs, funF (laws_szIntSS_G N) tab [laws_szIntSS_l0_s N] Try.f15 laws_szIntSS_ps laws_szIntSS_rs⟩ := congrArg (FSum.mk laws_szIntSS_ps laws_szIntSS_rs) (funext (laws_szIntSS_run N))
  rw [e]
  exact fun_ok (c := laws_szIntSS_code) progOk (laws_szIntSS_gok N) (draw_ok progOk (laws_szIntSS_gok N)) Try.call15 Try.func15 (by kernel_rfl) (lsOk_at (L := [laws_szIntSS_l0_s N]) ⟨laws_szIntSS_l0_ok N, trivial⟩) (by kernel_rfl) (by kernel_rfl) (by kernel_rfl) (by kernel_rfl) (by kernel_rfl)

/-! ### laws_toIntS -/
noncomputable def laws_toIntS_G (N : Nat) : GTab := gOf []
theorem laws_toIntS_gok (N : Nat) : GOk Try.prog (laws_toIntS_G N) := gOf_ok trivial
noncomputable def laws_toIntS_code : Code := (Try.f33.body).getD .skip
noncomputable def laws_toIntS_l0_sh : Sh := ⟨[(0, .one (.ro LI)), (3, .one (.ref 0)), (4, .one (.ro I))], [.sl 3 I .own]⟩
noncomputable def laws_toIntS_l0_ex : List (Ex × Sh) := [(.exit 0, ⟨[(3, .one (.ref 0))], [.sl 3 I .own]⟩)]
noncomputable def laws_toIntS_l0 {R : Type} (N : Nat) (k0 : (List Int) → Option R) : Nat → (List Int) → Int → (List Int) → Option R
  | 0, _, _, _ => none
  | K + 1, a1, i, o =>
    (br (ilt i (tLen a1))
      ((chk (inb a1 i)
        (chk (inb o i)
        (laws_toIntS_l0 N k0 K a1 (IntKind.i64.wrap (i + 1)) (tSet o i (rdI a1 i))))))
      (k0 o))
noncomputable def laws_toIntS_l0_again {R : Type} (N : Nat) (ks : (j : Nat) → ((laws_toIntS_l0_ex.getD j (.ret, Sh.none)).2).T → Option R) (k : Nat) (x : laws_toIntS_l0_sh.T) : Option R :=
  laws_toIntS_l0 N (fun y0 => ks 0 (((), ()), (y0, ()))) k x.1.1 x.1.2.2.1 x.2.1
noncomputable def laws_toIntS_l0_s (N : Nat) : LSum := ⟨laws_toIntS_l0_sh, laws_toIntS_l0_ex, fun x ks => laws_toIntS_l0_again N ks N x⟩
theorem laws_toIntS_l0_step (N : Nat) (R : Type) (k : Nat) (x : laws_toIntS_l0_sh.T) (ks : (j : Nat) → ((laws_toIntS_l0_ex.getD j (.ret, Sh.none)).2).T → Option R) : laws_toIntS_l0_again N ks (k + 1) x = roundF (laws_toIntS_G N) tab [] (loopAt laws_toIntS_code 0) laws_toIntS_l0_sh laws_toIntS_l0_ex (fun y => laws_toIntS_l0_again N ks k y) ks x := by kernel_rfl
theorem laws_toIntS_l0_ok (N : Nat) : LoopOk Try.prog Try.f33.ntmps (laws_toIntS_l0_s N) (loopAt laws_toIntS_code 0) :=
  loop_ok (l := laws_toIntS_l0_s N) progOk (laws_toIntS_gok N) (draw_ok progOk (laws_toIntS_gok N)) (fun R k x ks => laws_toIntS_l0_again N ks k x) (fun _ _ _ => rfl) (fun R k x ks => laws_toIntS_l0_step N R k x ks) (fun R x ks r h => ⟨N, h⟩) (lsOk_at (L := []) trivial) (by kernel_rfl) (by kernel_rfl)
noncomputable def laws_toIntS (N : Nat) (a : (List Int)) : Option (((List Int) × Unit) × (Unit)) :=
  (chk (ile 0 (tLen a) && ile (tLen a) (tLen a) && fits (tLen a))
    (laws_toIntS_l0 N (fun o => some ((o, ()), ())) N a 0 (tRep (tLen a) 0)))
abbrev laws_toIntS_ps : List (PV.Mode × Ty) := [(.ro, LI)]
abbrev laws_toIntS_rs : List (Bool × Ty) := [(true, LI)]
noncomputable def laws_toIntS_S (N : Nat) : FSum := ⟨laws_toIntS_ps, laws_toIntS_rs, fun x => laws_toIntS N x.1⟩
theorem laws_toIntS_run (N : Nat) (x : argsT laws_toIntS_ps) : laws_toIntS N x.1 = funF (laws_toIntS_G N) tab [laws_toIntS_l0_s N] Try.f33 laws_toIntS_ps laws_toIntS_rs x := by kernel_rfl
theorem laws_toIntS_pc (N : Nat) : PC Try.prog 33 (laws_toIntS_S N) := by
  have e : laws_toIntS_S N = ⟨laws_toIntS_ps, laws_toIntS_rs, funF (laws_toIntS_G N) tab [laws_toIntS_l0_s N] Try.f33 laws_toIntS_ps laws_toIntS_rs⟩ := congrArg (FSum.mk laws_toIntS_ps laws_toIntS_rs) (funext (laws_toIntS_run N))
  rw [e]
  exact fun_ok (c := laws_toIntS_code) progOk (laws_toIntS_gok N) (draw_ok progOk (laws_toIntS_gok N)) Try.call33 Try.func33 (by kernel_rfl) (lsOk_at (L := [laws_toIntS_l0_s N]) ⟨laws_toIntS_l0_ok N, trivial⟩) (by kernel_rfl) (by kernel_rfl) (by kernel_rfl) (by kernel_rfl) (by kernel_rfl)

/-! ### laws_toIntSS -/
noncomputable def laws_toIntSS_G (N : Nat) : GTab := gOf [(33, laws_toIntS_S N)]
theorem laws_toIntSS_gok (N : Nat) : GOk Try.prog (laws_toIntSS_G N) := gOf_ok ⟨laws_toIntS_pc N, trivial⟩
noncomputable def laws_toIntSS_code : Code := (Try.f17.body).getD .skip
noncomputable def laws_toIntSS_l0_sh : Sh := ⟨[(0, .one (.ro LLI)), (3, .one (.ref 0)), (4, .one (.ro I))], [.sl 33 LI .deep]⟩
noncomputable def laws_toIntSS_l0_ex : List (Ex × Sh) := [(.exit 0, ⟨[(3, .one (.ref 0))], [.sl 33 LI .deep]⟩)]
noncomputable def laws_toIntSS_l0 {R : Type} (N : Nat) (k0 : (List (List Int)) → Option R) : Nat → (List (List Int)) → Int → (List (List Int)) → Option R
  | 0, _, _, _ => none
  | K + 1, a1, i, o =>
    (br (ilt i (tLen a1))
      ((chk (inb a1 i)
        ((laws_toIntS N (rdL a1 i)).bind fun r =>
        (chk (inb o i)
          (laws_toIntSS_l0 N k0 K a1 (IntKind.i64.wrap (i + 1)) (tSet o i r.1.1))))))
      (k0 o))
noncomputable def laws_toIntSS_l0_again {R : Type} (N : Nat) (ks : (j : Nat) → ((laws_toIntSS_l0_ex.getD j (.ret, Sh.none)).2).T → Option R) (k : Nat) (x : laws_toIntSS_l0_sh.T) : Option R :=
  laws_toIntSS_l0 N (fun y0 => ks 0 (((), ()), (y0, ()))) k x.1.1 x.1.2.2.1 x.2.1
noncomputable def laws_toIntSS_l0_s (N : Nat) : LSum := ⟨laws_toIntSS_l0_sh, laws_toIntSS_l0_ex, fun x ks => laws_toIntSS_l0_again N ks N x⟩
theorem laws_toIntSS_l0_step (N : Nat) (R : Type) (k : Nat) (x : laws_toIntSS_l0_sh.T) (ks : (j : Nat) → ((laws_toIntSS_l0_ex.getD j (.ret, Sh.none)).2).T → Option R) : laws_toIntSS_l0_again N ks (k + 1) x = roundF (laws_toIntSS_G N) tab [] (loopAt laws_toIntSS_code 0) laws_toIntSS_l0_sh laws_toIntSS_l0_ex (fun y => laws_toIntSS_l0_again N ks k y) ks x := by kernel_rfl
theorem laws_toIntSS_l0_ok (N : Nat) : LoopOk Try.prog Try.f17.ntmps (laws_toIntSS_l0_s N) (loopAt laws_toIntSS_code 0) :=
  loop_ok (l := laws_toIntSS_l0_s N) progOk (laws_toIntSS_gok N) (draw_ok progOk (laws_toIntSS_gok N)) (fun R k x ks => laws_toIntSS_l0_again N ks k x) (fun _ _ _ => rfl) (fun R k x ks => laws_toIntSS_l0_step N R k x ks) (fun R x ks r h => ⟨N, h⟩) (lsOk_at (L := []) trivial) (by kernel_rfl) (by kernel_rfl)
noncomputable def laws_toIntSS (N : Nat) (a : (List (List Int))) : Option (((List (List Int)) × Unit) × (Unit)) :=
  (chk (ile 0 (tLen a) && ile (tLen a) (tLen a) && fits (tLen a))
    (laws_toIntSS_l0 N (fun o => some ((o, ()), ())) N a 0 (tRep (tLen a) [])))
abbrev laws_toIntSS_ps : List (PV.Mode × Ty) := [(.ro, LLI)]
abbrev laws_toIntSS_rs : List (Bool × Ty) := [(true, LLI)]
noncomputable def laws_toIntSS_S (N : Nat) : FSum := ⟨laws_toIntSS_ps, laws_toIntSS_rs, fun x => laws_toIntSS N x.1⟩
theorem laws_toIntSS_run (N : Nat) (x : argsT laws_toIntSS_ps) : laws_toIntSS N x.1 = funF (laws_toIntSS_G N) tab [laws_toIntSS_l0_s N] Try.f17 laws_toIntSS_ps laws_toIntSS_rs x := by kernel_rfl
theorem laws_toIntSS_pc (N : Nat) : PC Try.prog 17 (laws_toIntSS_S N) := by
  have e : laws_toIntSS_S N = ⟨laws_toIntSS_ps, laws_toIntSS_rs, funF (laws_toIntSS_G N) tab [laws_toIntSS_l0_s N] Try.f17 laws_toIntSS_ps laws_toIntSS_rs⟩ := congrArg (FSum.mk laws_toIntSS_ps laws_toIntSS_rs) (funext (laws_toIntSS_run N))
  rw [e]
  exact fun_ok (c := laws_toIntSS_code) progOk (laws_toIntSS_gok N) (draw_ok progOk (laws_toIntSS_gok N)) Try.call17 Try.func17 (by kernel_rfl) (lsOk_at (L := [laws_toIntSS_l0_s N]) ⟨laws_toIntSS_l0_ok N, trivial⟩) (by kernel_rfl) (by kernel_rfl) (by kernel_rfl) (by kernel_rfl) (by kernel_rfl)

/-! ### spec_l1In -/
noncomputable def spec_l1In_G (N : Nat) : GTab := gOf []
theorem spec_l1In_gok (N : Nat) : GOk Try.prog (spec_l1In_G N) := gOf_ok trivial
noncomputable def spec_l1In_code : Code := (Try.f61.body).getD .skip
noncomputable def spec_l1In (N : Nat) (x : Int) (a : Int) (b : Int) : Option ((Bool × Unit) × (Unit)) :=
  (br (ile a x)
    (some (((ile x b), ()), ()))
    (some ((false, ()), ())))
abbrev spec_l1In_ps : List (PV.Mode × Ty) := [(.ro, I), (.ro, I), (.ro, I)]
abbrev spec_l1In_rs : List (Bool × Ty) := [(true, .bool)]
noncomputable def spec_l1In_S (N : Nat) : FSum := ⟨spec_l1In_ps, spec_l1In_rs, fun x => spec_l1In N x.1 x.2.1 x.2.2.1⟩
theorem spec_l1In_run (N : Nat) (x : argsT spec_l1In_ps) : spec_l1In N x.1 x.2.1 x.2.2.1 = funF (spec_l1In_G N) tab [] Try.f61 spec_l1In_ps spec_l1In_rs x := by kernel_rfl
theorem spec_l1In_pc (N : Nat) : PC Try.prog 61 (spec_l1In_S N) := by
  have e : spec_l1In_S N = ⟨spec_l1In_ps, spec_l1In_rs, funF (spec_l1In_G N) tab [] Try.f61 spec_l1In_ps spec_l1In_rs⟩ := congrArg (FSum.mk spec_l1In_ps spec_l1In_rs) (funext (spec_l1In_run N))
  rw [e]
  exact fun_ok (c := spec_l1In_code) progOk (spec_l1In_gok N) (draw_ok progOk (spec_l1In_gok N)) Try.call61 Try.func61 (by kernel_rfl) (lsOk_at (L := []) trivial) (by kernel_rfl) (by kernel_rfl) (by kernel_rfl) (by kernel_rfl) (by kernel_rfl)

/-! ### spec_l6Bits -/
noncomputable def spec_l6Bits_G (N : Nat) : GTab := gOf [(61, spec_l1In_S N)]
theorem spec_l6Bits_gok (N : Nat) : GOk Try.prog (spec_l6Bits_G N) := gOf_ok ⟨spec_l1In_pc N, trivial⟩
noncomputable def spec_l6Bits_code : Code := (Try.f62.body).getD .skip
noncomputable def spec_l6Bits_l0_sh : Sh := ⟨[(0, .one (.ro I)), (1, .one (.ro LI)), (5, .one (.ro I))], []⟩
noncomputable def spec_l6Bits_l0_ex : List (Ex × Sh) := [(.ret, ⟨[(4, .one (.ro .bool))], []⟩), (.exit 0, ⟨[(0, .one (.ro I)), (1, .one (.ro LI))], []⟩)]
noncomputable def spec_l6Bits_l0 {R : Type} (N : Nat) (k0 : Bool → Option R) (k1 : Int → (List Int) → Option R) : Nat → Int → (List Int) → Int → Option R
  | 0, _, _, _ => none
  | K + 1, vars1, bits1, i =>
    (br (ilt i (tLen bits1))
      ((chk (inb bits1 i)
        ((spec_l1In N (rdI bits1 i) 0 1).bind fun r =>
        (br (!r.1.1)
          (k0 false)
          (spec_l6Bits_l0 N k0 k1 K vars1 bits1 (IntKind.i64.wrap (i + 1)))))))
      (k1 vars1 bits1))
noncomputable def spec_l6Bits_l0_again {R : Type} (N : Nat) (ks : (j : Nat) → ((spec_l6Bits_l0_ex.getD j (.ret, Sh.none)).2).T → Option R) (k : Nat) (x : spec_l6Bits_l0_sh.T) : Option R :=
  spec_l6Bits_l0 N (fun y0 => ks 0 ((y0, ()), ())) (fun y0 y1 => ks 1 ((y0, y1, ()), ())) k x.1.1 x.1.2.1 x.1.2.2.1
noncomputable def spec_l6Bits_l0_s (N : Nat) : LSum := ⟨spec_l6Bits_l0_sh, spec_l6Bits_l0_ex, fun x ks => spec_l6Bits_l0_again N ks N x⟩
theorem spec_l6Bits_l0_step (N : Nat) (R : Type) (k : Nat) (x : spec_l6Bits_l0_sh.T) (ks : (j : Nat) → ((spec_l6Bits_l0_ex.getD j (.ret, Sh.none)).2).T → Option R) : spec_l6Bits_l0_again N ks (k + 1) x = roundF (spec_l6Bits_G N) tab [] (loopAt spec_l6Bits_code 0) spec_l6Bits_l0_sh spec_l6Bits_l0_ex (fun y => spec_l6Bits_l0_again N ks k y) ks x := by kernel_rfl
theorem spec_l6Bits_l0_ok (N : Nat) : LoopOk Try.prog Try.f62.ntmps (spec_l6Bits_l0_s N) (loopAt spec_l6Bits_code 0) :=
  loop_ok (l := spec_l6Bits_l0_s N) progOk (spec_l6Bits_gok N) (draw_ok progOk (spec_l6Bits_gok N)) (fun R k x ks => spec_l6Bits_l0_again N ks k x) (fun _ _ _ => rfl) (fun R k x ks => spec_l6Bits_l0_step N R k x ks) (fun R x ks r h => ⟨N, h⟩) (lsOk_at (L := []) trivial) (by kernel_rfl) (by kernel_rfl)
noncomputable def spec_l6Bits (N : Nat) (vars : Int) (bits : (List Int)) : Option ((Bool × Unit) × (Unit)) :=
  spec_l6Bits_l0 N (fun x => some ((x, ()), ())) (fun vars1 bits1 => some (((ieq (tLen bits1) vars1), ()), ())) N vars bits 0
abbrev spec_l6Bits_ps : List (PV.Mode × Ty) := [(.ro, I), (.ro, LI)]
abbrev spec_l6Bits_rs : List (Bool × Ty) := [(true, .bool)]
noncomputable def spec_l6Bits_S (N : Nat) : FSum := ⟨spec_l6Bits_ps, spec_l6Bits_rs, fun x => spec_l6Bits N x.1 x.2.1⟩
theorem spec_l6Bits_run (N : Nat) (x : argsT spec_l6Bits_ps) : spec_l6Bits N x.1 x.2.1 = funF (spec_l6Bits_G N) tab [spec_l6Bits_l0_s N] Try.f62 spec_l6Bits_ps spec_l6Bits_rs x := by kernel_rfl
theorem spec_l6Bits_pc (N : Nat) : PC Try.prog 62 (spec_l6Bits_S N) := by
  have e : spec_l6Bits_S N = ⟨spec_l6Bits_ps, spec_l6Bits_rs, funF (spec_l6Bits_G N) tab [spec_l6Bits_l0_s N] Try.f62 spec_l6Bits_ps spec_l6Bits_rs⟩ := congrArg (FSum.mk spec_l6Bits_ps spec_l6Bits_rs) (funext (spec_l6Bits_run N))
  rw [e]
  exact fun_ok (c := spec_l6Bits_code) progOk (spec_l6Bits_gok N) (draw_ok progOk (spec_l6Bits_gok N)) Try.call62 Try.func62 (by kernel_rfl) (lsOk_at (L := [spec_l6Bits_l0_s N]) ⟨spec_l6Bits_l0_ok N, trivial⟩) (by kernel_rfl) (by kernel_rfl) (by kernel_rfl) (by kernel_rfl) (by kernel_rfl)

/-! ### spec_l6All -/
noncomputable def spec_l6All_G (N : Nat) : GTab := gOf []
theorem spec_l6All_gok (N : Nat) : GOk Try.prog (spec_l6All_G N) := gOf_ok trivial
noncomputable def spec_l6All_code : Code := (Try.f127.body).getD .skip
noncomputable def spec_l6All_l0_0_sh : Sh := ⟨[(0, .one (.ro I)), (3, .one (.ref 0)), (4, .one (.ro I)), (5, .one (.ref 1)), (6, .one (.ro I))], [.sl 33 LI .deep, .sl 3 I .own]⟩
noncomputable def spec_l6All_l0_0_ex : List (Ex × Sh) := [(.exit 2, ⟨[(0, .one (.ro I)), (3, .one (.ref 0)), (4, .one (.ro I)), (5, .one (.ref 1))], [.sl 33 LI .deep, .sl 3 I .own]⟩)]
noncomputable def spec_l6All_l0_0 {R : Type} (N : Nat) (k0 : Int → Int → (List (List Int)) → (List Int) → Option R) : Nat → Int → Int → Int → (List (List Int)) → (List Int) → Option R
  | 0, _, _, _, _, _ => none
  | K + 1, vars2, code1, v, o1, o2 =>
    (br (ilt v vars2)
      ((chk (ile 0 (IntKind.i64.wrap ((IntKind.i64.wrap (vars2 - 1)) - v)))
        (chk (room o2 [(bitop .and .i64 (shrI .i64 code1 (IntKind.i64.wrap ((IntKind.i64.wrap (vars2 - 1)) - v))) 1)])
        (spec_l6All_l0_0 N k0 K vars2 code1 (IntKind.i64.wrap (v + 1)) o1 (tApp o2 [(bitop .and .i64 (shrI .i64 code1 (IntKind.i64.wrap ((IntKind.i64.wrap (vars2 - 1)) - v))) 1)])))))
      (k0 vars2 code1 o1 o2))
noncomputable def spec_l6All_l0_0_again {R : Type} (N : Nat) (ks : (j : Nat) → ((spec_l6All_l0_0_ex.getD j (.ret, Sh.none)).2).T → Option R) (k : Nat) (x : spec_l6All_l0_0_sh.T) : Option R :=
  spec_l6All_l0_0 N (fun y0 y1 y2 y3 => ks 0 ((y0, (), y1, (), ()), (y2, y3, ()))) k x.1.1 x.1.2.2.1 x.1.2.2.2.2.1 x.2.1 x.2.2.1
noncomputable def spec_l6All_l0_0_s (N : Nat) : LSum := ⟨spec_l6All_l0_0_sh, spec_l6All_l0_0_ex, fun x ks => spec_l6All_l0_0_again N ks N x⟩
theorem spec_l6All_l0_0_step (N : Nat) (R : Type) (k : Nat) (x : spec_l6All_l0_0_sh.T) (ks : (j : Nat) → ((spec_l6All_l0_0_ex.getD j (.ret, Sh.none)).2).T → Option R) : spec_l6All_l0_0_again N ks (k + 1) x = roundF (spec_l6All_G N) tab [] (loopAt (loopAt spec_l6All_code 0) 0) spec_l6All_l0_0_sh spec_l6All_l0_0_ex (fun y => spec_l6All_l0_0_again N ks k y) ks x := by kernel_rfl
theorem spec_l6All_l0_0_ok (N : Nat) : LoopOk Try.prog Try.f127.ntmps (spec_l6All_l0_0_s N) (loopAt (loopAt spec_l6All_code 0) 0) :=
  loop_ok (l := spec_l6All_l0_0_s N) progOk (spec_l6All_gok N) (draw_ok progOk (spec_l6All_gok N)) (fun R k x ks => spec_l6All_l0_0_again N ks k x) (fun _ _ _ => rfl) (fun R k x ks => spec_l6All_l0_0_step N R k x ks) (fun R x ks r h => ⟨N, h⟩) (lsOk_at (L := []) trivial) (by kernel_rfl) (by kernel_rfl)
noncomputable def spec_l6All_l0_sh : Sh := ⟨[(0, .one (.ro I)), (3, .one (.ref 0)), (4, .one (.ro I))], [.sl 33 LI .deep]⟩
noncomputable def spec_l6All_l0_ex : List (Ex × Sh) := [(.exit 0, ⟨[(3, .one (.ref 0))], [.sl 33 LI .deep]⟩)]
noncomputable def spec_l6All_l0 {R : Type} (N : Nat) (k0 : (List (List Int)) → Option R) : Nat → Int → Int → (List (List Int)) → Option R
  | 0, _, _, _ => none
  | K + 1, vars1, code, o =>
    (chk (ile 0 vars1)
      (br (ilt code (shlI .i64 1 vars1))
      (spec_l6All_l0_0 N (fun vars2 code1 o1 o2 => (chk (room o1 [o2])
        (spec_l6All_l0 N k0 K vars2 (IntKind.i64.wrap (code1 + 1)) (tApp o1 [o2])))) N vars1 code 0 o [])
      (k0 o)))
noncomputable def spec_l6All_l0_again {R : Type} (N : Nat) (ks : (j : Nat) → ((spec_l6All_l0_ex.getD j (.ret, Sh.none)).2).T → Option R) (k : Nat) (x : spec_l6All_l0_sh.T) : Option R :=
  spec_l6All_l0 N (fun y0 => ks 0 (((), ()), (y0, ()))) k x.1.1 x.1.2.2.1 x.2.1
noncomputable def spec_l6All_l0_s (N : Nat) : LSum := ⟨spec_l6All_l0_sh, spec_l6All_l0_ex, fun x ks => spec_l6All_l0_again N ks N x⟩
theorem spec_l6All_l0_step (N : Nat) (R : Type) (k : Nat) (x : spec_l6All_l0_sh.T) (ks : (j : Nat) → ((spec_l6All_l0_ex.getD j (.ret, Sh.none)).2).T → Option R) : spec_l6All_l0_again N ks (k + 1) x = roundF (spec_l6All_G N) tab [spec_l6All_l0_0_s N] (loopAt spec_l6All_code 0) spec_l6All_l0_sh spec_l6All_l0_ex (fun y => spec_l6All_l0_again N ks k y) ks x := by kernel_rfl
theorem spec_l6All_l0_ok (N : Nat) : LoopOk Try.prog Try.f127.ntmps (spec_l6All_l0_s N) (loopAt spec_l6All_code 0) :=
  loop_ok (l := spec_l6All_l0_s N) progOk (spec_l6All_gok N) (draw_ok progOk (spec_l6All_gok N)) (fun R k x ks => spec_l6All_l0_again N ks k x) (fun _ _ _ => rfl) (fun R k x ks => spec_l6All_l0_step N R k x ks) (fun R x ks r h => ⟨N, h⟩) (lsOk_at (L := [spec_l6All_l0_0_s N]) ⟨spec_l6All_l0_0_ok N, trivial⟩) (by kernel_rfl) (by kernel_rfl)
noncomputable def spec_l6All (N : Nat) (vars : Int) : Option (((List (List Int)) × Unit) × (Unit)) :=
  spec_l6All_l0 N (fun o => some ((o, ()), ())) N vars 0 []
abbrev spec_l6All_ps : List (PV.Mode × Ty) := [(.ro, I)]
abbrev spec_l6All_rs : List (Bool × Ty) := [(false, LLI)]
noncomputable def spec_l6All_S (N : Nat) : FSum := ⟨spec_l6All_ps, spec_l6All_rs, fun x => spec_l6All N x.1⟩
theorem spec_l6All_run (N : Nat) (x : argsT spec_l6All_ps) : spec_l6All N x.1 = funF (spec_l6All_G N) tab [spec_l6All_l0_s N] Try.f127 spec_l6All_ps spec_l6All_rs x := by kernel_rfl
theorem spec_l6All_pc (N : Nat) : PC Try.prog 127 (spec_l6All_S N) := by
  have e : spec_l6All_S N = ⟨spec_l6All_ps, spec_l6All_rs, funF (spec_l6All_G N) tab [spec_l6All_l0_s N] Try.f127 spec_l6All_ps spec_l6All_rs⟩ := congrArg (FSum.mk spec_l6All_ps spec_l6All_rs) (funext (spec_l6All_run N))
  rw [e]
  exact fun_ok (c := spec_l6All_code) progOk (spec_l6All_gok N) (draw_ok progOk (spec_l6All_gok N)) Try.call127 Try.func127 (by kernel_rfl) (lsOk_at (L := [spec_l6All_l0_s N]) ⟨spec_l6All_l0_ok N, trivial⟩) (by kernel_rfl) (by kernel_rfl) (by kernel_rfl) (by kernel_rfl) (by kernel_rfl)

/-! ### spec_l1Same -/
noncomputable def spec_l1Same_G (N : Nat) : GTab := gOf []
theorem spec_l1Same_gok (N : Nat) : GOk Try.prog (spec_l1Same_G N) := gOf_ok trivial
noncomputable def spec_l1Same_code : Code := (Try.f164.body).getD .skip
noncomputable def spec_l1Same_l0_sh : Sh := ⟨[(0, .one (.ro LI)), (1, .one (.ro LI)), (5, .one (.ro I))], []⟩
noncomputable def spec_l1Same_l0_ex : List (Ex × Sh) := [(.ret, ⟨[(4, .one (.ro .bool))], []⟩), (.exit 0, ⟨[], []⟩)]
noncomputable def spec_l1Same_l0 {R : Type} (N : Nat) (k0 : Bool → Option R) (k1 : Unit → Option R) : Nat → (List Int) → (List Int) → Int → Option R
  | 0, _, _, _ => none
  | K + 1, a1, b1, i =>
    (br (ilt i (tLen a1))
      ((chk (inb a1 i)
        (chk (inb b1 i)
        (br (ine (rdI a1 i) (rdI b1 i))
        (k0 false)
        (spec_l1Same_l0 N k0 k1 K a1 b1 (IntKind.i64.wrap (i + 1)))))))
      (k1 ()))
noncomputable def spec_l1Same_l0_again {R : Type} (N : Nat) (ks : (j : Nat) → ((spec_l1Same_l0_ex.getD j (.ret, Sh.none)).2).T → Option R) (k : Nat) (x : spec_l1Same_l0_sh.T) : Option R :=
  spec_l1Same_l0 N (fun y0 => ks 0 ((y0, ()), ())) (fun (_ : Unit) => ks 1 ((), ())) k x.1.1 x.1.2.1 x.1.2.2.1
noncomputable def spec_l1Same_l0_s (N : Nat) : LSum := ⟨spec_l1Same_l0_sh, spec_l1Same_l0_ex, fun x ks => spec_l1Same_l0_again N ks N x⟩
theorem spec_l1Same_l0_step (N : Nat) (R : Type) (k : Nat) (x : spec_l1Same_l0_sh.T) (ks : (j : Nat) → ((spec_l1Same_l0_ex.getD j (.ret, Sh.none)).2).T → Option R) : spec_l1Same_l0_again N ks (k + 1) x = roundF (spec_l1Same_G N) tab [] (loopAt spec_l1Same_code 0) spec_l1Same_l0_sh spec_l1Same_l0_ex (fun y => spec_l1Same_l0_again N ks k y) ks x := by kernel_rfl
theorem spec_l1Same_l0_ok (N : Nat) : LoopOk Try.prog Try.f164.ntmps (spec_l1Same_l0_s N) (loopAt spec_l1Same_code 0) :=
  loop_ok (l := spec_l1Same_l0_s N) progOk (spec_l1Same_gok N) (draw_ok progOk (spec_l1Same_gok N)) (fun R k x ks => spec_l1Same_l0_again N ks k x) (fun _ _ _ => rfl) (fun R k x ks => spec_l1Same_l0_step N R k x ks) (fun R x ks r h => ⟨N, h⟩) (lsOk_at (L := []) trivial) (by kernel_rfl) (by kernel_rfl)
noncomputable def spec_l1Same (N : Nat) (a : (List Int)) (b : (List Int)) : Option ((Bool × Unit) × (Unit)) :=
  (br (ine (tLen a) (tLen b))
    (some ((false, ()), ()))
    (spec_l1Same_l0 N (fun x => some ((x, ()), ())) (fun (_ : Unit) => some ((true, ()), ())) N a b 0))
abbrev spec_l1Same_ps : List (PV.Mode × Ty) := [(.ro, LI), (.ro, LI)]
abbrev spec_l1Same_rs : List (Bool × Ty) := [(true, .bool)]
noncomputable def spec_l1Same_S (N : Nat) : FSum := ⟨spec_l1Same_ps, spec_l1Same_rs, fun x => spec_l1Same N x.1 x.2.1⟩
theorem spec_l1Same_run (N : Nat) (x : argsT spec_l1Same_ps) : spec_l1Same N x.1 x.2.1 = funF (spec_l1Same_G N) tab [spec_l1Same_l0_s N] Try.f164 spec_l1Same_ps spec_l1Same_rs x := by kernel_rfl
theorem spec_l1Same_pc (N : Nat) : PC Try.prog 164 (spec_l1Same_S N) := by
  have e : spec_l1Same_S N = ⟨spec_l1Same_ps, spec_l1Same_rs, funF (spec_l1Same_G N) tab [spec_l1Same_l0_s N] Try.f164 spec_l1Same_ps spec_l1Same_rs⟩ := congrArg (FSum.mk spec_l1Same_ps spec_l1Same_rs) (funext (spec_l1Same_run N))
  rw [e]
  exact fun_ok (c := spec_l1Same_code) progOk (spec_l1Same_gok N) (draw_ok progOk (spec_l1Same_gok N)) Try.call164 Try.func164 (by kernel_rfl) (lsOk_at (L := [spec_l1Same_l0_s N]) ⟨spec_l1Same_l0_ok N, trivial⟩) (by kernel_rfl) (by kernel_rfl) (by kernel_rfl) (by kernel_rfl) (by kernel_rfl)

/-! ### spec_l6Listed -/
noncomputable def spec_l6Listed_G (N : Nat) : GTab := gOf [(164, spec_l1Same_S N)]
theorem spec_l6Listed_gok (N : Nat) : GOk Try.prog (spec_l6Listed_G N) := gOf_ok ⟨spec_l1Same_pc N, trivial⟩
noncomputable def spec_l6Listed_code : Code := (Try.f128.body).getD .skip
noncomputable def spec_l6Listed_l0_sh : Sh := ⟨[(0, .one (.ro LLI)), (1, .one (.ro LI)), (5, .one (.ro I))], []⟩
noncomputable def spec_l6Listed_l0_ex : List (Ex × Sh) := [(.ret, ⟨[(4, .one (.ro .bool))], []⟩), (.exit 0, ⟨[], []⟩)]
noncomputable def spec_l6Listed_l0 {R : Type} (N : Nat) (k0 : Bool → Option R) (k1 : Unit → Option R) : Nat → (List (List Int)) → (List Int) → Int → Option R
  | 0, _, _, _ => none
  | K + 1, list1, bits1, i =>
    (br (ilt i (tLen list1))
      ((chk (inb list1 i)
        ((spec_l1Same N (rdL list1 i) bits1).bind fun r =>
        (br r.1.1
          (k0 true)
          (spec_l6Listed_l0 N k0 k1 K list1 bits1 (IntKind.i64.wrap (i + 1)))))))
      (k1 ()))
noncomputable def spec_l6Listed_l0_again {R : Type} (N : Nat) (ks : (j : Nat) → ((spec_l6Listed_l0_ex.getD j (.ret, Sh.none)).2).T → Option R) (k : Nat) (x : spec_l6Listed_l0_sh.T) : Option R :=
  spec_l6Listed_l0 N (fun y0 => ks 0 ((y0, ()), ())) (fun (_ : Unit) => ks 1 ((), ())) k x.1.1 x.1.2.1 x.1.2.2.1
noncomputable def spec_l6Listed_l0_s (N : Nat) : LSum := ⟨spec_l6Listed_l0_sh, spec_l6Listed_l0_ex, fun x ks => spec_l6Listed_l0_again N ks N x⟩
theorem spec_l6Listed_l0_step (N : Nat) (R : Type) (k : Nat) (x : spec_l6Listed_l0_sh.T) (ks : (j : Nat) → ((spec_l6Listed_l0_ex.getD j (.ret, Sh.none)).2).T → Option R) : spec_l6Listed_l0_again N ks (k + 1) x = roundF (spec_l6Listed_G N) tab [] (loopAt spec_l6Listed_code 0) spec_l6Listed_l0_sh spec_l6Listed_l0_ex (fun y => spec_l6Listed_l0_again N ks k y) ks x := by kernel_rfl
theorem spec_l6Listed_l0_ok (N : Nat) : LoopOk Try.prog Try.f128.ntmps (spec_l6Listed_l0_s N) (loopAt spec_l6Listed_code 0) :=
  loop_ok (l := spec_l6Listed_l0_s N) progOk (spec_l6Listed_gok N) (draw_ok progOk (spec_l6Listed_gok N)) (fun R k x ks => spec_l6Listed_l0_again N ks k x) (fun _ _ _ => rfl) (fun R k x ks => spec_l6Listed_l0_step N R k x ks) (fun R x ks r h => ⟨N, h⟩) (lsOk_at (L := []) trivial) (by kernel_rfl) (by kernel_rfl)
noncomputable def spec_l6Listed (N : Nat) (list : (List (List Int))) (bits : (List Int)) : Option ((Bool × Unit) × (Unit)) :=
  spec_l6Listed_l0 N (fun x => some ((x, ()), ())) (fun (_ : Unit) => some ((false, ()), ())) N list bits 0
abbrev spec_l6Listed_ps : List (PV.Mode × Ty) := [(.ro, LLI), (.ro, LI)]
abbrev spec_l6Listed_rs : List (Bool × Ty) := [(true, .bool)]
noncomputable def spec_l6Listed_S (N : Nat) : FSum := ⟨spec_l6Listed_ps, spec_l6Listed_rs, fun x => spec_l6Listed N x.1 x.2.1⟩
theorem spec_l6Listed_run (N : Nat) (x : argsT spec_l6Listed_ps) : spec_l6Listed N x.1 x.2.1 = funF (spec_l6Listed_G N) tab [spec_l6Listed_l0_s N] Try.f128 spec_l6Listed_ps spec_l6Listed_rs x := by kernel_rfl
theorem spec_l6Listed_pc (N : Nat) : PC Try.prog 128 (spec_l6Listed_S N) := by
  have e : spec_l6Listed_S N = ⟨spec_l6Listed_ps, spec_l6Listed_rs, funF (spec_l6Listed_G N) tab [spec_l6Listed_l0_s N] Try.f128 spec_l6Listed_ps spec_l6Listed_rs⟩ := congrArg (FSum.mk spec_l6Listed_ps spec_l6Listed_rs) (funext (spec_l6Listed_run N))
  rw [e]
  exact fun_ok (c := spec_l6Listed_code) progOk (spec_l6Listed_gok N) (draw_ok progOk (spec_l6Listed_gok N)) Try.call128 Try.func128 (by kernel_rfl) (lsOk_at (L := [spec_l6Listed_l0_s N]) ⟨spec_l6Listed_l0_ok N, trivial⟩) (by kernel_rfl) (by kernel_rfl) (by kernel_rfl) (by kernel_rfl) (by kernel_rfl)

/-! ### spec_l6Formula -/
noncomputable def spec_l6Formula_G (N : Nat) : GTab := gOf [(127, spec_l6All_S N), (128, spec_l6Listed_S N)]
theorem spec_l6Formula_gok (N : Nat) : GOk Try.prog (spec_l6Formula_G N) := gOf_ok ⟨spec_l6All_pc N, spec_l6Listed_pc N, trivial⟩
noncomputable def spec_l6Formula_code : Code := (Try.f63.body).getD .skip
noncomputable def spec_l6Formula_l0_0_sh : Sh := ⟨[(0, .one (.ro I)), (1, .one (.ro LLI)), (4, .one (.adr 0 0)), (5, .one (.adr 1 0)), (6, .one (.ro LLI)), (7, .one (.ro I)), (8, .one (.ref 2)), (9, .one (.ro I))], [.box [.ro I, .nilsl], .box [.ro I, .ref 3], .sl 3 I .own, .sl 33 LI .deep]⟩
noncomputable def spec_l6Formula_l0_0_ex : List (Ex × Sh) := [(.exit 2, ⟨[(0, .one (.ro I)), (1, .one (.ro LLI)), (4, .one (.adr 0 0)), (5, .one (.adr 1 0)), (6, .one (.ro LLI)), (7, .one (.ro I)), (8, .one (.ref 2))], [.box [.ro I, .nilsl], .box [.ro I, .ref 3], .sl 3 I .own, .sl 33 LI .deep]⟩)]
noncomputable def spec_l6Formula_l0_0 {R : Type} (N : Nat) (k0 : Int → (List (List Int)) → (List (List Int)) → Int → Int → Int → (List Int) → (List (List Int)) → Option R) : Nat → Int → (List (List Int)) → (List (List Int)) → Int → Int → Int → Int → (List Int) → (List (List Int)) → Option R
  | 0, _, _, _, _, _, _, _, _, _ => none
  | K + 1, x4, x5, x6, x7, x8, o3, o4, o5, o6 =>
    (br (ile 0 x8)
      ((chk (inb x6 x7)
        (chk (inb (rdL x6 x7) x8)
        (br (ieq (rdI (rdL x6 x7) x8) 1)
        ((chk (room o5 [(IntKind.i64.wrap ((-1) - x8))])
          (spec_l6Formula_l0_0 N k0 K x4 x5 x6 x7 (IntKind.i64.wrap (x8 - 1)) o3 o4 (tApp o5 [(IntKind.i64.wrap ((-1) - x8))]) o6)))
        (spec_l6Formula_l0_0 N k0 K x4 x5 x6 x7 (IntKind.i64.wrap (x8 - 1)) o3 o4 o5 o6)))))
      (k0 x4 x5 x6 x7 o3 o4 o5 o6))
noncomputable def spec_l6Formula_l0_0_again {R : Type} (N : Nat) (ks : (j : Nat) → ((spec_l6Formula_l0_0_ex.getD j (.ret, Sh.none)).2).T → Option R) (k : Nat) (x : spec_l6Formula_l0_0_sh.T) : Option R :=
  spec_l6Formula_l0_0 N (fun y0 y1 y2 y3 y4 y5 y6 y7 => ks 0 ((y0, y1, (), (), y2, y3, (), ()), ((y4, (), ()), (y5, (), ()), y6, y7, ()))) k x.1.1 x.1.2.1 x.1.2.2.2.2.1 x.1.2.2.2.2.2.1 x.1.2.2.2.2.2.2.2.1 x.2.1.1 x.2.2.1.1 x.2.2.2.1 x.2.2.2.2.1
noncomputable def spec_l6Formula_l0_0_s (N : Nat) : LSum := ⟨spec_l6Formula_l0_0_sh, spec_l6Formula_l0_0_ex, fun x ks => spec_l6Formula_l0_0_again N ks N x⟩
theorem spec_l6Formula_l0_0_step (N : Nat) (R : Type) (k : Nat) (x : spec_l6Formula_l0_0_sh.T) (ks : (j : Nat) → ((spec_l6Formula_l0_0_ex.getD j (.ret, Sh.none)).2).T → Option R) : spec_l6Formula_l0_0_again N ks (k + 1) x = roundF (spec_l6Formula_G N) tab [] (loopAt (loopAt spec_l6Formula_code 0) 0) spec_l6Formula_l0_0_sh spec_l6Formula_l0_0_ex (fun y => spec_l6Formula_l0_0_again N ks k y) ks x := by kernel_rfl
theorem spec_l6Formula_l0_0_ok (N : Nat) : LoopOk Try.prog Try.f63.ntmps (spec_l6Formula_l0_0_s N) (loopAt (loopAt spec_l6Formula_code 0) 0) :=
  loop_ok (l := spec_l6Formula_l0_0_s N) progOk (spec_l6Formula_gok N) (draw_ok progOk (spec_l6Formula_gok N)) (fun R k x ks => spec_l6Formula_l0_0_again N ks k x) (fun _ _ _ => rfl) (fun R k x ks => spec_l6Formula_l0_0_step N R k x ks) (fun R x ks r h => ⟨N, h⟩) (lsOk_at (L := []) trivial) (by kernel_rfl) (by kernel_rfl)
noncomputable def spec_l6Formula_l0_1_sh : Sh := ⟨[(0, .one (.ro I)), (1, .one (.ro LLI)), (4, .one (.adr 0 0)), (5, .one (.adr 1 0)), (6, .one (.ro LLI)), (7, .one (.ro I)), (8, .one (.ref 2)), (10, .one (.ro I))], [.box [.ro I, .nilsl], .box [.ro I, .ref 3], .sl 3 I .own, .sl 33 LI .deep]⟩
noncomputable def spec_l6Formula_l0_1_ex : List (Ex × Sh) := [(.exit 4, ⟨[(0, .one (.ro I)), (1, .one (.ro LLI)), (4, .one (.adr 0 0)), (5, .one (.adr 1 0)), (6, .one (.ro LLI)), (7, .one (.ro I)), (8, .one (.ref 2))], [.box [.ro I, .nilsl], .box [.ro I, .ref 3], .sl 3 I .own, .sl 33 LI .deep]⟩)]
noncomputable def spec_l6Formula_l0_1 {R : Type} (N : Nat) (k0 : Int → (List (List Int)) → (List (List Int)) → Int → Int → Int → (List Int) → (List (List Int)) → Option R) : Nat → Int → (List (List Int)) → (List (List Int)) → Int → Int → Int → Int → (List Int) → (List (List Int)) → Option R
  | 0, _, _, _, _, _, _, _, _, _ => none
  | K + 1, x8, x9, x10, x11, x12, o7, o8, o9, o10 =>
    (br (ilt x12 x8)
      ((chk (inb x10 x11)
        (chk (inb (rdL x10 x11) x12)
        (br (ieq (rdI (rdL x10 x11) x12) 0)
        ((chk (room o9 [(IntKind.i64.wrap (x12 + 1))])
          (spec_l6Formula_l0_1 N k0 K x8 x9 x10 x11 (IntKind.i64.wrap (x12 + 1)) o7 o8 (tApp o9 [(IntKind.i64.wrap (x12 + 1))]) o10)))
        (spec_l6Formula_l0_1 N k0 K x8 x9 x10 x11 (IntKind.i64.wrap (x12 + 1)) o7 o8 o9 o10)))))
      (k0 x8 x9 x10 x11 o7 o8 o9 o10))
noncomputable def spec_l6Formula_l0_1_again {R : Type} (N : Nat) (ks : (j : Nat) → ((spec_l6Formula_l0_1_ex.getD j (.ret, Sh.none)).2).T → Option R) (k : Nat) (x : spec_l6Formula_l0_1_sh.T) : Option R :=
  spec_l6Formula_l0_1 N (fun y0 y1 y2 y3 y4 y5 y6 y7 => ks 0 ((y0, y1, (), (), y2, y3, (), ()), ((y4, (), ()), (y5, (), ()), y6, y7, ()))) k x.1.1 x.1.2.1 x.1.2.2.2.2.1 x.1.2.2.2.2.2.1 x.1.2.2.2.2.2.2.2.1 x.2.1.1 x.2.2.1.1 x.2.2.2.1 x.2.2.2.2.1
noncomputable def spec_l6Formula_l0_1_s (N : Nat) : LSum := ⟨spec_l6Formula_l0_1_sh, spec_l6Formula_l0_1_ex, fun x ks => spec_l6Formula_l0_1_again N ks N x⟩
theorem spec_l6Formula_l0_1_step (N : Nat) (R : Type) (k : Nat) (x : spec_l6Formula_l0_1_sh.T) (ks : (j : Nat) → ((spec_l6Formula_l0_1_ex.getD j (.ret, Sh.none)).2).T → Option R) : spec_l6Formula_l0_1_again N ks (k + 1) x = roundF (spec_l6Formula_G N) tab [] (loopAt (loopAt spec_l6Formula_code 0) 1) spec_l6Formula_l0_1_sh spec_l6Formula_l0_1_ex (fun y => spec_l6Formula_l0_1_again N ks k y) ks x := by kernel_rfl
theorem spec_l6Formula_l0_1_ok (N : Nat) : LoopOk Try.prog Try.f63.ntmps (spec_l6Formula_l0_1_s N) (loopAt (loopAt spec_l6Formula_code 0) 1) :=
  loop_ok (l := spec_l6Formula_l0_1_s N) progOk (spec_l6Formula_gok N) (draw_ok progOk (spec_l6Formula_gok N)) (fun R k x ks => spec_l6Formula_l0_1_again N ks k x) (fun _ _ _ => rfl) (fun R k x ks => spec_l6Formula_l0_1_step N R k x ks) (fun R x ks r h => ⟨N, h⟩) (lsOk_at (L := []) trivial) (by kernel_rfl) (by kernel_rfl)
noncomputable def spec_l6Formula_l0_sh : Sh := ⟨[(0, .one (.ro I)), (1, .one (.ro LLI)), (4, .one (.adr 0 0)), (5, .one (.adr 1 0)), (6, .one (.ro LLI)), (7, .one (.ro I))], [.box [.ro I, .nilsl], .box [.ro I, .ref 2], .sl 33 LI .deep]⟩
noncomputable def spec_l6Formula_l0_ex : List (Ex × Sh) := [(.exit 0, ⟨[(4, .one (.adr 0 0)), (5, .one (.adr 1 0))], [.box [.ro I, .nilsl], .box [.ro I, .ref 2], .sl 33 LI .deep]⟩)]
noncomputable def spec_l6Formula_l0 {R : Type} (N : Nat) (k0 : Int → Int → (List (List Int)) → Option R) : Nat → Int → (List (List Int)) → (List (List Int)) → Int → Int → Int → (List (List Int)) → Option R
  | 0, _, _, _, _, _, _, _ => none
  | K + 1, x, x1, x2, x3, o, o1, o2 =>
    (br (ilt x3 (tLen x2))
      ((chk (inb x2 x3)
        ((spec_l6Listed N x1 (rdL x2 x3)).bind fun r1 =>
        (br r1.1.1
          (spec_l6Formula_l0 N k0 K x x1 x2 (IntKind.i64.wrap (x3 + 1)) o o1 o2)
          (spec_l6Formula_l0_0 N (fun x4 x5 x6 x7 o3 o4 o5 o6 => spec_l6Formula_l0_1 N (fun x8 x9 x10 x11 o7 o8 o9 o10 => (chk (room o10 [o9])
            (spec_l6Formula_l0 N k0 K x8 x9 x10 (IntKind.i64.wrap (x11 + 1)) o7 o8 (tApp o10 [o9])))) N x4 x5 x6 x7 0 o3 o4 o5 o6) N x x1 x2 x3 (IntKind.i64.wrap (x - 1)) o o1 [] o2)))))
      (k0 o o1 o2))
noncomputable def spec_l6Formula_l0_again {R : Type} (N : Nat) (ks : (j : Nat) → ((spec_l6Formula_l0_ex.getD j (.ret, Sh.none)).2).T → Option R) (k : Nat) (x : spec_l6Formula_l0_sh.T) : Option R :=
  spec_l6Formula_l0 N (fun y0 y1 y2 => ks 0 (((), (), ()), ((y0, (), ()), (y1, (), ()), y2, ()))) k x.1.1 x.1.2.1 x.1.2.2.2.2.1 x.1.2.2.2.2.2.1 x.2.1.1 x.2.2.1.1 x.2.2.2.1
noncomputable def spec_l6Formula_l0_s (N : Nat) : LSum := ⟨spec_l6Formula_l0_sh, spec_l6Formula_l0_ex, fun x ks => spec_l6Formula_l0_again N ks N x⟩
theorem spec_l6Formula_l0_step (N : Nat) (R : Type) (k : Nat) (x : spec_l6Formula_l0_sh.T) (ks : (j : Nat) → ((spec_l6Formula_l0_ex.getD j (.ret, Sh.none)).2).T → Option R) : spec_l6Formula_l0_again N ks (k + 1) x = roundF (spec_l6Formula_G N) tab [spec_l6Formula_l0_0_s N, spec_l6Formula_l0_1_s N] (loopAt spec_l6Formula_code 0) spec_l6Formula_l0_sh spec_l6Formula_l0_ex (fun y => spec_l6Formula_l0_again N ks k y) ks x := by kernel_rfl
theorem spec_l6Formula_l0_ok (N : Nat) : LoopOk Try.prog Try.f63.ntmps (spec_l6Formula_l0_s N) (loopAt spec_l6Formula_code 0) :=
  loop_ok (l := spec_l6Formula_l0_s N) progOk (spec_l6Formula_gok N) (draw_ok progOk (spec_l6Formula_gok N)) (fun R k x ks => spec_l6Formula_l0_again N ks k x) (fun _ _ _ => rfl) (fun R k x ks => spec_l6Formula_l0_step N R k x ks) (fun R x ks r h => ⟨N, h⟩) (lsOk_at (L := [spec_l6Formula_l0_0_s N, spec_l6Formula_l0_1_s N]) ⟨spec_l6Formula_l0_0_ok N, spec_l6Formula_l0_1_ok N, trivial⟩) (by kernel_rfl) (by kernel_rfl)
noncomputable def spec_l6Formula (N : Nat) (c : Int) (c1 : (List (List Int))) : Option (((Int × (List (List Int))) × Unit) × (Unit)) :=
  ((spec_l6All N c).bind fun r =>
    spec_l6Formula_l0 N (fun o o1 o2 => some (((o1, o2), ()), ())) N c c1 r.1.1 0 0 c [])
abbrev spec_l6Formula_ps : List (PV.Mode × Ty) := [(.ro, I), (.ro, LLI)]
abbrev spec_l6Formula_rs : List (Bool × Ty) := [(true, QILLI)]
noncomputable def spec_l6Formula_S (N : Nat) : FSum := ⟨spec_l6Formula_ps, spec_l6Formula_rs, fun x => spec_l6Formula N x.1 x.2.1⟩
theorem spec_l6Formula_run (N : Nat) (x : argsT spec_l6Formula_ps) : spec_l6Formula N x.1 x.2.1 = funF (spec_l6Formula_G N) tab [spec_l6Formula_l0_s N] Try.f63 spec_l6Formula_ps spec_l6Formula_rs x := by kernel_rfl
theorem spec_l6Formula_pc (N : Nat) : PC Try.prog 63 (spec_l6Formula_S N) := by
  have e : spec_l6Formula_S N = ⟨spec_l6Formula_ps, spec_l6Formula_rs, funF (spec_l6Formula_G N) tab [spec_l6Formula_l0_s N] Try.f63 spec_l6Formula_ps spec_l6Formula_rs⟩ := congrArg (FSum.mk spec_l6Formula_ps spec_l6Formula_rs) (funext (spec_l6Formula_run N))
  rw [e]
  exact fun_ok (c := spec_l6Formula_code) progOk (spec_l6Formula_gok N) (draw_ok progOk (spec_l6Formula_gok N)) Try.call63 Try.func63 (by kernel_rfl) (lsOk_at (L := [spec_l6Formula_l0_s N]) ⟨spec_l6Formula_l0_ok N, trivial⟩) (by kernel_rfl) (by kernel_rfl) (by kernel_rfl) (by kernel_rfl) (by kernel_rfl)

/-! ### spec_FormulaOf -/
noncomputable def spec_FormulaOf_G (N : Nat) : GTab := gOf [(61, spec_l1In_S N), (62, spec_l6Bits_S N), (63, spec_l6Formula_S N)]
theorem spec_FormulaOf_gok (N : Nat) : GOk Try.prog (spec_FormulaOf_G N) := gOf_ok ⟨spec_l1In_pc N, spec_l6Bits_pc N, spec_l6Formula_pc N, trivial⟩
noncomputable def spec_FormulaOf_code : Code := (Try.f16.body).getD .skip
noncomputable def spec_FormulaOf_l0_sh : Sh := ⟨[(0, .one (.ro I)), (1, .one (.ro LLI)), (4, .one (.adr 0 0)), (6, .one (.ro I))], [.box [.ro I, .nilsl]]⟩
noncomputable def spec_FormulaOf_l0_ex : List (Ex × Sh) := [(.ret, ⟨[(4, .one (.adr 0 0)), (5, .one (.ro .bool))], [.box [.ro I, .nilsl]]⟩), (.exit 0, ⟨[(0, .one (.ro I)), (1, .one (.ro LLI)), (4, .one (.adr 0 0))], [.box [.ro I, .nilsl]]⟩)]
noncomputable def spec_FormulaOf_l0 {R : Type} (N : Nat) (k0 : Bool → Int → Option R) (k1 : Int → (List (List Int)) → Int → Option R) : Nat → Int → (List (List Int)) → Int → Int → Option R
  | 0, _, _, _, _ => none
  | K + 1, vars1, solutions1, i, o =>
    (br (ilt i (tLen solutions1))
      ((chk (inb solutions1 i)
        ((spec_l6Bits N vars1 (rdL solutions1 i)).bind fun r1 =>
        (br (!r1.1.1)
          (k0 false 0)
          (spec_FormulaOf_l0 N k0 k1 K vars1 solutions1 (IntKind.i64.wrap (i + 1)) o)))))
      (k1 vars1 solutions1 o))
noncomputable def spec_FormulaOf_l0_again {R : Type} (N : Nat) (ks : (j : Nat) → ((spec_FormulaOf_l0_ex.getD j (.ret, Sh.none)).2).T → Option R) (k : Nat) (x : spec_FormulaOf_l0_sh.T) : Option R :=
  spec_FormulaOf_l0 N (fun y0 y1 => ks 0 (((), y0, ()), ((y1, (), ()), ()))) (fun y0 y1 y2 => ks 1 ((y0, y1, (), ()), ((y2, (), ()), ()))) k x.1.1 x.1.2.1 x.1.2.2.2.1 x.2.1.1
noncomputable def spec_FormulaOf_l0_s (N : Nat) : LSum := ⟨spec_FormulaOf_l0_sh, spec_FormulaOf_l0_ex, fun x ks => spec_FormulaOf_l0_again N ks N x⟩
theorem spec_FormulaOf_l0_step (N : Nat) (R : Type) (k : Nat) (x : spec_FormulaOf_l0_sh.T) (ks : (j : Nat) → ((spec_FormulaOf_l0_ex.getD j (.ret, Sh.none)).2).T → Option R) : spec_FormulaOf_l0_again N ks (k + 1) x = roundF (spec_FormulaOf_G N) tab [] (loopAt spec_FormulaOf_code 0) spec_FormulaOf_l0_sh spec_FormulaOf_l0_ex (fun y => spec_FormulaOf_l0_again N ks k y) ks x := by kernel_rfl
theorem spec_FormulaOf_l0_ok (N : Nat) : LoopOk Try.prog Try.f16.ntmps (spec_FormulaOf_l0_s N) (loopAt spec_FormulaOf_code 0) :=
  loop_ok (l := spec_FormulaOf_l0_s N) progOk (spec_FormulaOf_gok N) (draw_ok progOk (spec_FormulaOf_gok N)) (fun R k x ks => spec_FormulaOf_l0_again N ks k x) (fun _ _ _ => rfl) (fun R k x ks => spec_FormulaOf_l0_step N R k x ks) (fun R x ks r h => ⟨N, h⟩) (lsOk_at (L := []) trivial) (by kernel_rfl) (by kernel_rfl)
noncomputable def spec_FormulaOf (N : Nat) (vars : Int) (solutions : (List (List Int))) : Option (((Int × (List (List Int))) × Bool × Unit) × (Unit)) :=
  ((spec_l1In N vars 0 6).bind fun r =>
    (br (!r.1.1)
      (some (((0, []), false, ()), ()))
      (spec_FormulaOf_l0 N (fun x o => some (((o, []), x, ()), ())) (fun vars1 solutions1 o1 => ((spec_l6Formula N vars1 solutions1).bind fun r1 =>
        some (((r1.1.1.1, r1.1.1.2), true, ()), ()))) N vars solutions 0 0)))
abbrev spec_FormulaOf_ps : List (PV.Mode × Ty) := [(.ro, I), (.ro, LLI)]
abbrev spec_FormulaOf_rs : List (Bool × Ty) := [(true, QILLI), (true, .bool)]
noncomputable def spec_FormulaOf_S (N : Nat) : FSum := ⟨spec_FormulaOf_ps, spec_FormulaOf_rs, fun x => spec_FormulaOf N x.1 x.2.1⟩
theorem spec_FormulaOf_run (N : Nat) (x : argsT spec_FormulaOf_ps) : spec_FormulaOf N x.1 x.2.1 = funF (spec_FormulaOf_G N) tab [spec_FormulaOf_l0_s N] Try.f16 spec_FormulaOf_ps spec_FormulaOf_rs x := by kernel_rfl
theorem spec_FormulaOf_pc (N : Nat) : PC Try.prog 16 (spec_FormulaOf_S N) := by
  have e : spec_FormulaOf_S N = ⟨spec_FormulaOf_ps, spec_FormulaOf_rs, funF (spec_FormulaOf_G N) tab [spec_FormulaOf_l0_s N] Try.f16 spec_FormulaOf_ps spec_FormulaOf_rs⟩ := congrArg (FSum.mk spec_FormulaOf_ps spec_FormulaOf_rs) (funext (spec_FormulaOf_run N))
  rw [e]
  exact fun_ok (c := spec_FormulaOf_code) progOk (spec_FormulaOf_gok N) (draw_ok progOk (spec_FormulaOf_gok N)) Try.call16 Try.func16 (by kernel_rfl) (lsOk_at (L := [spec_FormulaOf_l0_s N]) ⟨spec_FormulaOf_l0_ok N, trivial⟩) (by kernel_rfl) (by kernel_rfl) (by kernel_rfl) (by kernel_rfl) (by kernel_rfl)

/-! ### impl_between -/
noncomputable def impl_between_G (N : Nat) : GTab := gOf []
theorem impl_between_gok (N : Nat) : GOk Try.prog (impl_between_G N) := gOf_ok trivial
noncomputable def impl_between_code : Code := (Try.f64.body).getD .skip
noncomputable def impl_between (N : Nat) (n : Int) (low : Int) (high : Int) : Option ((Bool × Unit) × (Unit)) :=
  (br (ile low n)
    (some (((ile n high), ()), ()))
    (some ((false, ()), ())))
abbrev impl_between_ps : List (PV.Mode × Ty) := [(.ro, I), (.ro, I), (.ro, I)]
abbrev impl_between_rs : List (Bool × Ty) := [(true, .bool)]
noncomputable def impl_between_S (N : Nat) : FSum := ⟨impl_between_ps, impl_between_rs, fun x => impl_between N x.1 x.2.1 x.2.2.1⟩
theorem impl_between_run (N : Nat) (x : argsT impl_between_ps) : impl_between N x.1 x.2.1 x.2.2.1 = funF (impl_between_G N) tab [] Try.f64 impl_between_ps impl_between_rs x := by kernel_rfl
theorem impl_between_pc (N : Nat) : PC Try.prog 64 (impl_between_S N) := by
  have e : impl_between_S N = ⟨impl_between_ps, impl_between_rs, funF (impl_between_G N) tab [] Try.f64 impl_between_ps impl_between_rs⟩ := congrArg (FSum.mk impl_between_ps impl_between_rs) (funext (impl_between_run N))
  rw [e]
  exact fun_ok (c := impl_between_code) progOk (impl_between_gok N) (draw_ok progOk (impl_between_gok N)) Try.call64 Try.func64 (by kernel_rfl) (lsOk_at (L := []) trivial) (by kernel_rfl) (by kernel_rfl) (by kernel_rfl) (by kernel_rfl) (by kernel_rfl)

/-! ### slices_IndexFunc_LLI_LI -/
noncomputable def slices_IndexFunc_LLI_LI_G (N : Nat) : GTab := gOf []
theorem slices_IndexFunc_LLI_LI_gok (N : Nat) : GOk Try.prog (slices_IndexFunc_LLI_LI_G N) := gOf_ok trivial
noncomputable def slices_IndexFunc_LLI_LI_code : Code := (Try.f129.body).getD .skip
noncomputable def slices_IndexFunc_LLI_LI_l0_sh : Sh := ⟨[(0, .one (.ro LLI)), (1, .one (.ro FLIBo)), (7, .one (.ro I)), (8, .one (.ro I))], []⟩
noncomputable def slices_IndexFunc_LLI_LI_l0_ex : List (Ex × Sh) := [(.ret, ⟨[(4, .one (.ro I))], []⟩), (.exit 0, ⟨[], []⟩)]
noncomputable def slices_IndexFunc_LLI_LI_l0 {R : Type} (N : Nat) (k0 : Int → Option R) (k1 : Unit → Option R) : Nat → (List (List Int)) → ((List Int) → Option Bool) → Int → Int → Option R
  | 0, _, _, _, _ => none
  | K + 1, s1, f1, x, x1 =>
    (br (ilt x1 x)
      ((chk (inb s1 x1)
        ((f1 (rdL s1 x1)).bind fun v =>
        (br v
        (k0 x1)
        (slices_IndexFunc_LLI_LI_l0 N k0 k1 K s1 f1 x (IntKind.i64.wrap (x1 + 1)))))))
      (k1 ()))
noncomputable def slices_IndexFunc_LLI_LI_l0_again {R : Type} (N : Nat) (ks : (j : Nat) → ((slices_IndexFunc_LLI_LI_l0_ex.getD j (.ret, Sh.none)).2).T → Option R) (k : Nat) (x : slices_IndexFunc_LLI_LI_l0_sh.T) : Option R :=
  slices_IndexFunc_LLI_LI_l0 N (fun y0 => ks 0 ((y0, ()), ())) (fun (_ : Unit) => ks 1 ((), ())) k x.1.1 x.1.2.1 x.1.2.2.1 x.1.2.2.2.1
noncomputable def slices_IndexFunc_LLI_LI_l0_s (N : Nat) : LSum := ⟨slices_IndexFunc_LLI_LI_l0_sh, slices_IndexFunc_LLI_LI_l0_ex, fun x ks => slices_IndexFunc_LLI_LI_l0_again N ks N x⟩
theorem slices_IndexFunc_LLI_LI_l0_step (N : Nat) (R : Type) (k : Nat) (x : slices_IndexFunc_LLI_LI_l0_sh.T) (ks : (j : Nat) → ((slices_IndexFunc_LLI_LI_l0_ex.getD j (.ret, Sh.none)).2).T → Option R) : slices_IndexFunc_LLI_LI_l0_again N ks (k + 1) x = roundF (slices_IndexFunc_LLI_LI_G N) tab [] (loopAt slices_IndexFunc_LLI_LI_code 0) slices_IndexFunc_LLI_LI_l0_sh slices_IndexFunc_LLI_LI_l0_ex (fun y => slices_IndexFunc_LLI_LI_l0_again N ks k y) ks x := by kernel_rfl
theorem slices_IndexFunc_LLI_LI_l0_ok (N : Nat) : LoopOk Try.prog Try.f129.ntmps (slices_IndexFunc_LLI_LI_l0_s N) (loopAt slices_IndexFunc_LLI_LI_code 0) :=
  loop_ok (l := slices_IndexFunc_LLI_LI_l0_s N) progOk (slices_IndexFunc_LLI_LI_gok N) (draw_ok progOk (slices_IndexFunc_LLI_LI_gok N)) (fun R k x ks => slices_IndexFunc_LLI_LI_l0_again N ks k x) (fun _ _ _ => rfl) (fun R k x ks => slices_IndexFunc_LLI_LI_l0_step N R k x ks) (fun R x ks r h => ⟨N, h⟩) (lsOk_at (L := []) trivial) (by kernel_rfl) (by kernel_rfl)
noncomputable def slices_IndexFunc_LLI_LI (N : Nat) (s : (List (List Int))) (f : ((List Int) → Option Bool)) : Option ((Int × Unit) × (Unit)) :=
  slices_IndexFunc_LLI_LI_l0 N (fun x => some ((x, ()), ())) (fun (_ : Unit) => some (((-1), ()), ())) N s f (tLen s) 0
abbrev slices_IndexFunc_LLI_LI_ps : List (PV.Mode × Ty) := [(.ro, LLI), (.ro, FLIBo)]
abbrev slices_IndexFunc_LLI_LI_rs : List (Bool × Ty) := [(true, I)]
noncomputable def slices_IndexFunc_LLI_LI_S (N : Nat) : FSum := ⟨slices_IndexFunc_LLI_LI_ps, slices_IndexFunc_LLI_LI_rs, fun x => slices_IndexFunc_LLI_LI N x.1 x.2.1⟩
theorem slices_IndexFunc_LLI_LI_run (N : Nat) (x : argsT slices_IndexFunc_LLI_LI_ps) : slices_IndexFunc_LLI_LI N x.1 x.2.1 = funF (slices_IndexFunc_LLI_LI_G N) tab [slices_IndexFunc_LLI_LI_l0_s N] Try.f129 slices_IndexFunc_LLI_LI_ps slices_IndexFunc_LLI_LI_rs x := by kernel_rfl
theorem slices_IndexFunc_LLI_LI_pc (N : Nat) : PC Try.prog 129 (slices_IndexFunc_LLI_LI_S N) := by
  have e : slices_IndexFunc_LLI_LI_S N = ⟨slices_IndexFunc_LLI_LI_ps, slices_IndexFunc_LLI_LI_rs, funF (slices_IndexFunc_LLI_LI_G N) tab [slices_IndexFunc_LLI_LI_l0_s N] Try.f129 slices_IndexFunc_LLI_LI_ps slices_IndexFunc_LLI_LI_rs⟩ := congrArg (FSum.mk slices_IndexFunc_LLI_LI_ps slices_IndexFunc_LLI_LI_rs) (funext (slices_IndexFunc_LLI_LI_run N))
  rw [e]
  exact fun_ok (c := slices_IndexFunc_LLI_LI_code) progOk (slices_IndexFunc_LLI_LI_gok N) (draw_ok progOk (slices_IndexFunc_LLI_LI_gok N)) Try.call129 Try.func129 (by kernel_rfl) (lsOk_at (L := [slices_IndexFunc_LLI_LI_l0_s N]) ⟨slices_IndexFunc_LLI_LI_l0_ok N, trivial⟩) (by kernel_rfl) (by kernel_rfl) (by kernel_rfl) (by kernel_rfl) (by kernel_rfl)

/-! ### slices_ContainsFunc_LLI_LI -/
noncomputable def slices_ContainsFunc_LLI_LI_G (N : Nat) : GTab := gOf [(129, slices_IndexFunc_LLI_LI_S N)]
theorem slices_ContainsFunc_LLI_LI_gok (N : Nat) : GOk Try.prog (slices_ContainsFunc_LLI_LI_G N) := gOf_ok ⟨slices_IndexFunc_LLI_LI_pc N, trivial⟩
noncomputable def slices_ContainsFunc_LLI_LI_code : Code := (Try.f65.body).getD .skip
noncomputable def slices_ContainsFunc_LLI_LI (N : Nat) (s : (List (List Int))) (f : ((List Int) → Option Bool)) : Option ((Bool × Unit) × (Unit)) :=
  ((slices_IndexFunc_LLI_LI N s f).bind fun r =>
    some (((ile 0 r.1.1), ()), ()))
abbrev slices_ContainsFunc_LLI_LI_ps : List (PV.Mode × Ty) := [(.ro, LLI), (.ro, FLIBo)]
abbrev slices_ContainsFunc_LLI_LI_rs : List (Bool × Ty) := [(true, .bool)]
noncomputable def slices_ContainsFunc_LLI_LI_S (N : Nat) : FSum := ⟨slices_ContainsFunc_LLI_LI_ps, slices_ContainsFunc_LLI_LI_rs, fun x => slices_ContainsFunc_LLI_LI N x.1 x.2.1⟩
theorem slices_ContainsFunc_LLI_LI_run (N : Nat) (x : argsT slices_ContainsFunc_LLI_LI_ps) : slices_ContainsFunc_LLI_LI N x.1 x.2.1 = funF (slices_ContainsFunc_LLI_LI_G N) tab [] Try.f65 slices_ContainsFunc_LLI_LI_ps slices_ContainsFunc_LLI_LI_rs x := by kernel_rfl
theorem slices_ContainsFunc_LLI_LI_pc (N : Nat) : PC Try.prog 65 (slices_ContainsFunc_LLI_LI_S N) := by
  have e : slices_ContainsFunc_LLI_LI_S N = ⟨slices_ContainsFunc_LLI_LI_ps, slices_ContainsFunc_LLI_LI_rs, funF (slices_ContainsFunc_LLI_LI_G N) tab [] Try.f65 slices_ContainsFunc_LLI_LI_ps slices_ContainsFunc_LLI_LI_rs⟩ := congrArg (FSum.mk slices_ContainsFunc_LLI_LI_ps slices_ContainsFunc_LLI_LI_rs) (funext (slices_ContainsFunc_LLI_LI_run N))
  rw [e]
  exact fun_ok (c := slices_ContainsFunc_LLI_LI_code) progOk (slices_ContainsFunc_LLI_LI_gok N) (draw_ok progOk (slices_ContainsFunc_LLI_LI_gok N)) Try.call65 Try.func65 (by kernel_rfl) (lsOk_at (L := []) trivial) (by kernel_rfl) (by kernel_rfl) (by kernel_rfl) (by kernel_rfl) (by kernel_rfl)

/-! ### slices_IndexFunc_LI_int -/
noncomputable def slices_IndexFunc_LI_int_G (N : Nat) : GTab := gOf []
theorem slices_IndexFunc_LI_int_gok (N : Nat) : GOk Try.prog (slices_IndexFunc_LI_int_G N) := gOf_ok trivial
noncomputable def slices_IndexFunc_LI_int_code : Code := (Try.f165.body).getD .skip
noncomputable def slices_IndexFunc_LI_int_l0_sh : Sh := ⟨[(0, .one (.ro LI)), (1, .one (.ro FIBo)), (7, .one (.ro I)), (8, .one (.ro I))], []⟩
noncomputable def slices_IndexFunc_LI_int_l0_ex : List (Ex × Sh) := [(.ret, ⟨[(4, .one (.ro I))], []⟩), (.exit 0, ⟨[], []⟩)]
noncomputable def slices_IndexFunc_LI_int_l0 {R : Type} (N : Nat) (k0 : Int → Option R) (k1 : Unit → Option R) : Nat → (List Int) → (Int → Option Bool) → Int → Int → Option R
  | 0, _, _, _, _ => none
  | K + 1, s1, f1, x, x1 =>
    (br (ilt x1 x)
      ((chk (inb s1 x1)
        ((f1 (rdI s1 x1)).bind fun v =>
        (br v
        (k0 x1)
        (slices_IndexFunc_LI_int_l0 N k0 k1 K s1 f1 x (IntKind.i64.wrap (x1 + 1)))))))
      (k1 ()))
noncomputable def slices_IndexFunc_LI_int_l0_again {R : Type} (N : Nat) (ks : (j : Nat) → ((slices_IndexFunc_LI_int_l0_ex.getD j (.ret, Sh.none)).2).T → Option R) (k : Nat) (x : slices_IndexFunc_LI_int_l0_sh.T) : Option R :=
  slices_IndexFunc_LI_int_l0 N (fun y0 => ks 0 ((y0, ()), ())) (fun (_ : Unit) => ks 1 ((), ())) k x.1.1 x.1.2.1 x.1.2.2.1 x.1.2.2.2.1
noncomputable def slices_IndexFunc_LI_int_l0_s (N : Nat) : LSum := ⟨slices_IndexFunc_LI_int_l0_sh, slices_IndexFunc_LI_int_l0_ex, fun x ks => slices_IndexFunc_LI_int_l0_again N ks N x⟩
theorem slices_IndexFunc_LI_int_l0_step (N : Nat) (R : Type) (k : Nat) (x : slices_IndexFunc_LI_int_l0_sh.T) (ks : (j : Nat) → ((slices_IndexFunc_LI_int_l0_ex.getD j (.ret, Sh.none)).2).T → Option R) : slices_IndexFunc_LI_int_l0_again N ks (k + 1) x = roundF (slices_IndexFunc_LI_int_G N) tab [] (loopAt slices_IndexFunc_LI_int_code 0) slices_IndexFunc_LI_int_l0_sh slices_IndexFunc_LI_int_l0_ex (fun y => slices_IndexFunc_LI_int_l0_again N ks k y) ks x := by kernel_rfl
theorem slices_IndexFunc_LI_int_l0_ok (N : Nat) : LoopOk Try.prog Try.f165.ntmps (slices_IndexFunc_LI_int_l0_s N) (loopAt slices_IndexFunc_LI_int_code 0) :=
  loop_ok (l := slices_IndexFunc_LI_int_l0_s N) progOk (slices_IndexFunc_LI_int_gok N) (draw_ok progOk (slices_IndexFunc_LI_int_gok N)) (fun R k x ks => slices_IndexFunc_LI_int_l0_again N ks k x) (fun _ _ _ => rfl) (fun R k x ks => slices_IndexFunc_LI_int_l0_step N R k x ks) (fun R x ks r h => ⟨N, h⟩) (lsOk_at (L := []) trivial) (by kernel_rfl) (by kernel_rfl)
noncomputable def slices_IndexFunc_LI_int (N : Nat) (s : (List Int)) (f : (Int → Option Bool)) : Option ((Int × Unit) × (Unit)) :=
  slices_IndexFunc_LI_int_l0 N (fun x => some ((x, ()), ())) (fun (_ : Unit) => some (((-1), ()), ())) N s f (tLen s) 0
abbrev slices_IndexFunc_LI_int_ps : List (PV.Mode × Ty) := [(.ro, LI), (.ro, FIBo)]
abbrev slices_IndexFunc_LI_int_rs : List (Bool × Ty) := [(true, I)]
noncomputable def slices_IndexFunc_LI_int_S (N : Nat) : FSum := ⟨slices_IndexFunc_LI_int_ps, slices_IndexFunc_LI_int_rs, fun x => slices_IndexFunc_LI_int N x.1 x.2.1⟩
theorem slices_IndexFunc_LI_int_run (N : Nat) (x : argsT slices_IndexFunc_LI_int_ps) : slices_IndexFunc_LI_int N x.1 x.2.1 = funF (slices_IndexFunc_LI_int_G N) tab [slices_IndexFunc_LI_int_l0_s N] Try.f165 slices_IndexFunc_LI_int_ps slices_IndexFunc_LI_int_rs x := by kernel_rfl
theorem slices_IndexFunc_LI_int_pc (N : Nat) : PC Try.prog 165 (slices_IndexFunc_LI_int_S N) := by
  have e : slices_IndexFunc_LI_int_S N = ⟨slices_IndexFunc_LI_int_ps, slices_IndexFunc_LI_int_rs, funF (slices_IndexFunc_LI_int_G N) tab [slices_IndexFunc_LI_int_l0_s N] Try.f165 slices_IndexFunc_LI_int_ps slices_IndexFunc_LI_int_rs⟩ := congrArg (FSum.mk slices_IndexFunc_LI_int_ps slices_IndexFunc_LI_int_rs) (funext (slices_IndexFunc_LI_int_run N))
  rw [e]
  exact fun_ok (c := slices_IndexFunc_LI_int_code) progOk (slices_IndexFunc_LI_int_gok N) (draw_ok progOk (slices_IndexFunc_LI_int_gok N)) Try.call165 Try.func165 (by kernel_rfl) (lsOk_at (L := [slices_IndexFunc_LI_int_l0_s N]) ⟨slices_IndexFunc_LI_int_l0_ok N, trivial⟩) (by kernel_rfl) (by kernel_rfl) (by kernel_rfl) (by kernel_rfl) (by kernel_rfl)

/-! ### slices_ContainsFunc_LI_int -/
noncomputable def slices_ContainsFunc_LI_int_G (N : Nat) : GTab := gOf [(165, slices_IndexFunc_LI_int_S N)]
theorem slices_ContainsFunc_LI_int_gok (N : Nat) : GOk Try.prog (slices_ContainsFunc_LI_int_G N) := gOf_ok ⟨slices_IndexFunc_LI_int_pc N, trivial⟩
noncomputable def slices_ContainsFunc_LI_int_code : Code := (Try.f130.body).getD .skip
noncomputable def slices_ContainsFunc_LI_int (N : Nat) (s : (List Int)) (f : (Int → Option Bool)) : Option ((Bool × Unit) × (Unit)) :=
  ((slices_IndexFunc_LI_int N s f).bind fun r =>
    some (((ile 0 r.1.1), ()), ()))
abbrev slices_ContainsFunc_LI_int_ps : List (PV.Mode × Ty) := [(.ro, LI), (.ro, FIBo)]
abbrev slices_ContainsFunc_LI_int_rs : List (Bool × Ty) := [(true, .bool)]
noncomputable def slices_ContainsFunc_LI_int_S (N : Nat) : FSum := ⟨slices_ContainsFunc_LI_int_ps, slices_ContainsFunc_LI_int_rs, fun x => slices_ContainsFunc_LI_int N x.1 x.2.1⟩
theorem slices_ContainsFunc_LI_int_run (N : Nat) (x : argsT slices_ContainsFunc_LI_int_ps) : slices_ContainsFunc_LI_int N x.1 x.2.1 = funF (slices_ContainsFunc_LI_int_G N) tab [] Try.f130 slices_ContainsFunc_LI_int_ps slices_ContainsFunc_LI_int_rs x := by kernel_rfl
theorem slices_ContainsFunc_LI_int_pc (N : Nat) : PC Try.prog 130 (slices_ContainsFunc_LI_int_S N) := by
  have e : slices_ContainsFunc_LI_int_S N = ⟨slices_ContainsFunc_LI_int_ps, slices_ContainsFunc_LI_int_rs, funF (slices_ContainsFunc_LI_int_G N) tab [] Try.f130 slices_ContainsFunc_LI_int_ps slices_ContainsFunc_LI_int_rs⟩ := congrArg (FSum.mk slices_ContainsFunc_LI_int_ps slices_ContainsFunc_LI_int_rs) (funext (slices_ContainsFunc_LI_int_run N))
  rw [e]
  exact fun_ok (c := slices_ContainsFunc_LI_int_code) progOk (slices_ContainsFunc_LI_int_gok N) (draw_ok progOk (slices_ContainsFunc_LI_int_gok N)) Try.call130 Try.func130 (by kernel_rfl) (lsOk_at (L := []) trivial) (by kernel_rfl) (by kernel_rfl) (by kernel_rfl) (by kernel_rfl) (by kernel_rfl)

/-! ### impl_isAssignment_c1 -/
noncomputable def impl_isAssignment_c1_G (N : Nat) : GTab := gOf [(64, impl_between_S N)]
theorem impl_isAssignment_c1_gok (N : Nat) : GOk Try.prog (impl_isAssignment_c1_G N) := gOf_ok ⟨impl_between_pc N, trivial⟩
noncomputable def impl_isAssignment_c1_code : Code := (Try.f131.body).getD .skip
noncomputable def impl_isAssignment_c1 (N : Nat) (n : Int) : Option ((Bool × Unit) × (Unit)) :=
  ((impl_between N n 0 1).bind fun r =>
    some (((!r.1.1), ()), ()))
abbrev impl_isAssignment_c1_ps : List (PV.Mode × Ty) := [(.ro, I)]
abbrev impl_isAssignment_c1_rs : List (Bool × Ty) := [(true, .bool)]
noncomputable def impl_isAssignment_c1_S (N : Nat) : FSum := ⟨impl_isAssignment_c1_ps, impl_isAssignment_c1_rs, fun x => impl_isAssignment_c1 N x.1⟩
theorem impl_isAssignment_c1_run (N : Nat) (x : argsT impl_isAssignment_c1_ps) : impl_isAssignment_c1 N x.1 = funF (impl_isAssignment_c1_G N) tab [] Try.f131 impl_isAssignment_c1_ps impl_isAssignment_c1_rs x := by kernel_rfl
theorem impl_isAssignment_c1_pc (N : Nat) : PC Try.prog 131 (impl_isAssignment_c1_S N) := by
  have e : impl_isAssignment_c1_S N = ⟨impl_isAssignment_c1_ps, impl_isAssignment_c1_rs, funF (impl_isAssignment_c1_G N) tab [] Try.f131 impl_isAssignment_c1_ps impl_isAssignment_c1_rs⟩ := congrArg (FSum.mk impl_isAssignment_c1_ps impl_isAssignment_c1_rs) (funext (impl_isAssignment_c1_run N))
  rw [e]
  exact fun_ok (c := impl_isAssignment_c1_code) progOk (impl_isAssignment_c1_gok N) (draw_ok progOk (impl_isAssignment_c1_gok N)) Try.call131 Try.func131 (by kernel_rfl) (lsOk_at (L := []) trivial) (by kernel_rfl) (by kernel_rfl) (by kernel_rfl) (by kernel_rfl) (by kernel_rfl)

/-! ### impl_isAssignment -/
noncomputable def impl_isAssignment_G (N : Nat) : GTab := gOf [(130, slices_ContainsFunc_LI_int_S N), (131, impl_isAssignment_c1_S N)]
theorem impl_isAssignment_gok (N : Nat) : GOk Try.prog (impl_isAssignment_G N) := gOf_ok ⟨slices_ContainsFunc_LI_int_pc N, impl_isAssignment_c1_pc N, trivial⟩
noncomputable def impl_isAssignment_code : Code := (Try.f67.body).getD .skip
noncomputable def impl_isAssignment (N : Nat) (vars : Int) (list : (List Int)) : Option ((Bool × Unit) × (Unit)) :=
  (br (ieq (tLen list) vars)
    (((slices_ContainsFunc_LI_int N list (fun y0 => (impl_isAssignment_c1 N y0).bind fun z => some z.1.1)).bind fun r =>
      some (((!r.1.1), ()), ())))
    (some ((false, ()), ())))
abbrev impl_isAssignment_ps : List (PV.Mode × Ty) := [(.ro, I), (.ro, LI)]
abbrev impl_isAssignment_rs : List (Bool × Ty) := [(true, .bool)]
noncomputable def impl_isAssignment_S (N : Nat) : FSum := ⟨impl_isAssignment_ps, impl_isAssignment_rs, fun x => impl_isAssignment N x.1 x.2.1⟩
theorem impl_isAssignment_run (N : Nat) (x : argsT impl_isAssignment_ps) : impl_isAssignment N x.1 x.2.1 = funF (impl_isAssignment_G N) tab [] Try.f67 impl_isAssignment_ps impl_isAssignment_rs x := by kernel_rfl
theorem impl_isAssignment_pc (N : Nat) : PC Try.prog 67 (impl_isAssignment_S N) := by
  have e : impl_isAssignment_S N = ⟨impl_isAssignment_ps, impl_isAssignment_rs, funF (impl_isAssignment_G N) tab [] Try.f67 impl_isAssignment_ps impl_isAssignment_rs⟩ := congrArg (FSum.mk impl_isAssignment_ps impl_isAssignment_rs) (funext (impl_isAssignment_run N))
  rw [e]
  exact fun_ok (c := impl_isAssignment_code) progOk (impl_isAssignment_gok N) (draw_ok progOk (impl_isAssignment_gok N)) Try.call67 Try.func67 (by kernel_rfl) (lsOk_at (L := []) trivial) (by kernel_rfl) (by kernel_rfl) (by kernel_rfl) (by kernel_rfl) (by kernel_rfl)

/-! ### impl_FormulaOf_c1 -/
noncomputable def impl_FormulaOf_c1_G (N : Nat) : GTab := gOf [(67, impl_isAssignment_S N)]
theorem impl_FormulaOf_c1_gok (N : Nat) : GOk Try.prog (impl_FormulaOf_c1_G N) := gOf_ok ⟨impl_isAssignment_pc N, trivial⟩
noncomputable def impl_FormulaOf_c1_code : Code := (Try.f66.body).getD .skip
noncomputable def impl_FormulaOf_c1 (N : Nat) (s : (List Int)) (c : Int) : Option ((Bool × Unit) × (Unit)) :=
  ((impl_isAssignment N c s).bind fun r =>
    some (((!r.1.1), ()), ()))
abbrev impl_FormulaOf_c1_ps : List (PV.Mode × Ty) := [(.ro, LI), (.ro, AI)]
abbrev impl_FormulaOf_c1_rs : List (Bool × Ty) := [(true, .bool)]
noncomputable def impl_FormulaOf_c1_S (N : Nat) : FSum := ⟨impl_FormulaOf_c1_ps, impl_FormulaOf_c1_rs, fun x => impl_FormulaOf_c1 N x.1 x.2.1⟩
theorem impl_FormulaOf_c1_run (N : Nat) (x : argsT impl_FormulaOf_c1_ps) : impl_FormulaOf_c1 N x.1 x.2.1 = funF (impl_FormulaOf_c1_G N) tab [] Try.f66 impl_FormulaOf_c1_ps impl_FormulaOf_c1_rs x := by kernel_rfl
theorem impl_FormulaOf_c1_pc (N : Nat) : PC Try.prog 66 (impl_FormulaOf_c1_S N) := by
  have e : impl_FormulaOf_c1_S N = ⟨impl_FormulaOf_c1_ps, impl_FormulaOf_c1_rs, funF (impl_FormulaOf_c1_G N) tab [] Try.f66 impl_FormulaOf_c1_ps impl_FormulaOf_c1_rs⟩ := congrArg (FSum.mk impl_FormulaOf_c1_ps impl_FormulaOf_c1_rs) (funext (impl_FormulaOf_c1_run N))
  rw [e]
  exact fun_ok (c := impl_FormulaOf_c1_code) progOk (impl_FormulaOf_c1_gok N) (draw_ok progOk (impl_FormulaOf_c1_gok N)) Try.call66 Try.func66 (by kernel_rfl) (lsOk_at (L := []) trivial) (by kernel_rfl) (by kernel_rfl) (by kernel_rfl) (by kernel_rfl) (by kernel_rfl)

/-! ### impl_assignments -/
noncomputable def impl_assignments_G (N : Nat) : GTab := gOf []
theorem impl_assignments_gok (N : Nat) : GOk Try.prog (impl_assignments_G N) := gOf_ok trivial
noncomputable def impl_assignments_code : Code := (Try.f132.body).getD .skip
noncomputable def impl_assignments_l0_0_sh : Sh := ⟨[(0, .one (.ro I)), (1, .one (.ro FLIBo)), (5, .one (.ref 0)), (6, .one (.ro I)), (7, .one (.ref 1)), (11, .one (.ro I)), (12, .one (.ro I)), (16, .one (.ro I)), (17, .one (.ro I))], [.sl 33 LI .deep, .sl 3 I .own]⟩
noncomputable def impl_assignments_l0_0_ex : List (Ex × Sh) := [(.exit 2, ⟨[(0, .one (.ro I)), (1, .one (.ro FLIBo)), (5, .one (.ref 0)), (7, .one (.ref 1)), (11, .one (.ro I)), (12, .one (.ro I))], [.sl 33 LI .deep, .sl 3 I .own]⟩)]
noncomputable def impl_assignments_l0_0 {R : Type} (N : Nat) (k0 : Int → ((List Int) → Option Bool) → Int → Int → (List (List Int)) → (List Int) → Option R) : Nat → Int → ((List Int) → Option Bool) → Int → Int → Int → Int → Int → (List (List Int)) → (List Int) → Option R
  | 0, _, _, _, _, _, _, _, _, _ => none
  | K + 1, vars2, is2, n, x2, x3, x4, x5, o1, o2 =>
    (br (ilt x5 x4)
      ((chk (ile 0 (IntKind.i64.wrap ((IntKind.i64.wrap (vars2 - 1)) - x5)))
        (chk (room o2 [(bitop .and .i64 (shrI .i64 n (IntKind.i64.wrap ((IntKind.i64.wrap (vars2 - 1)) - x5))) 1)])
        (impl_assignments_l0_0 N k0 K vars2 is2 n x2 x3 x4 (IntKind.i64.wrap (x5 + 1)) o1 (tApp o2 [(bitop .and .i64 (shrI .i64 n (IntKind.i64.wrap ((IntKind.i64.wrap (vars2 - 1)) - x5))) 1)])))))
      (k0 vars2 is2 x2 x3 o1 o2))
noncomputable def impl_assignments_l0_0_again {R : Type} (N : Nat) (ks : (j : Nat) → ((impl_assignments_l0_0_ex.getD j (.ret, Sh.none)).2).T → Option R) (k : Nat) (x : impl_assignments_l0_0_sh.T) : Option R :=
  impl_assignments_l0_0 N (fun y0 y1 y2 y3 y4 y5 => ks 0 ((y0, y1, (), (), y2, y3, ()), (y4, y5, ()))) k x.1.1 x.1.2.1 x.1.2.2.2.1 x.1.2.2.2.2.2.1 x.1.2.2.2.2.2.2.1 x.1.2.2.2.2.2.2.2.1 x.1.2.2.2.2.2.2.2.2.1 x.2.1 x.2.2.1
noncomputable def impl_assignments_l0_0_s (N : Nat) : LSum := ⟨impl_assignments_l0_0_sh, impl_assignments_l0_0_ex, fun x ks => impl_assignments_l0_0_again N ks N x⟩
theorem impl_assignments_l0_0_step (N : Nat) (R : Type) (k : Nat) (x : impl_assignments_l0_0_sh.T) (ks : (j : Nat) → ((impl_assignments_l0_0_ex.getD j (.ret, Sh.none)).2).T → Option R) : impl_assignments_l0_0_again N ks (k + 1) x = roundF (impl_assignments_G N) tab [] (loopAt (loopAt impl_assignments_code 0) 0) impl_assignments_l0_0_sh impl_assignments_l0_0_ex (fun y => impl_assignments_l0_0_again N ks k y) ks x := by kernel_rfl
theorem impl_assignments_l0_0_ok (N : Nat) : LoopOk Try.prog Try.f132.ntmps (impl_assignments_l0_0_s N) (loopAt (loopAt impl_assignments_code 0) 0) :=
  loop_ok (l := impl_assignments_l0_0_s N) progOk (impl_assignments_gok N) (draw_ok progOk (impl_assignments_gok N)) (fun R k x ks => impl_assignments_l0_0_again N ks k x) (fun _ _ _ => rfl) (fun R k x ks => impl_assignments_l0_0_step N R k x ks) (fun R x ks r h => ⟨N, h⟩) (lsOk_at (L := []) trivial) (by kernel_rfl) (by kernel_rfl)
noncomputable def impl_assignments_l0_sh : Sh := ⟨[(0, .one (.ro I)), (1, .one (.ro FLIBo)), (5, .one (.ref 0)), (11, .one (.ro I)), (12, .one (.ro I))], [.sl 33 LI .deep]⟩
noncomputable def impl_assignments_l0_ex : List (Ex × Sh) := [(.exit 0, ⟨[(5, .one (.ref 0))], [.sl 33 LI .deep]⟩)]
noncomputable def impl_assignments_l0 {R : Type} (N : Nat) (k0 : (List (List Int)) → Option R) : Nat → Int → ((List Int) → Option Bool) → Int → Int → (List (List Int)) → Option R
  | 0, _, _, _, _, _ => none
  | K + 1, vars1, is1, x, x1, o =>
    (br (ilt x1 x)
      (impl_assignments_l0_0 N (fun vars2 is2 x2 x3 o1 o2 => ((is2 o2).bind fun v =>
        (br v
        ((chk (room o1 [o2])
          (impl_assignments_l0 N k0 K vars2 is2 x2 (IntKind.i64.wrap (x3 + 1)) (tApp o1 [o2]))))
        (impl_assignments_l0 N k0 K vars2 is2 x2 (IntKind.i64.wrap (x3 + 1)) o1)))) N vars1 is1 x1 x x1 vars1 0 o [])
      (k0 o))
noncomputable def impl_assignments_l0_again {R : Type} (N : Nat) (ks : (j : Nat) → ((impl_assignments_l0_ex.getD j (.ret, Sh.none)).2).T → Option R) (k : Nat) (x : impl_assignments_l0_sh.T) : Option R :=
  impl_assignments_l0 N (fun y0 => ks 0 (((), ()), (y0, ()))) k x.1.1 x.1.2.1 x.1.2.2.2.1 x.1.2.2.2.2.1 x.2.1
noncomputable def impl_assignments_l0_s (N : Nat) : LSum := ⟨impl_assignments_l0_sh, impl_assignments_l0_ex, fun x ks => impl_assignments_l0_again N ks N x⟩
theorem impl_assignments_l0_step (N : Nat) (R : Type) (k : Nat) (x : impl_assignments_l0_sh.T) (ks : (j : Nat) → ((impl_assignments_l0_ex.getD j (.ret, Sh.none)).2).T → Option R) : impl_assignments_l0_again N ks (k + 1) x = roundF (impl_assignments_G N) tab [impl_assignments_l0_0_s N] (loopAt impl_assignments_code 0) impl_assignments_l0_sh impl_assignments_l0_ex (fun y => impl_assignments_l0_again N ks k y) ks x := by kernel_rfl
theorem impl_assignments_l0_ok (N : Nat) : LoopOk Try.prog Try.f132.ntmps (impl_assignments_l0_s N) (loopAt impl_assignments_code 0) :=
  loop_ok (l := impl_assignments_l0_s N) progOk (impl_assignments_gok N) (draw_ok progOk (impl_assignments_gok N)) (fun R k x ks => impl_assignments_l0_again N ks k x) (fun _ _ _ => rfl) (fun R k x ks => impl_assignments_l0_step N R k x ks) (fun R x ks r h => ⟨N, h⟩) (lsOk_at (L := [impl_assignments_l0_0_s N]) ⟨impl_assignments_l0_0_ok N, trivial⟩) (by kernel_rfl) (by kernel_rfl)
noncomputable def impl_assignments (N : Nat) (vars : Int) (is : ((List Int) → Option Bool)) : Option (((List (List Int)) × Unit) × (Unit)) :=
  (chk (ile 0 vars)
    (impl_assignments_l0 N (fun o => some ((o, ()), ())) N vars is (shlI .i64 1 vars) 0 []))
abbrev impl_assignments_ps : List (PV.Mode × Ty) := [(.ro, I), (.ro, FLIBo)]
abbrev impl_assignments_rs : List (Bool × Ty) := [(false, LLI)]
noncomputable def impl_assignments_S (N : Nat) : FSum := ⟨impl_assignments_ps, impl_assignments_rs, fun x => impl_assignments N x.1 x.2.1⟩
theorem impl_assignments_run (N : Nat) (x : argsT impl_assignments_ps) : impl_assignments N x.1 x.2.1 = funF (impl_assignments_G N) tab [impl_assignments_l0_s N] Try.f132 impl_assignments_ps impl_assignments_rs x := by kernel_rfl
theorem impl_assignments_pc (N : Nat) : PC Try.prog 132 (impl_assignments_S N) := by
  have e : impl_assignments_S N = ⟨impl_assignments_ps, impl_assignments_rs, funF (impl_assignments_G N) tab [impl_assignments_l0_s N] Try.f132 impl_assignments_ps impl_assignments_rs⟩ := congrArg (FSum.mk impl_assignments_ps impl_assignments_rs) (funext (impl_assignments_run N))
  rw [e]
  exact fun_ok (c := impl_assignments_code) progOk (impl_assignments_gok N) (draw_ok progOk (impl_assignments_gok N)) Try.call132 Try.func132 (by kernel_rfl) (lsOk_at (L := [impl_assignments_l0_s N]) ⟨impl_assignments_l0_ok N, trivial⟩) (by kernel_rfl) (by kernel_rfl) (by kernel_rfl) (by kernel_rfl) (by kernel_rfl)

/-! ### impl_formulaOf_c1 -/
noncomputable def impl_formulaOf_c1_G (N : Nat) : GTab := gOf []
theorem impl_formulaOf_c1_gok (N : Nat) : GOk Try.prog (impl_formulaOf_c1_G N) := gOf_ok trivial
noncomputable def impl_formulaOf_c1_code : Code := (Try.f133.body).getD .skip
noncomputable def impl_formulaOf_c1 (N : Nat) (x : (List Int)) : Option ((Bool × Unit) × (Unit)) :=
  some ((true, ()), ())
abbrev impl_formulaOf_c1_ps : List (PV.Mode × Ty) := [(.ro, LI)]
abbrev impl_formulaOf_c1_rs : List (Bool × Ty) := [(true, .bool)]
noncomputable def impl_formulaOf_c1_S (N : Nat) : FSum := ⟨impl_formulaOf_c1_ps, impl_formulaOf_c1_rs, fun x => impl_formulaOf_c1 N x.1⟩
theorem impl_formulaOf_c1_run (N : Nat) (x : argsT impl_formulaOf_c1_ps) : impl_formulaOf_c1 N x.1 = funF (impl_formulaOf_c1_G N) tab [] Try.f133 impl_formulaOf_c1_ps impl_formulaOf_c1_rs x := by kernel_rfl
theorem impl_formulaOf_c1_pc (N : Nat) : PC Try.prog 133 (impl_formulaOf_c1_S N) := by
  have e : impl_formulaOf_c1_S N = ⟨impl_formulaOf_c1_ps, impl_formulaOf_c1_rs, funF (impl_formulaOf_c1_G N) tab [] Try.f133 impl_formulaOf_c1_ps impl_formulaOf_c1_rs⟩ := congrArg (FSum.mk impl_formulaOf_c1_ps impl_formulaOf_c1_rs) (funext (impl_formulaOf_c1_run N))
  rw [e]
  exact fun_ok (c := impl_formulaOf_c1_code) progOk (impl_formulaOf_c1_gok N) (draw_ok progOk (impl_formulaOf_c1_gok N)) Try.call133 Try.func133 (by kernel_rfl) (lsOk_at (L := []) trivial) (by kernel_rfl) (by kernel_rfl) (by kernel_rfl) (by kernel_rfl) (by kernel_rfl)

/-! ### slices_Equal_LI_int -/
noncomputable def slices_Equal_LI_int_G (N : Nat) : GTab := gOf []
theorem slices_Equal_LI_int_gok (N : Nat) : GOk Try.prog (slices_Equal_LI_int_G N) := gOf_ok trivial
noncomputable def slices_Equal_LI_int_code : Code := (Try.f135.body).getD .skip
noncomputable def slices_Equal_LI_int_l0_sh : Sh := ⟨[(0, .one (.ro LI)), (1, .one (.ro LI)), (12, .one (.ro I)), (13, .one (.ro I))], []⟩
noncomputable def slices_Equal_LI_int_l0_ex : List (Ex × Sh) := [(.ret, ⟨[(4, .one (.ro .bool))], []⟩), (.exit 0, ⟨[], []⟩)]
noncomputable def slices_Equal_LI_int_l0 {R : Type} (N : Nat) (k0 : Bool → Option R) (k1 : Unit → Option R) : Nat → (List Int) → (List Int) → Int → Int → Option R
  | 0, _, _, _, _ => none
  | K + 1, s11, s21, x, x1 =>
    (br (ilt x1 x)
      ((chk (inb s11 x1)
        (chk (inb s21 x1)
        (br (ine (rdI s11 x1) (rdI s21 x1))
        (k0 false)
        (slices_Equal_LI_int_l0 N k0 k1 K s11 s21 x (IntKind.i64.wrap (x1 + 1)))))))
      (k1 ()))
noncomputable def slices_Equal_LI_int_l0_again {R : Type} (N : Nat) (ks : (j : Nat) → ((slices_Equal_LI_int_l0_ex.getD j (.ret, Sh.none)).2).T → Option R) (k : Nat) (x : slices_Equal_LI_int_l0_sh.T) : Option R :=
  slices_Equal_LI_int_l0 N (fun y0 => ks 0 ((y0, ()), ())) (fun (_ : Unit) => ks 1 ((), ())) k x.1.1 x.1.2.1 x.1.2.2.1 x.1.2.2.2.1
noncomputable def slices_Equal_LI_int_l0_s (N : Nat) : LSum := ⟨slices_Equal_LI_int_l0_sh, slices_Equal_LI_int_l0_ex, fun x ks => slices_Equal_LI_int_l0_again N ks N x⟩
theorem slices_Equal_LI_int_l0_step (N : Nat) (R : Type) (k : Nat) (x : slices_Equal_LI_int_l0_sh.T) (ks : (j : Nat) → ((slices_Equal_LI_int_l0_ex.getD j (.ret, Sh.none)).2).T → Option R) : slices_Equal_LI_int_l0_again N ks (k + 1) x = roundF (slices_Equal_LI_int_G N) tab [] (loopAt slices_Equal_LI_int_code 0) slices_Equal_LI_int_l0_sh slices_Equal_LI_int_l0_ex (fun y => slices_Equal_LI_int_l0_again N ks k y) ks x := by kernel_rfl
theorem slices_Equal_LI_int_l0_ok (N : Nat) : LoopOk Try.prog Try.f135.ntmps (slices_Equal_LI_int_l0_s N) (loopAt slices_Equal_LI_int_code 0) :=
  loop_ok (l := slices_Equal_LI_int_l0_s N) progOk (slices_Equal_LI_int_gok N) (draw_ok progOk (slices_Equal_LI_int_gok N)) (fun R k x ks => slices_Equal_LI_int_l0_again N ks k x) (fun _ _ _ => rfl) (fun R k x ks => slices_Equal_LI_int_l0_step N R k x ks) (fun R x ks r h => ⟨N, h⟩) (lsOk_at (L := []) trivial) (by kernel_rfl) (by kernel_rfl)
noncomputable def slices_Equal_LI_int (N : Nat) (s1 : (List Int)) (s2 : (List Int)) : Option ((Bool × Unit) × (Unit)) :=
  (br (ine (tLen s1) (tLen s2))
    (some ((false, ()), ()))
    (slices_Equal_LI_int_l0 N (fun x => some ((x, ()), ())) (fun (_ : Unit) => some ((true, ()), ())) N s1 s2 (tLen s1) 0))
abbrev slices_Equal_LI_int_ps : List (PV.Mode × Ty) := [(.ro, LI), (.ro, LI)]
abbrev slices_Equal_LI_int_rs : List (Bool × Ty) := [(true, .bool)]
noncomputable def slices_Equal_LI_int_S (N : Nat) : FSum := ⟨slices_Equal_LI_int_ps, slices_Equal_LI_int_rs, fun x => slices_Equal_LI_int N x.1 x.2.1⟩
theorem slices_Equal_LI_int_run (N : Nat) (x : argsT slices_Equal_LI_int_ps) : slices_Equal_LI_int N x.1 x.2.1 = funF (slices_Equal_LI_int_G N) tab [slices_Equal_LI_int_l0_s N] Try.f135 slices_Equal_LI_int_ps slices_Equal_LI_int_rs x := by kernel_rfl
theorem slices_Equal_LI_int_pc (N : Nat) : PC Try.prog 135 (slices_Equal_LI_int_S N) := by
  have e : slices_Equal_LI_int_S N = ⟨slices_Equal_LI_int_ps, slices_Equal_LI_int_rs, funF (slices_Equal_LI_int_G N) tab [slices_Equal_LI_int_l0_s N] Try.f135 slices_Equal_LI_int_ps slices_Equal_LI_int_rs⟩ := congrArg (FSum.mk slices_Equal_LI_int_ps slices_Equal_LI_int_rs) (funext (slices_Equal_LI_int_run N))
  rw [e]
  exact fun_ok (c := slices_Equal_LI_int_code) progOk (slices_Equal_LI_int_gok N) (draw_ok progOk (slices_Equal_LI_int_gok N)) Try.call135 Try.func135 (by kernel_rfl) (lsOk_at (L := [slices_Equal_LI_int_l0_s N]) ⟨slices_Equal_LI_int_l0_ok N, trivial⟩) (by kernel_rfl) (by kernel_rfl) (by kernel_rfl) (by kernel_rfl) (by kernel_rfl)

/-! ### impl_formulaOf_c2 -/
noncomputable def impl_formulaOf_c2_G (N : Nat) : GTab := gOf [(135, slices_Equal_LI_int_S N)]
theorem impl_formulaOf_c2_gok (N : Nat) : GOk Try.prog (impl_formulaOf_c2_G N) := gOf_ok ⟨slices_Equal_LI_int_pc N, trivial⟩
noncomputable def impl_formulaOf_c2_code : Code := (Try.f134.body).getD .skip
noncomputable def impl_formulaOf_c2 (N : Nat) (s : (List Int)) (c : (List Int)) : Option ((Bool × Unit) × (Unit)) :=
  ((slices_Equal_LI_int N s c).bind fun r =>
    some ((r.1.1, ()), ()))
abbrev impl_formulaOf_c2_ps : List (PV.Mode × Ty) := [(.ro, LI), (.ro, ALI)]
abbrev impl_formulaOf_c2_rs : List (Bool × Ty) := [(true, .bool)]
noncomputable def impl_formulaOf_c2_S (N : Nat) : FSum := ⟨impl_formulaOf_c2_ps, impl_formulaOf_c2_rs, fun x => impl_formulaOf_c2 N x.1 x.2.1⟩
theorem impl_formulaOf_c2_run (N : Nat) (x : argsT impl_formulaOf_c2_ps) : impl_formulaOf_c2 N x.1 x.2.1 = funF (impl_formulaOf_c2_G N) tab [] Try.f134 impl_formulaOf_c2_ps impl_formulaOf_c2_rs x := by kernel_rfl
theorem impl_formulaOf_c2_pc (N : Nat) : PC Try.prog 134 (impl_formulaOf_c2_S N) := by
  have e : impl_formulaOf_c2_S N = ⟨impl_formulaOf_c2_ps, impl_formulaOf_c2_rs, funF (impl_formulaOf_c2_G N) tab [] Try.f134 impl_formulaOf_c2_ps impl_formulaOf_c2_rs⟩ := congrArg (FSum.mk impl_formulaOf_c2_ps impl_formulaOf_c2_rs) (funext (impl_formulaOf_c2_run N))
  rw [e]
  exact fun_ok (c := impl_formulaOf_c2_code) progOk (impl_formulaOf_c2_gok N) (draw_ok progOk (impl_formulaOf_c2_gok N)) Try.call134 Try.func134 (by kernel_rfl) (lsOk_at (L := []) trivial) (by kernel_rfl) (by kernel_rfl) (by kernel_rfl) (by kernel_rfl) (by kernel_rfl)

/-! ### math_bits_Len64 -/
noncomputable def math_bits_Len64_G (N : Nat) : GTab := gOf []
theorem math_bits_Len64_gok (N : Nat) : GOk Try.prog (math_bits_Len64_G N) := gOf_ok trivial
noncomputable def math_bits_Len64_code : Code := (Try.f187.body).getD .skip
noncomputable def math_bits_Len64 (N : Nat) (x : Int) : Option ((Int × Unit) × (Unit)) :=
  (br (ile 4294967296 x)
    ((br (ile 65536 (shrI .u64 x 32))
      ((br (ile 256 (shrI .u64 (shrI .u64 x 32) 16))
        ((chk (strIn str0 (IntKind.u8.wrap ((shrI .u64 (shrI .u64 (shrI .u64 x 32) 16) 8))))
          (some (((IntKind.i64.wrap (56 + (IntKind.i64.wrap ((strAt str0 (IntKind.u8.wrap ((shrI .u64 (shrI .u64 (shrI .u64 x 32) 16) 8)))))))), ()), ()))))
        ((chk (strIn str0 (IntKind.u8.wrap ((shrI .u64 (shrI .u64 x 32) 16))))
          (some (((IntKind.i64.wrap (48 + (IntKind.i64.wrap ((strAt str0 (IntKind.u8.wrap ((shrI .u64 (shrI .u64 x 32) 16)))))))), ()), ()))))))
      ((br (ile 256 (shrI .u64 x 32))
        ((chk (strIn str0 (IntKind.u8.wrap ((shrI .u64 (shrI .u64 x 32) 8))))
          (some (((IntKind.i64.wrap (40 + (IntKind.i64.wrap ((strAt str0 (IntKind.u8.wrap ((shrI .u64 (shrI .u64 x 32) 8)))))))), ()), ()))))
        ((chk (strIn str0 (IntKind.u8.wrap ((shrI .u64 x 32))))
          (some (((IntKind.i64.wrap (32 + (IntKind.i64.wrap ((strAt str0 (IntKind.u8.wrap ((shrI .u64 x 32)))))))), ()), ()))))))))
    ((br (ile 65536 x)
      ((br (ile 256 (shrI .u64 x 16))
        ((chk (strIn str0 (IntKind.u8.wrap ((shrI .u64 (shrI .u64 x 16) 8))))
          (some (((IntKind.i64.wrap (24 + (IntKind.i64.wrap ((strAt str0 (IntKind.u8.wrap ((shrI .u64 (shrI .u64 x 16) 8)))))))), ()), ()))))
        ((chk (strIn str0 (IntKind.u8.wrap ((shrI .u64 x 16))))
          (some (((IntKind.i64.wrap (16 + (IntKind.i64.wrap ((strAt str0 (IntKind.u8.wrap ((shrI .u64 x 16)))))))), ()), ()))))))
      ((br (ile 256 x)
        ((chk (strIn str0 (IntKind.u8.wrap ((shrI .u64 x 8))))
          (some (((IntKind.i64.wrap (8 + (IntKind.i64.wrap ((strAt str0 (IntKind.u8.wrap ((shrI .u64 x 8)))))))), ()), ()))))
        ((chk (strIn str0 (IntKind.u8.wrap (x)))
          (some (((IntKind.i64.wrap (0 + (IntKind.i64.wrap ((strAt str0 (IntKind.u8.wrap (x))))))), ()), ())))))))))
abbrev math_bits_Len64_ps : List (PV.Mode × Ty) := [(.ro, U64)]
abbrev math_bits_Len64_rs : List (Bool × Ty) := [(true, I)]
noncomputable def math_bits_Len64_S (N : Nat) : FSum := ⟨math_bits_Len64_ps, math_bits_Len64_rs, fun x => math_bits_Len64 N x.1⟩
theorem math_bits_Len64_run (N : Nat) (x : argsT math_bits_Len64_ps) : math_bits_Len64 N x.1 = funF (math_bits_Len64_G N) tab [] Try.f187 math_bits_Len64_ps math_bits_Len64_rs x := by kernel_rfl
theorem math_bits_Len64_pc (N : Nat) : PC Try.prog 187 (math_bits_Len64_S N) := by
  have e : math_bits_Len64_S N = ⟨math_bits_Len64_ps, math_bits_Len64_rs, funF (math_bits_Len64_G N) tab [] Try.f187 math_bits_Len64_ps math_bits_Len64_rs⟩ := congrArg (FSum.mk math_bits_Len64_ps math_bits_Len64_rs) (funext (math_bits_Len64_run N))
  rw [e]
  exact fun_ok (c := math_bits_Len64_code) progOk (math_bits_Len64_gok N) (draw_ok progOk (math_bits_Len64_gok N)) Try.call187 Try.func187 (by kernel_rfl) (lsOk_at (L := []) trivial) (by kernel_rfl) (by kernel_rfl) (by kernel_rfl) (by kernel_rfl) (by kernel_rfl)

/-! ### math_bits_Len -/
noncomputable def math_bits_Len_G (N : Nat) : GTab := gOf [(187, math_bits_Len64_S N)]
theorem math_bits_Len_gok (N : Nat) : GOk Try.prog (math_bits_Len_G N) := gOf_ok ⟨math_bits_Len64_pc N, trivial⟩
noncomputable def math_bits_Len_code : Code := (Try.f161.body).getD .skip
noncomputable def math_bits_Len (N : Nat) (x : Int) : Option ((Int × Unit) × (Unit)) :=
  ((math_bits_Len64 N x).bind fun r =>
    some ((r.1.1, ()), ()))
abbrev math_bits_Len_ps : List (PV.Mode × Ty) := [(.ro, U64)]
abbrev math_bits_Len_rs : List (Bool × Ty) := [(true, I)]
noncomputable def math_bits_Len_S (N : Nat) : FSum := ⟨math_bits_Len_ps, math_bits_Len_rs, fun x => math_bits_Len N x.1⟩
theorem math_bits_Len_run (N : Nat) (x : argsT math_bits_Len_ps) : math_bits_Len N x.1 = funF (math_bits_Len_G N) tab [] Try.f161 math_bits_Len_ps math_bits_Len_rs x := by kernel_rfl
theorem math_bits_Len_pc (N : Nat) : PC Try.prog 161 (math_bits_Len_S N) := by
  have e : math_bits_Len_S N = ⟨math_bits_Len_ps, math_bits_Len_rs, funF (math_bits_Len_G N) tab [] Try.f161 math_bits_Len_ps math_bits_Len_rs⟩ := congrArg (FSum.mk math_bits_Len_ps math_bits_Len_rs) (funext (math_bits_Len_run N))
  rw [e]
  exact fun_ok (c := math_bits_Len_code) progOk (math_bits_Len_gok N) (draw_ok progOk (math_bits_Len_gok N)) Try.call161 Try.func161 (by kernel_rfl) (lsOk_at (L := []) trivial) (by kernel_rfl) (by kernel_rfl) (by kernel_rfl) (by kernel_rfl) (by kernel_rfl)
end Go.Proofs.Ythkejedgfhjdiaa
