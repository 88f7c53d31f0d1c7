/- Functions of the program as functions on data. -/
import Derived.Test.YtfbkjgeaoafejaaParitySpaceTa
set_option linter.all false
namespace Go.Proofs.Ytfbkjgeaoafejaa
open Go Go.PV
/-! ### laws_szIntS -/
abbrev laws_szIntS_ps : List (PV.Mode × Ty) := [(.ro, LI), (.ro, I)]
abbrev laws_szIntS_rs : List (Bool × Ty) := [(true, I)]
noncomputable def laws_szIntS_G (N : Nat) : GTab := gOf []
theorem laws_szIntS_gok (N : Nat) : GOk Try.prog (laws_szIntS_G N) := gOf_ok trivial
noncomputable def laws_szIntS_code : Code := (Try.f110.body).getD .skip
noncomputable def laws_szIntS (N : Nat) (a : (List Int)) (left : Int) : Option ((Int × Unit) × (Unit)) :=
  (br (ilt (IntKind.i64.wrap (left - (tLen a))) 0)
    (some (((-1), ()), ()))
    (some (((IntKind.i64.wrap (left - (tLen a))), ()), ())))
noncomputable def laws_szIntS_S (N : Nat) : FSum := ⟨laws_szIntS_ps, laws_szIntS_rs, fun x => laws_szIntS N x.1 x.2.1⟩
theorem laws_szIntS_run (N : Nat) (x : argsT laws_szIntS_ps) : laws_szIntS N x.1 x.2.1 = funF (laws_szIntS_G N) tab [] Try.f110 laws_szIntS_ps laws_szIntS_rs x := by kernel_rfl
theorem laws_szIntS_pc (N : Nat) : PC Try.prog 110 (laws_szIntS_S N) := by
  have e : laws_szIntS_S N = ⟨laws_szIntS_ps, laws_szIntS_rs, funF (laws_szIntS_G N) tab [] Try.f110 laws_szIntS_ps laws_szIntS_rs⟩ := congrArg (FSum.mk laws_szIntS_ps laws_szIntS_rs) (funext (laws_szIntS_run N))
  rw [e]
  exact fun_ok (c := laws_szIntS_code) progOk (laws_szIntS_gok N) (draw_ok progOk (laws_szIntS_gok N)) Try.call110 Try.func110 (by kernel_rfl) (lsOk_at (L := []) trivial) (by kernel_rfl) (by kernel_rfl) (by kernel_rfl) (by kernel_rfl) (by kernel_rfl)

/-! ### laws_szIntSS -/
abbrev laws_szIntSS_ps : List (PV.Mode × Ty) := [(.ro, LLI), (.ro, I)]
abbrev laws_szIntSS_rs : List (Bool × Ty) := [(true, I)]
noncomputable def laws_szIntSS_G (N : Nat) : GTab := gOf [(110, laws_szIntS_S N)]
theorem laws_szIntSS_gok (N : Nat) : GOk Try.prog (laws_szIntSS_G N) := gOf_ok ⟨laws_szIntS_pc N, trivial⟩
noncomputable def laws_szIntSS_code : Code := (Try.f102.body).getD .skip
noncomputable def laws_szIntSS_l0_sh : Sh := ⟨[(0, .one (.ro LLI)), (1, .one (.ro I)), (5, .one (.ro I))], []⟩
noncomputable def laws_szIntSS_l0_ex : List (Ex × Sh) := [(.ret, ⟨[(4, .one (.ro I))], []⟩), (.exit 0, ⟨[(1, .one (.ro I))], []⟩)]
noncomputable def laws_szIntSS_l0 {R : Type} (N : Nat) (k0 : Int → Option R) (k1 : Int → Option R) : Nat → (List (List Int)) → Int → Int → Option R
  | 0, _, _, _ => none
  | K + 1, a1, left1, i =>
    (br (ilt i (tLen a1))
      ((chk (inb a1 i)
        ((laws_szIntS N (rdL a1 i) left1).bind fun r =>
        (br (ilt r.1.1 0)
          (k0 (-1))
          (laws_szIntSS_l0 N k0 k1 K a1 r.1.1 (IntKind.i64.wrap (i + 1)))))))
      (k1 left1))
noncomputable def laws_szIntSS_l0_again {R : Type} (N : Nat) (ks : (j : Nat) → ((laws_szIntSS_l0_ex.getD j (.ret, Sh.none)).2).T → Option R) (k : Nat) (x : laws_szIntSS_l0_sh.T) : Option R :=
  laws_szIntSS_l0 N (fun y0 => ks 0 ((y0, ()), ())) (fun y0 => ks 1 ((y0, ()), ())) k x.1.1 x.1.2.1 x.1.2.2.1
noncomputable def laws_szIntSS_l0_s (N : Nat) : LSum := ⟨laws_szIntSS_l0_sh, laws_szIntSS_l0_ex, fun x ks => laws_szIntSS_l0_again N ks N x⟩
theorem laws_szIntSS_l0_step (N : Nat) (R : Type) (k : Nat) (x : laws_szIntSS_l0_sh.T) (ks : (j : Nat) → ((laws_szIntSS_l0_ex.getD j (.ret, Sh.none)).2).T → Option R) : laws_szIntSS_l0_again N ks (k + 1) x = roundF (laws_szIntSS_G N) tab [] (loopAt laws_szIntSS_code 0) laws_szIntSS_l0_sh laws_szIntSS_l0_ex (fun y => laws_szIntSS_l0_again N ks k y) ks x := by kernel_rfl
theorem laws_szIntSS_l0_ok (N : Nat) : LoopOk Try.prog Try.f102.ntmps (laws_szIntSS_l0_s N) (loopAt laws_szIntSS_code 0) :=
  loop_ok (l := laws_szIntSS_l0_s N) progOk (laws_szIntSS_gok N) (draw_ok progOk (laws_szIntSS_gok N)) (fun R k x ks => laws_szIntSS_l0_again N ks k x) (fun _ _ _ => rfl) (fun R k x ks => laws_szIntSS_l0_step N R k x ks) (fun R x ks r h => ⟨N, h⟩) (lsOk_at (L := []) trivial) (by kernel_rfl) (by kernel_rfl)
noncomputable def laws_szIntSS (N : Nat) (a : (List (List Int))) (left : Int) : Option ((Int × Unit) × (Unit)) :=
  (br (ilt (IntKind.i64.wrap (left - (tLen a))) 0)
    (some (((-1), ()), ()))
    (laws_szIntSS_l0 N (fun x => some ((x, ()), ())) (fun left1 => some ((left1, ()), ())) N a (IntKind.i64.wrap (left - (tLen a))) 0))
noncomputable def laws_szIntSS_S (N : Nat) : FSum := ⟨laws_szIntSS_ps, laws_szIntSS_rs, fun x => laws_szIntSS N x.1 x.2.1⟩
theorem laws_szIntSS_run (N : Nat) (x : argsT laws_szIntSS_ps) : laws_szIntSS N x.1 x.2.1 = funF (laws_szIntSS_G N) tab [laws_szIntSS_l0_s N] Try.f102 laws_szIntSS_ps laws_szIntSS_rs x := by kernel_rfl
theorem laws_szIntSS_pc (N : Nat) : PC Try.prog 102 (laws_szIntSS_S N) := by
  have e : laws_szIntSS_S N = ⟨laws_szIntSS_ps, laws_szIntSS_rs, funF (laws_szIntSS_G N) tab [laws_szIntSS_l0_s N] Try.f102 laws_szIntSS_ps laws_szIntSS_rs⟩ := congrArg (FSum.mk laws_szIntSS_ps laws_szIntSS_rs) (funext (laws_szIntSS_run N))
  rw [e]
  exact fun_ok (c := laws_szIntSS_code) progOk (laws_szIntSS_gok N) (draw_ok progOk (laws_szIntSS_gok N)) Try.call102 Try.func102 (by kernel_rfl) (lsOk_at (L := [laws_szIntSS_l0_s N]) ⟨laws_szIntSS_l0_ok N, trivial⟩) (by kernel_rfl) (by kernel_rfl) (by kernel_rfl) (by kernel_rfl) (by kernel_rfl)

/-! ### laws_szParity -/
abbrev laws_szParity_ps : List (PV.Mode × Ty) := [(.ro, QIQLLILI), (.ro, I)]
abbrev laws_szParity_rs : List (Bool × Ty) := [(true, I)]
noncomputable def laws_szParity_G (N : Nat) : GTab := gOf [(102, laws_szIntSS_S N), (110, laws_szIntS_S N)]
theorem laws_szParity_gok (N : Nat) : GOk Try.prog (laws_szParity_G N) := gOf_ok ⟨laws_szIntSS_pc N, laws_szIntS_pc N, trivial⟩
noncomputable def laws_szParity_code : Code := (Try.f49.body).getD .skip
noncomputable def laws_szParity (N : Nat) (a : (Int × ((List (List Int)) × (List Int)))) (left : Int) : Option ((Int × Unit) × (Unit)) :=
  ((laws_szIntSS N a.2.1 left).bind fun r =>
    (br (ilt r.1.1 0)
      (some (((-1), ()), ()))
      (((laws_szIntS N a.2.2 r.1.1).bind fun r1 =>
        (br (ilt r1.1.1 0)
          (some (((-1), ()), ()))
          (some ((r1.1.1, ()), ())))))))
noncomputable def laws_szParity_S (N : Nat) : FSum := ⟨laws_szParity_ps, laws_szParity_rs, fun x => laws_szParity N x.1 x.2.1⟩
theorem laws_szParity_run (N : Nat) (x : argsT laws_szParity_ps) : laws_szParity N x.1 x.2.1 = funF (laws_szParity_G N) tab [] Try.f49 laws_szParity_ps laws_szParity_rs x := by kernel_rfl
theorem laws_szParity_pc (N : Nat) : PC Try.prog 49 (laws_szParity_S N) := by
  have e : laws_szParity_S N = ⟨laws_szParity_ps, laws_szParity_rs, funF (laws_szParity_G N) tab [] Try.f49 laws_szParity_ps laws_szParity_rs⟩ := congrArg (FSum.mk laws_szParity_ps laws_szParity_rs) (funext (laws_szParity_run N))
  rw [e]
  exact fun_ok (c := laws_szParity_code) progOk (laws_szParity_gok N) (draw_ok progOk (laws_szParity_gok N)) Try.call49 Try.func49 (by kernel_rfl) (lsOk_at (L := []) trivial) (by kernel_rfl) (by kernel_rfl) (by kernel_rfl) (by kernel_rfl) (by kernel_rfl)

/-! ### laws_toIntS -/
abbrev laws_toIntS_ps : List (PV.Mode × Ty) := [(.ro, LI)]
abbrev laws_toIntS_rs : List (Bool × Ty) := [(true, LI)]
noncomputable def laws_toIntS_G (N : Nat) : GTab := gOf []
theorem laws_toIntS_gok (N : Nat) : GOk Try.prog (laws_toIntS_G N) := gOf_ok trivial
noncomputable def laws_toIntS_code : Code := (Try.f33.body).getD .skip
noncomputable def laws_toIntS_l0_sh : Sh := ⟨[(0, .one (.ro LI)), (3, .one (.ref 0)), (4, .one (.ro I))], [.sl 3 I .own]⟩
noncomputable def laws_toIntS_l0_ex : List (Ex × Sh) := [(.exit 0, ⟨[(3, .one (.ref 0))], [.sl 3 I .own]⟩)]
noncomputable def laws_toIntS_l0 {R : Type} (N : Nat) (k0 : (List Int) → Option R) : Nat → (List Int) → Int → (List Int) → Option R
  | 0, _, _, _ => none
  | K + 1, a1, i, o =>
    (br (ilt i (tLen a1))
      ((chk (inb a1 i)
        (chk (inb o i)
        (laws_toIntS_l0 N k0 K a1 (IntKind.i64.wrap (i + 1)) (tSet o i (rdI a1 i))))))
      (k0 o))
noncomputable def laws_toIntS_l0_again {R : Type} (N : Nat) (ks : (j : Nat) → ((laws_toIntS_l0_ex.getD j (.ret, Sh.none)).2).T → Option R) (k : Nat) (x : laws_toIntS_l0_sh.T) : Option R :=
  laws_toIntS_l0 N (fun y0 => ks 0 (((), ()), (y0, ()))) k x.1.1 x.1.2.2.1 x.2.1
noncomputable def laws_toIntS_l0_s (N : Nat) : LSum := ⟨laws_toIntS_l0_sh, laws_toIntS_l0_ex, fun x ks => laws_toIntS_l0_again N ks N x⟩
theorem laws_toIntS_l0_step (N : Nat) (R : Type) (k : Nat) (x : laws_toIntS_l0_sh.T) (ks : (j : Nat) → ((laws_toIntS_l0_ex.getD j (.ret, Sh.none)).2).T → Option R) : laws_toIntS_l0_again N ks (k + 1) x = roundF (laws_toIntS_G N) tab [] (loopAt laws_toIntS_code 0) laws_toIntS_l0_sh laws_toIntS_l0_ex (fun y => laws_toIntS_l0_again N ks k y) ks x := by kernel_rfl
theorem laws_toIntS_l0_ok (N : Nat) : LoopOk Try.prog Try.f33.ntmps (laws_toIntS_l0_s N) (loopAt laws_toIntS_code 0) :=
  loop_ok (l := laws_toIntS_l0_s N) progOk (laws_toIntS_gok N) (draw_ok progOk (laws_toIntS_gok N)) (fun R k x ks => laws_toIntS_l0_again N ks k x) (fun _ _ _ => rfl) (fun R k x ks => laws_toIntS_l0_step N R k x ks) (fun R x ks r h => ⟨N, h⟩) (lsOk_at (L := []) trivial) (by kernel_rfl) (by kernel_rfl)
noncomputable def laws_toIntS (N : Nat) (a : (List Int)) : Option (((List Int) × Unit) × (Unit)) :=
  (chk (ile 0 (tLen a) && ile (tLen a) (tLen a) && fits (tLen a))
    (laws_toIntS_l0 N (fun o => some ((o, ()), ())) N a 0 (tRep (tLen a) (0 : Int))))
noncomputable def laws_toIntS_S (N : Nat) : FSum := ⟨laws_toIntS_ps, laws_toIntS_rs, fun x => laws_toIntS N x.1⟩
theorem laws_toIntS_run (N : Nat) (x : argsT laws_toIntS_ps) : laws_toIntS N x.1 = funF (laws_toIntS_G N) tab [laws_toIntS_l0_s N] Try.f33 laws_toIntS_ps laws_toIntS_rs x := by kernel_rfl
theorem laws_toIntS_pc (N : Nat) : PC Try.prog 33 (laws_toIntS_S N) := by
  have e : laws_toIntS_S N = ⟨laws_toIntS_ps, laws_toIntS_rs, funF (laws_toIntS_G N) tab [laws_toIntS_l0_s N] Try.f33 laws_toIntS_ps laws_toIntS_rs⟩ := congrArg (FSum.mk laws_toIntS_ps laws_toIntS_rs) (funext (laws_toIntS_run N))
  rw [e]
  exact fun_ok (c := laws_toIntS_code) progOk (laws_toIntS_gok N) (draw_ok progOk (laws_toIntS_gok N)) Try.call33 Try.func33 (by kernel_rfl) (lsOk_at (L := [laws_toIntS_l0_s N]) ⟨laws_toIntS_l0_ok N, trivial⟩) (by kernel_rfl) (by kernel_rfl) (by kernel_rfl) (by kernel_rfl) (by kernel_rfl)

/-! ### laws_toIntSS -/
abbrev laws_toIntSS_ps : List (PV.Mode × Ty) := [(.ro, LLI)]
abbrev laws_toIntSS_rs : List (Bool × Ty) := [(true, LLI)]
noncomputable def laws_toIntSS_G (N : Nat) : GTab := gOf [(33, laws_toIntS_S N)]
theorem laws_toIntSS_gok (N : Nat) : GOk Try.prog (laws_toIntSS_G N) := gOf_ok ⟨laws_toIntS_pc N, trivial⟩
noncomputable def laws_toIntSS_code : Code := (Try.f106.body).getD .skip
noncomputable def laws_toIntSS_l0_sh : Sh := ⟨[(0, .one (.ro LLI)), (3, .one (.ref 0)), (4, .one (.ro I))], [.sl 42 LI .deep]⟩
noncomputable def laws_toIntSS_l0_ex : List (Ex × Sh) := [(.exit 0, ⟨[(3, .one (.ref 0))], [.sl 42 LI .deep]⟩)]
noncomputable def laws_toIntSS_l0 {R : Type} (N : Nat) (k0 : (List (List Int)) → Option R) : Nat → (List (List Int)) → Int → (List (List Int)) → Option R
  | 0, _, _, _ => none
  | K + 1, a1, i, o =>
    (br (ilt i (tLen a1))
      ((chk (inb a1 i)
        ((laws_toIntS N (rdL a1 i)).bind fun r =>
        (chk (inb o i)
          (laws_toIntSS_l0 N k0 K a1 (IntKind.i64.wrap (i + 1)) (tSet o i r.1.1))))))
      (k0 o))
noncomputable def laws_toIntSS_l0_again {R : Type} (N : Nat) (ks : (j : Nat) → ((laws_toIntSS_l0_ex.getD j (.ret, Sh.none)).2).T → Option R) (k : Nat) (x : laws_toIntSS_l0_sh.T) : Option R :=
  laws_toIntSS_l0 N (fun y0 => ks 0 (((), ()), (y0, ()))) k x.1.1 x.1.2.2.1 x.2.1
noncomputable def laws_toIntSS_l0_s (N : Nat) : LSum := ⟨laws_toIntSS_l0_sh, laws_toIntSS_l0_ex, fun x ks => laws_toIntSS_l0_again N ks N x⟩
theorem laws_toIntSS_l0_step (N : Nat) (R : Type) (k : Nat) (x : laws_toIntSS_l0_sh.T) (ks : (j : Nat) → ((laws_toIntSS_l0_ex.getD j (.ret, Sh.none)).2).T → Option R) : laws_toIntSS_l0_again N ks (k + 1) x = roundF (laws_toIntSS_G N) tab [] (loopAt laws_toIntSS_code 0) laws_toIntSS_l0_sh laws_toIntSS_l0_ex (fun y => laws_toIntSS_l0_again N ks k y) ks x := by kernel_rfl
theorem laws_toIntSS_l0_ok (N : Nat) : LoopOk Try.prog Try.f106.ntmps (laws_toIntSS_l0_s N) (loopAt laws_toIntSS_code 0) :=
  loop_ok (l := laws_toIntSS_l0_s N) progOk (laws_toIntSS_gok N) (draw_ok progOk (laws_toIntSS_gok N)) (fun R k x ks => laws_toIntSS_l0_again N ks k x) (fun _ _ _ => rfl) (fun R k x ks => laws_toIntSS_l0_step N R k x ks) (fun R x ks r h => ⟨N, h⟩) (lsOk_at (L := []) trivial) (by kernel_rfl) (by kernel_rfl)
noncomputable def laws_toIntSS (N : Nat) (a : (List (List Int))) : Option (((List (List Int)) × Unit) × (Unit)) :=
  (chk (ile 0 (tLen a) && ile (tLen a) (tLen a) && fits (tLen a))
    (laws_toIntSS_l0 N (fun o => some ((o, ()), ())) N a 0 (tRep (tLen a) [])))
noncomputable def laws_toIntSS_S (N : Nat) : FSum := ⟨laws_toIntSS_ps, laws_toIntSS_rs, fun x => laws_toIntSS N x.1⟩
theorem laws_toIntSS_run (N : Nat) (x : argsT laws_toIntSS_ps) : laws_toIntSS N x.1 = funF (laws_toIntSS_G N) tab [laws_toIntSS_l0_s N] Try.f106 laws_toIntSS_ps laws_toIntSS_rs x := by kernel_rfl
theorem laws_toIntSS_pc (N : Nat) : PC Try.prog 106 (laws_toIntSS_S N) := by
  have e : laws_toIntSS_S N = ⟨laws_toIntSS_ps, laws_toIntSS_rs, funF (laws_toIntSS_G N) tab [laws_toIntSS_l0_s N] Try.f106 laws_toIntSS_ps laws_toIntSS_rs⟩ := congrArg (FSum.mk laws_toIntSS_ps laws_toIntSS_rs) (funext (laws_toIntSS_run N))
  rw [e]
  exact fun_ok (c := laws_toIntSS_code) progOk (laws_toIntSS_gok N) (draw_ok progOk (laws_toIntSS_gok N)) Try.call106 Try.func106 (by kernel_rfl) (lsOk_at (L := [laws_toIntSS_l0_s N]) ⟨laws_toIntSS_l0_ok N, trivial⟩) (by kernel_rfl) (by kernel_rfl) (by kernel_rfl) (by kernel_rfl) (by kernel_rfl)

/-! ### laws_toParity -/
abbrev laws_toParity_ps : List (PV.Mode × Ty) := [(.ro, QIQLLILI)]
abbrev laws_toParity_rs : List (Bool × Ty) := [(true, QIQLLILI)]
noncomputable def laws_toParity_G (N : Nat) : GTab := gOf [(106, laws_toIntSS_S N), (33, laws_toIntS_S N)]
theorem laws_toParity_gok (N : Nat) : GOk Try.prog (laws_toParity_G N) := gOf_ok ⟨laws_toIntSS_pc N, laws_toIntS_pc N, trivial⟩
noncomputable def laws_toParity_code : Code := (Try.f51.body).getD .skip
noncomputable def laws_toParity (N : Nat) (a : (Int × ((List (List Int)) × (List Int)))) : Option (((Int × ((List (List Int)) × (List Int))) × Unit) × (Unit)) :=
  ((laws_toIntSS N a.2.1).bind fun r =>
    ((laws_toIntS N a.2.2).bind fun r1 =>
      some (((a.1, (r.1.1, r1.1.1)), ()), ())))
noncomputable def laws_toParity_S (N : Nat) : FSum := ⟨laws_toParity_ps, laws_toParity_rs, fun x => laws_toParity N x.1⟩
theorem laws_toParity_run (N : Nat) (x : argsT laws_toParity_ps) : laws_toParity N x.1 = funF (laws_toParity_G N) tab [] Try.f51 laws_toParity_ps laws_toParity_rs x := by kernel_rfl
theorem laws_toParity_pc (N : Nat) : PC Try.prog 51 (laws_toParity_S N) := by
  have e : laws_toParity_S N = ⟨laws_toParity_ps, laws_toParity_rs, funF (laws_toParity_G N) tab [] Try.f51 laws_toParity_ps laws_toParity_rs⟩ := congrArg (FSum.mk laws_toParity_ps laws_toParity_rs) (funext (laws_toParity_run N))
  rw [e]
  exact fun_ok (c := laws_toParity_code) progOk (laws_toParity_gok N) (draw_ok progOk (laws_toParity_gok N)) Try.call51 Try.func51 (by kernel_rfl) (lsOk_at (L := []) trivial) (by kernel_rfl) (by kernel_rfl) (by kernel_rfl) (by kernel_rfl) (by kernel_rfl)

/-! ### spec_l1In -/
abbrev spec_l1In_ps : List (PV.Mode × Ty) := [(.ro, I), (.ro, I), (.ro, I)]
abbrev spec_l1In_rs : List (Bool × Ty) := [(true, .bool)]
noncomputable def spec_l1In_G (N : Nat) : GTab := gOf []
theorem spec_l1In_gok (N : Nat) : GOk Try.prog (spec_l1In_G N) := gOf_ok trivial
noncomputable def spec_l1In_code : Code := (Try.f145.body).getD .skip
noncomputable def spec_l1In (N : Nat) (x : Int) (a : Int) (b : Int) : Option ((Bool × Unit) × (Unit)) :=
  (br (ile a x)
    (some (((ile x b), ()), ()))
    (some ((false, ()), ())))
noncomputable def spec_l1In_S (N : Nat) : FSum := ⟨spec_l1In_ps, spec_l1In_rs, fun x => spec_l1In N x.1 x.2.1 x.2.2.1⟩
theorem spec_l1In_run (N : Nat) (x : argsT spec_l1In_ps) : spec_l1In N x.1 x.2.1 x.2.2.1 = funF (spec_l1In_G N) tab [] Try.f145 spec_l1In_ps spec_l1In_rs x := by kernel_rfl
theorem spec_l1In_pc (N : Nat) : PC Try.prog 145 (spec_l1In_S N) := by
  have e : spec_l1In_S N = ⟨spec_l1In_ps, spec_l1In_rs, funF (spec_l1In_G N) tab [] Try.f145 spec_l1In_ps spec_l1In_rs⟩ := congrArg (FSum.mk spec_l1In_ps spec_l1In_rs) (funext (spec_l1In_run N))
  rw [e]
  exact fun_ok (c := spec_l1In_code) progOk (spec_l1In_gok N) (draw_ok progOk (spec_l1In_gok N)) Try.call145 Try.func145 (by kernel_rfl) (lsOk_at (L := []) trivial) (by kernel_rfl) (by kernel_rfl) (by kernel_rfl) (by kernel_rfl) (by kernel_rfl)

/-! ### spec_l1Rising -/
abbrev spec_l1Rising_ps : List (PV.Mode × Ty) := [(.ro, LI), (.ro, I), (.ro, I)]
abbrev spec_l1Rising_rs : List (Bool × Ty) := [(true, .bool)]
noncomputable def spec_l1Rising_G (N : Nat) : GTab := gOf [(145, spec_l1In_S N)]
theorem spec_l1Rising_gok (N : Nat) : GOk Try.prog (spec_l1Rising_G N) := gOf_ok ⟨spec_l1In_pc N, trivial⟩
noncomputable def spec_l1Rising_code : Code := (Try.f172.body).getD .skip
noncomputable def spec_l1Rising_l0_sh : Sh := ⟨[(0, .one (.ro LI)), (1, .one (.ro I)), (2, .one (.ro I)), (7, .one (.ro I))], []⟩
noncomputable def spec_l1Rising_l0_ex : List (Ex × Sh) := [(.ret, ⟨[(6, .one (.ro .bool))], []⟩), (.exit 0, ⟨[], []⟩)]
noncomputable def spec_l1Rising_l0 {R : Type} (N : Nat) (k0 : Bool → Option R) (k1 : Unit → Option R) : Nat → (List Int) → Int → Int → Int → Option R
  | 0, _, _, _, _ => none
  | K + 1, l1, lo1, hi1, i =>
    (br (ilt i (tLen l1))
      ((chk (inb l1 i)
        ((spec_l1In N (rdI l1 i) lo1 hi1).bind fun r =>
        (br (!r.1.1)
          (k0 false)
          ((br (ilt 0 i)
            ((chk (inb l1 (IntKind.i64.wrap (i - 1)))
              (chk (inb l1 i)
              (br (ile (rdI l1 i) (rdI l1 (IntKind.i64.wrap (i - 1))))
              (k0 false)
              (spec_l1Rising_l0 N k0 k1 K l1 lo1 hi1 (IntKind.i64.wrap (i + 1)))))))
            (spec_l1Rising_l0 N k0 k1 K l1 lo1 hi1 (IntKind.i64.wrap (i + 1)))))))))
      (k1 ()))
noncomputable def spec_l1Rising_l0_again {R : Type} (N : Nat) (ks : (j : Nat) → ((spec_l1Rising_l0_ex.getD j (.ret, Sh.none)).2).T → Option R) (k : Nat) (x : spec_l1Rising_l0_sh.T) : Option R :=
  spec_l1Rising_l0 N (fun y0 => ks 0 ((y0, ()), ())) (fun (_ : Unit) => ks 1 ((), ())) k x.1.1 x.1.2.1 x.1.2.2.1 x.1.2.2.2.1
noncomputable def spec_l1Rising_l0_s (N : Nat) : LSum := ⟨spec_l1Rising_l0_sh, spec_l1Rising_l0_ex, fun x ks => spec_l1Rising_l0_again N ks N x⟩
theorem spec_l1Rising_l0_step (N : Nat) (R : Type) (k : Nat) (x : spec_l1Rising_l0_sh.T) (ks : (j : Nat) → ((spec_l1Rising_l0_ex.getD j (.ret, Sh.none)).2).T → Option R) : spec_l1Rising_l0_again N ks (k + 1) x = roundF (spec_l1Rising_G N) tab [] (loopAt spec_l1Rising_code 0) spec_l1Rising_l0_sh spec_l1Rising_l0_ex (fun y => spec_l1Rising_l0_again N ks k y) ks x := by kernel_rfl
theorem spec_l1Rising_l0_ok (N : Nat) : LoopOk Try.prog Try.f172.ntmps (spec_l1Rising_l0_s N) (loopAt spec_l1Rising_code 0) :=
  loop_ok (l := spec_l1Rising_l0_s N) progOk (spec_l1Rising_gok N) (draw_ok progOk (spec_l1Rising_gok N)) (fun R k x ks => spec_l1Rising_l0_again N ks k x) (fun _ _ _ => rfl) (fun R k x ks => spec_l1Rising_l0_step N R k x ks) (fun R x ks r h => ⟨N, h⟩) (lsOk_at (L := []) trivial) (by kernel_rfl) (by kernel_rfl)
noncomputable def spec_l1Rising (N : Nat) (l : (List Int)) (lo : Int) (hi : Int) : Option ((Bool × Unit) × (Unit)) :=
  spec_l1Rising_l0 N (fun x => some ((x, ()), ())) (fun (_ : Unit) => some ((true, ()), ())) N l lo hi 0
noncomputable def spec_l1Rising_S (N : Nat) : FSum := ⟨spec_l1Rising_ps, spec_l1Rising_rs, fun x => spec_l1Rising N x.1 x.2.1 x.2.2.1⟩
theorem spec_l1Rising_run (N : Nat) (x : argsT spec_l1Rising_ps) : spec_l1Rising N x.1 x.2.1 x.2.2.1 = funF (spec_l1Rising_G N) tab [spec_l1Rising_l0_s N] Try.f172 spec_l1Rising_ps spec_l1Rising_rs x := by kernel_rfl
theorem spec_l1Rising_pc (N : Nat) : PC Try.prog 172 (spec_l1Rising_S N) := by
  have e : spec_l1Rising_S N = ⟨spec_l1Rising_ps, spec_l1Rising_rs, funF (spec_l1Rising_G N) tab [spec_l1Rising_l0_s N] Try.f172 spec_l1Rising_ps spec_l1Rising_rs⟩ := congrArg (FSum.mk spec_l1Rising_ps spec_l1Rising_rs) (funext (spec_l1Rising_run N))
  rw [e]
  exact fun_ok (c := spec_l1Rising_code) progOk (spec_l1Rising_gok N) (draw_ok progOk (spec_l1Rising_gok N)) Try.call172 Try.func172 (by kernel_rfl) (lsOk_at (L := [spec_l1Rising_l0_s N]) ⟨spec_l1Rising_l0_ok N, trivial⟩) (by kernel_rfl) (by kernel_rfl) (by kernel_rfl) (by kernel_rfl) (by kernel_rfl)

/-! ### spec_l6Bits -/
abbrev spec_l6Bits_ps : List (PV.Mode × Ty) := [(.ro, I), (.ro, LI)]
abbrev spec_l6Bits_rs : List (Bool × Ty) := [(true, .bool)]
noncomputable def spec_l6Bits_G (N : Nat) : GTab := gOf [(145, spec_l1In_S N)]
theorem spec_l6Bits_gok (N : Nat) : GOk Try.prog (spec_l6Bits_G N) := gOf_ok ⟨spec_l1In_pc N, trivial⟩
noncomputable def spec_l6Bits_code : Code := (Try.f173.body).getD .skip
noncomputable def spec_l6Bits_l0_sh : Sh := ⟨[(0, .one (.ro I)), (1, .one (.ro LI)), (5, .one (.ro I))], []⟩
noncomputable def spec_l6Bits_l0_ex : List (Ex × Sh) := [(.ret, ⟨[(4, .one (.ro .bool))], []⟩), (.exit 0, ⟨[(0, .one (.ro I)), (1, .one (.ro LI))], []⟩)]
noncomputable def spec_l6Bits_l0 {R : Type} (N : Nat) (k0 : Bool → Option R) (k1 : Int → (List Int) → Option R) : Nat → Int → (List Int) → Int → Option R
  | 0, _, _, _ => none
  | K + 1, vars1, bits1, i =>
    (br (ilt i (tLen bits1))
      ((chk (inb bits1 i)
        ((spec_l1In N (rdI bits1 i) 0 1).bind fun r =>
        (br (!r.1.1)
          (k0 false)
          (spec_l6Bits_l0 N k0 k1 K vars1 bits1 (IntKind.i64.wrap (i + 1)))))))
      (k1 vars1 bits1))
noncomputable def spec_l6Bits_l0_again {R : Type} (N : Nat) (ks : (j : Nat) → ((spec_l6Bits_l0_ex.getD j (.ret, Sh.none)).2).T → Option R) (k : Nat) (x : spec_l6Bits_l0_sh.T) : Option R :=
  spec_l6Bits_l0 N (fun y0 => ks 0 ((y0, ()), ())) (fun y0 y1 => ks 1 ((y0, y1, ()), ())) k x.1.1 x.1.2.1 x.1.2.2.1
noncomputable def spec_l6Bits_l0_s (N : Nat) : LSum := ⟨spec_l6Bits_l0_sh, spec_l6Bits_l0_ex, fun x ks => spec_l6Bits_l0_again N ks N x⟩
theorem spec_l6Bits_l0_step (N : Nat) (R : Type) (k : Nat) (x : spec_l6Bits_l0_sh.T) (ks : (j : Nat) → ((spec_l6Bits_l0_ex.getD j (.ret, Sh.none)).2).T → Option R) : spec_l6Bits_l0_again N ks (k + 1) x = roundF (spec_l6Bits_G N) tab [] (loopAt spec_l6Bits_code 0) spec_l6Bits_l0_sh spec_l6Bits_l0_ex (fun y => spec_l6Bits_l0_again N ks k y) ks x := by kernel_rfl
theorem spec_l6Bits_l0_ok (N : Nat) : LoopOk Try.prog Try.f173.ntmps (spec_l6Bits_l0_s N) (loopAt spec_l6Bits_code 0) :=
  loop_ok (l := spec_l6Bits_l0_s N) progOk (spec_l6Bits_gok N) (draw_ok progOk (spec_l6Bits_gok N)) (fun R k x ks => spec_l6Bits_l0_again N ks k x) (fun _ _ _ => rfl) (fun R k x ks => spec_l6Bits_l0_step N R k x ks) (fun R x ks r h => ⟨N, h⟩) (lsOk_at (L := []) trivial) (by kernel_rfl) (by kernel_rfl)
noncomputable def spec_l6Bits (N : Nat) (vars : Int) (bits : (List Int)) : Option ((Bool × Unit) × (Unit)) :=
  spec_l6Bits_l0 N (fun x => some ((x, ()), ())) (fun vars1 bits1 => some (((ieq (tLen bits1) vars1), ()), ())) N vars bits 0
noncomputable def spec_l6Bits_S (N : Nat) : FSum := ⟨spec_l6Bits_ps, spec_l6Bits_rs, fun x => spec_l6Bits N x.1 x.2.1⟩
theorem spec_l6Bits_run (N : Nat) (x : argsT spec_l6Bits_ps) : spec_l6Bits N x.1 x.2.1 = funF (spec_l6Bits_G N) tab [spec_l6Bits_l0_s N] Try.f173 spec_l6Bits_ps spec_l6Bits_rs x := by kernel_rfl
theorem spec_l6Bits_pc (N : Nat) : PC Try.prog 173 (spec_l6Bits_S N) := by
  have e : spec_l6Bits_S N = ⟨spec_l6Bits_ps, spec_l6Bits_rs, funF (spec_l6Bits_G N) tab [spec_l6Bits_l0_s N] Try.f173 spec_l6Bits_ps spec_l6Bits_rs⟩ := congrArg (FSum.mk spec_l6Bits_ps spec_l6Bits_rs) (funext (spec_l6Bits_run N))
  rw [e]
  exact fun_ok (c := spec_l6Bits_code) progOk (spec_l6Bits_gok N) (draw_ok progOk (spec_l6Bits_gok N)) Try.call173 Try.func173 (by kernel_rfl) (lsOk_at (L := [spec_l6Bits_l0_s N]) ⟨spec_l6Bits_l0_ok N, trivial⟩) (by kernel_rfl) (by kernel_rfl) (by kernel_rfl) (by kernel_rfl) (by kernel_rfl)

/-! ### spec_l6Parity -/
abbrev spec_l6Parity_ps : List (PV.Mode × Ty) := [(.ro, QIQLLILI)]
abbrev spec_l6Parity_rs : List (Bool × Ty) := [(true, .bool)]
noncomputable def spec_l6Parity_G (N : Nat) : GTab := gOf [(172, spec_l1Rising_S N), (145, spec_l1In_S N), (173, spec_l6Bits_S N)]
theorem spec_l6Parity_gok (N : Nat) : GOk Try.prog (spec_l6Parity_G N) := gOf_ok ⟨spec_l1Rising_pc N, spec_l1In_pc N, spec_l6Bits_pc N, trivial⟩
noncomputable def spec_l6Parity_code : Code := (Try.f111.body).getD .skip
noncomputable def spec_l6Parity_l0_sh : Sh := ⟨[(1, .one (.adr 0 0)), (3, .one (.ro I))], [.box [.ro I, .ro LLI, .ro LI]]⟩
noncomputable def spec_l6Parity_l0_ex : List (Ex × Sh) := [(.ret, ⟨[(2, .one (.ro .bool))], []⟩), (.exit 0, ⟨[(1, .one (.adr 0 0))], [.box [.ro I, .ro LLI, .ro LI]]⟩)]
noncomputable def spec_l6Parity_l0 {R : Type} (N : Nat) (k0 : Bool → Option R) (k1 : Int → (List (List Int)) → (List Int) → Option R) : Nat → Int → Int → (List (List Int)) → (List Int) → Option R
  | 0, _, _, _, _ => none
  | K + 1, i, o, o1, o2 =>
    (br (ilt i (tLen o1))
      ((chk (inb o1 i)
        ((spec_l1Rising N (rdL o1 i) 0 (IntKind.i64.wrap (o - 1))).bind fun r =>
        (br (!r.1.1)
          (k0 false)
          (spec_l6Parity_l0 N k0 k1 K (IntKind.i64.wrap (i + 1)) o o1 o2)))))
      (k1 o o1 o2))
noncomputable def spec_l6Parity_l0_again {R : Type} (N : Nat) (ks : (j : Nat) → ((spec_l6Parity_l0_ex.getD j (.ret, Sh.none)).2).T → Option R) (k : Nat) (x : spec_l6Parity_l0_sh.T) : Option R :=
  spec_l6Parity_l0 N (fun y0 => ks 0 ((y0, ()), ())) (fun y0 y1 y2 => ks 1 (((), ()), ((y0, y1, y2, ()), ()))) k x.1.2.1 x.2.1.1 x.2.1.2.1 x.2.1.2.2.1
noncomputable def spec_l6Parity_l0_s (N : Nat) : LSum := ⟨spec_l6Parity_l0_sh, spec_l6Parity_l0_ex, fun x ks => spec_l6Parity_l0_again N ks N x⟩
theorem spec_l6Parity_l0_step (N : Nat) (R : Type) (k : Nat) (x : spec_l6Parity_l0_sh.T) (ks : (j : Nat) → ((spec_l6Parity_l0_ex.getD j (.ret, Sh.none)).2).T → Option R) : spec_l6Parity_l0_again N ks (k + 1) x = roundF (spec_l6Parity_G N) tab [] (loopAt spec_l6Parity_code 0) spec_l6Parity_l0_sh spec_l6Parity_l0_ex (fun y => spec_l6Parity_l0_again N ks k y) ks x := by kernel_rfl
theorem spec_l6Parity_l0_ok (N : Nat) : LoopOk Try.prog Try.f111.ntmps (spec_l6Parity_l0_s N) (loopAt spec_l6Parity_code 0) :=
  loop_ok (l := spec_l6Parity_l0_s N) progOk (spec_l6Parity_gok N) (draw_ok progOk (spec_l6Parity_gok N)) (fun R k x ks => spec_l6Parity_l0_again N ks k x) (fun _ _ _ => rfl) (fun R k x ks => spec_l6Parity_l0_step N R k x ks) (fun R x ks r h => ⟨N, h⟩) (lsOk_at (L := []) trivial) (by kernel_rfl) (by kernel_rfl)
noncomputable def spec_l6Parity (N : Nat) (p : (Int × ((List (List Int)) × (List Int)))) : Option ((Bool × Unit) × (Unit)) :=
  spec_l6Parity_l0 N (fun x => some ((x, ()), ())) (fun o o1 o2 => ((spec_l1In N o 0 6).bind fun r =>
    (br r.1.1
      ((br (ile (tLen o1) 6)
        (((spec_l6Bits N (tLen o1) o2).bind fun r1 =>
          some ((r1.1.1, ()), ())))
        (some ((false, ()), ()))))
      (some ((false, ()), ()))))) N 0 p.1 p.2.1 p.2.2
noncomputable def spec_l6Parity_S (N : Nat) : FSum := ⟨spec_l6Parity_ps, spec_l6Parity_rs, fun x => spec_l6Parity N x.1⟩
theorem spec_l6Parity_run (N : Nat) (x : argsT spec_l6Parity_ps) : spec_l6Parity N x.1 = funF (spec_l6Parity_G N) tab [spec_l6Parity_l0_s N] Try.f111 spec_l6Parity_ps spec_l6Parity_rs x := by kernel_rfl
theorem spec_l6Parity_pc (N : Nat) : PC Try.prog 111 (spec_l6Parity_S N) := by
  have e : spec_l6Parity_S N = ⟨spec_l6Parity_ps, spec_l6Parity_rs, funF (spec_l6Parity_G N) tab [spec_l6Parity_l0_s N] Try.f111 spec_l6Parity_ps spec_l6Parity_rs⟩ := congrArg (FSum.mk spec_l6Parity_ps spec_l6Parity_rs) (funext (spec_l6Parity_run N))
  rw [e]
  exact fun_ok (c := spec_l6Parity_code) progOk (spec_l6Parity_gok N) (draw_ok progOk (spec_l6Parity_gok N)) Try.call111 Try.func111 (by kernel_rfl) (lsOk_at (L := [spec_l6Parity_l0_s N]) ⟨spec_l6Parity_l0_ok N, trivial⟩) (by kernel_rfl) (by kernel_rfl) (by kernel_rfl) (by kernel_rfl) (by kernel_rfl)

/-! ### spec_l6All -/
abbrev spec_l6All_ps : List (PV.Mode × Ty) := [(.ro, I)]
abbrev spec_l6All_rs : List (Bool × Ty) := [(false, LLI)]
noncomputable def spec_l6All_G (N : Nat) : GTab := gOf []
theorem spec_l6All_gok (N : Nat) : GOk Try.prog (spec_l6All_G N) := gOf_ok trivial
noncomputable def spec_l6All_code : Code := (Try.f169.body).getD .skip
noncomputable def spec_l6All_l0_0_sh : Sh := ⟨[(0, .one (.ro I)), (3, .one (.ref 0)), (4, .one (.ro I)), (5, .one (.ref 1)), (6, .one (.ro I))], [.sl 42 LI .deep, .sl 3 I .own]⟩
noncomputable def spec_l6All_l0_0_ex : List (Ex × Sh) := [(.exit 2, ⟨[(0, .one (.ro I)), (3, .one (.ref 0)), (4, .one (.ro I)), (5, .one (.ref 1))], [.sl 42 LI .deep, .sl 3 I .own]⟩)]
noncomputable def spec_l6All_l0_0 {R : Type} (N : Nat) (k0 : Int → Int → (List (List Int)) → (List Int) → Option R) : Nat → Int → Int → Int → (List (List Int)) → (List Int) → Option R
  | 0, _, _, _, _, _ => none
  | K + 1, vars2, code1, v, o1, o2 =>
    (br (ilt v vars2)
      ((chk (ile 0 (IntKind.i64.wrap ((IntKind.i64.wrap (vars2 - 1)) - v)))
        (chk (room o2 [(bitop .and .i64 (shrI .i64 code1 (IntKind.i64.wrap ((IntKind.i64.wrap (vars2 - 1)) - v))) 1)])
        (spec_l6All_l0_0 N k0 K vars2 code1 (IntKind.i64.wrap (v + 1)) o1 (tApp o2 [(bitop .and .i64 (shrI .i64 code1 (IntKind.i64.wrap ((IntKind.i64.wrap (vars2 - 1)) - v))) 1)])))))
      (k0 vars2 code1 o1 o2))
noncomputable def spec_l6All_l0_0_again {R : Type} (N : Nat) (ks : (j : Nat) → ((spec_l6All_l0_0_ex.getD j (.ret, Sh.none)).2).T → Option R) (k : Nat) (x : spec_l6All_l0_0_sh.T) : Option R :=
  spec_l6All_l0_0 N (fun y0 y1 y2 y3 => ks 0 ((y0, (), y1, (), ()), (y2, y3, ()))) k x.1.1 x.1.2.2.1 x.1.2.2.2.2.1 x.2.1 x.2.2.1
noncomputable def spec_l6All_l0_0_s (N : Nat) : LSum := ⟨spec_l6All_l0_0_sh, spec_l6All_l0_0_ex, fun x ks => spec_l6All_l0_0_again N ks N x⟩
theorem spec_l6All_l0_0_step (N : Nat) (R : Type) (k : Nat) (x : spec_l6All_l0_0_sh.T) (ks : (j : Nat) → ((spec_l6All_l0_0_ex.getD j (.ret, Sh.none)).2).T → Option R) : spec_l6All_l0_0_again N ks (k + 1) x = roundF (spec_l6All_G N) tab [] (loopAt (loopAt spec_l6All_code 0) 0) spec_l6All_l0_0_sh spec_l6All_l0_0_ex (fun y => spec_l6All_l0_0_again N ks k y) ks x := by kernel_rfl
theorem spec_l6All_l0_0_ok (N : Nat) : LoopOk Try.prog Try.f169.ntmps (spec_l6All_l0_0_s N) (loopAt (loopAt spec_l6All_code 0) 0) :=
  loop_ok (l := spec_l6All_l0_0_s N) progOk (spec_l6All_gok N) (draw_ok progOk (spec_l6All_gok N)) (fun R k x ks => spec_l6All_l0_0_again N ks k x) (fun _ _ _ => rfl) (fun R k x ks => spec_l6All_l0_0_step N R k x ks) (fun R x ks r h => ⟨N, h⟩) (lsOk_at (L := []) trivial) (by kernel_rfl) (by kernel_rfl)
noncomputable def spec_l6All_l0_sh : Sh := ⟨[(0, .one (.ro I)), (3, .one (.ref 0)), (4, .one (.ro I))], [.sl 42 LI .deep]⟩
noncomputable def spec_l6All_l0_ex : List (Ex × Sh) := [(.exit 0, ⟨[(3, .one (.ref 0))], [.sl 42 LI .deep]⟩)]
noncomputable def spec_l6All_l0 {R : Type} (N : Nat) (k0 : (List (List Int)) → Option R) : Nat → Int → Int → (List (List Int)) → Option R
  | 0, _, _, _ => none
  | K + 1, vars1, code, o =>
    (chk (ile 0 vars1)
      (br (ilt code (shlI .i64 1 vars1))
      (spec_l6All_l0_0 N (fun vars2 code1 o1 o2 => (chk (room o1 [o2])
        (spec_l6All_l0 N k0 K vars2 (IntKind.i64.wrap (code1 + 1)) (tApp o1 [o2])))) N vars1 code 0 o [])
      (k0 o)))
noncomputable def spec_l6All_l0_again {R : Type} (N : Nat) (ks : (j : Nat) → ((spec_l6All_l0_ex.getD j (.ret, Sh.none)).2).T → Option R) (k : Nat) (x : spec_l6All_l0_sh.T) : Option R :=
  spec_l6All_l0 N (fun y0 => ks 0 (((), ()), (y0, ()))) k x.1.1 x.1.2.2.1 x.2.1
noncomputable def spec_l6All_l0_s (N : Nat) : LSum := ⟨spec_l6All_l0_sh, spec_l6All_l0_ex, fun x ks => spec_l6All_l0_again N ks N x⟩
theorem spec_l6All_l0_step (N : Nat) (R : Type) (k : Nat) (x : spec_l6All_l0_sh.T) (ks : (j : Nat) → ((spec_l6All_l0_ex.getD j (.ret, Sh.none)).2).T → Option R) : spec_l6All_l0_again N ks (k + 1) x = roundF (spec_l6All_G N) tab [spec_l6All_l0_0_s N] (loopAt spec_l6All_code 0) spec_l6All_l0_sh spec_l6All_l0_ex (fun y => spec_l6All_l0_again N ks k y) ks x := by kernel_rfl
theorem spec_l6All_l0_ok (N : Nat) : LoopOk Try.prog Try.f169.ntmps (spec_l6All_l0_s N) (loopAt spec_l6All_code 0) :=
  loop_ok (l := spec_l6All_l0_s N) progOk (spec_l6All_gok N) (draw_ok progOk (spec_l6All_gok N)) (fun R k x ks => spec_l6All_l0_again N ks k x) (fun _ _ _ => rfl) (fun R k x ks => spec_l6All_l0_step N R k x ks) (fun R x ks r h => ⟨N, h⟩) (lsOk_at (L := [spec_l6All_l0_0_s N]) ⟨spec_l6All_l0_0_ok N, trivial⟩) (by kernel_rfl) (by kernel_rfl)
noncomputable def spec_l6All (N : Nat) (vars : Int) : Option (((List (List Int)) × Unit) × (Unit)) :=
  spec_l6All_l0 N (fun o => some ((o, ()), ())) N vars 0 []
noncomputable def spec_l6All_S (N : Nat) : FSum := ⟨spec_l6All_ps, spec_l6All_rs, fun x => spec_l6All N x.1⟩
theorem spec_l6All_run (N : Nat) (x : argsT spec_l6All_ps) : spec_l6All N x.1 = funF (spec_l6All_G N) tab [spec_l6All_l0_s N] Try.f169 spec_l6All_ps spec_l6All_rs x := by kernel_rfl
theorem spec_l6All_pc (N : Nat) : PC Try.prog 169 (spec_l6All_S N) := by
  have e : spec_l6All_S N = ⟨spec_l6All_ps, spec_l6All_rs, funF (spec_l6All_G N) tab [spec_l6All_l0_s N] Try.f169 spec_l6All_ps spec_l6All_rs⟩ := congrArg (FSum.mk spec_l6All_ps spec_l6All_rs) (funext (spec_l6All_run N))
  rw [e]
  exact fun_ok (c := spec_l6All_code) progOk (spec_l6All_gok N) (draw_ok progOk (spec_l6All_gok N)) Try.call169 Try.func169 (by kernel_rfl) (lsOk_at (L := [spec_l6All_l0_s N]) ⟨spec_l6All_l0_ok N, trivial⟩) (by kernel_rfl) (by kernel_rfl) (by kernel_rfl) (by kernel_rfl) (by kernel_rfl)

/-! ### spec_l6Even -/
abbrev spec_l6Even_ps : List (PV.Mode × Ty) := [(.ro, QIQLLILI)]
abbrev spec_l6Even_rs : List (Bool × Ty) := [(false, LLI)]
noncomputable def spec_l6Even_G (N : Nat) : GTab := gOf [(169, spec_l6All_S N)]
theorem spec_l6Even_gok (N : Nat) : GOk Try.prog (spec_l6Even_G N) := gOf_ok ⟨spec_l6All_pc N, trivial⟩
noncomputable def spec_l6Even_code : Code := (Try.f112.body).getD .skip
noncomputable def spec_l6Even_l0_0_0_sh : Sh := ⟨[(1, .one (.adr 0 0)), (3, .one (.ref 1)), (4, .one (.ro LLI)), (5, .one (.ro I)), (6, .one (.ro .bool)), (7, .one (.ro I)), (8, .one (.ro I)), (9, .one (.ro I))], [.box [.ro I, .ro LLI, .ro LI], .sl 42 LI .own]⟩
noncomputable def spec_l6Even_l0_0_0_ex : List (Ex × Sh) := [(.exit 4, ⟨[(1, .one (.adr 0 0)), (3, .one (.ref 1)), (4, .one (.ro LLI)), (5, .one (.ro I)), (6, .one (.ro .bool)), (7, .one (.ro I)), (8, .one (.ro I))], [.box [.ro I, .ro LLI, .ro LI], .sl 42 LI .own]⟩)]
noncomputable def spec_l6Even_l0_0_0 {R : Type} (N : Nat) (k0 : (List (List Int)) → Int → Bool → Int → Int → Int → (List (List Int)) → (List Int) → (List (List Int)) → Option R) : Nat → (List (List Int)) → Int → Bool → Int → Int → Int → Int → (List (List Int)) → (List Int) → (List (List Int)) → Option R
  | 0, _, _, _, _, _, _, _, _, _, _ => none
  | K + 1, x11, x12, x13, x14, x15, x16, o16, o17, o18, o19 =>
    (chk (inb o17 x14)
      (br (ilt x16 (tLen (rdL o17 x14)))
      ((chk (inb x11 x12)
        (chk (inb o17 x14)
        (chk (inb (rdL o17 x14) x16)
        (chk (inb (rdL x11 x12) (rdI (rdL o17 x14) x16))
        (spec_l6Even_l0_0_0 N k0 K x11 x12 x13 x14 (IntKind.i64.wrap (x15 + (rdI (rdL x11 x12) (rdI (rdL o17 x14) x16)))) (IntKind.i64.wrap (x16 + 1)) o16 o17 o18 o19))))))
      (k0 x11 x12 x13 x14 x15 o16 o17 o18 o19)))
noncomputable def spec_l6Even_l0_0_0_again {R : Type} (N : Nat) (ks : (j : Nat) → ((spec_l6Even_l0_0_0_ex.getD j (.ret, Sh.none)).2).T → Option R) (k : Nat) (x : spec_l6Even_l0_0_0_sh.T) : Option R :=
  spec_l6Even_l0_0_0 N (fun y0 y1 y2 y3 y4 y5 y6 y7 y8 => ks 0 (((), (), y0, y1, y2, y3, y4, ()), ((y5, y6, y7, ()), y8, ()))) k x.1.2.2.1 x.1.2.2.2.1 x.1.2.2.2.2.1 x.1.2.2.2.2.2.1 x.1.2.2.2.2.2.2.1 x.1.2.2.2.2.2.2.2.1 x.2.1.1 x.2.1.2.1 x.2.1.2.2.1 x.2.2.1
noncomputable def spec_l6Even_l0_0_0_s (N : Nat) : LSum := ⟨spec_l6Even_l0_0_0_sh, spec_l6Even_l0_0_0_ex, fun x ks => spec_l6Even_l0_0_0_again N ks N x⟩
theorem spec_l6Even_l0_0_0_step (N : Nat) (R : Type) (k : Nat) (x : spec_l6Even_l0_0_0_sh.T) (ks : (j : Nat) → ((spec_l6Even_l0_0_0_ex.getD j (.ret, Sh.none)).2).T → Option R) : spec_l6Even_l0_0_0_again N ks (k + 1) x = roundF (spec_l6Even_G N) tab [] (loopAt (loopAt (loopAt spec_l6Even_code 0) 0) 0) spec_l6Even_l0_0_0_sh spec_l6Even_l0_0_0_ex (fun y => spec_l6Even_l0_0_0_again N ks k y) ks x := by kernel_rfl
theorem spec_l6Even_l0_0_0_ok (N : Nat) : LoopOk Try.prog Try.f112.ntmps (spec_l6Even_l0_0_0_s N) (loopAt (loopAt (loopAt spec_l6Even_code 0) 0) 0) :=
  loop_ok (l := spec_l6Even_l0_0_0_s N) progOk (spec_l6Even_gok N) (draw_ok progOk (spec_l6Even_gok N)) (fun R k x ks => spec_l6Even_l0_0_0_again N ks k x) (fun _ _ _ => rfl) (fun R k x ks => spec_l6Even_l0_0_0_step N R k x ks) (fun R x ks r h => ⟨N, h⟩) (lsOk_at (L := []) trivial) (by kernel_rfl) (by kernel_rfl)
noncomputable def spec_l6Even_l0_0_sh : Sh := ⟨[(1, .one (.adr 0 0)), (3, .one (.ref 1)), (4, .one (.ro LLI)), (5, .one (.ro I)), (6, .one (.ro .bool)), (7, .one (.ro I))], [.box [.ro I, .ro LLI, .ro LI], .sl 42 LI .own]⟩
noncomputable def spec_l6Even_l0_0_ex : List (Ex × Sh) := [(.exit 2, ⟨[(1, .one (.adr 0 0)), (3, .one (.ref 1)), (4, .one (.ro LLI)), (5, .one (.ro I)), (6, .one (.ro .bool))], [.box [.ro I, .ro LLI, .ro LI], .sl 42 LI .own]⟩)]
noncomputable def spec_l6Even_l0_0 {R : Type} (N : Nat) (k0 : (List (List Int)) → Int → Bool → Int → (List (List Int)) → (List Int) → (List (List Int)) → Option R) : Nat → (List (List Int)) → Int → Bool → Int → Int → (List (List Int)) → (List Int) → (List (List Int)) → Option R
  | 0, _, _, _, _, _, _, _, _ => none
  | K + 1, x7, x8, x9, x10, o12, o13, o14, o15 =>
    (br (ilt x10 (tLen o13))
      ((chk (inb o14 x10)
        (spec_l6Even_l0_0_0 N (fun x11 x12 x13 x14 x15 o16 o17 o18 o19 => (br x13
        (spec_l6Even_l0_0 N k0 K x11 x12 (ieq (x15.tmod 2) 0) (IntKind.i64.wrap (x14 + 1)) o16 o17 o18 o19)
        (spec_l6Even_l0_0 N k0 K x11 x12 false (IntKind.i64.wrap (x14 + 1)) o16 o17 o18 o19))) N x7 x8 x9 x10 (rdI o14 x10) 0 o12 o13 o14 o15)))
      (k0 x7 x8 x9 o12 o13 o14 o15))
noncomputable def spec_l6Even_l0_0_again {R : Type} (N : Nat) (ks : (j : Nat) → ((spec_l6Even_l0_0_ex.getD j (.ret, Sh.none)).2).T → Option R) (k : Nat) (x : spec_l6Even_l0_0_sh.T) : Option R :=
  spec_l6Even_l0_0 N (fun y0 y1 y2 y3 y4 y5 y6 => ks 0 (((), (), y0, y1, y2, ()), ((y3, y4, y5, ()), y6, ()))) k x.1.2.2.1 x.1.2.2.2.1 x.1.2.2.2.2.1 x.1.2.2.2.2.2.1 x.2.1.1 x.2.1.2.1 x.2.1.2.2.1 x.2.2.1
noncomputable def spec_l6Even_l0_0_s (N : Nat) : LSum := ⟨spec_l6Even_l0_0_sh, spec_l6Even_l0_0_ex, fun x ks => spec_l6Even_l0_0_again N ks N x⟩
theorem spec_l6Even_l0_0_step (N : Nat) (R : Type) (k : Nat) (x : spec_l6Even_l0_0_sh.T) (ks : (j : Nat) → ((spec_l6Even_l0_0_ex.getD j (.ret, Sh.none)).2).T → Option R) : spec_l6Even_l0_0_again N ks (k + 1) x = roundF (spec_l6Even_G N) tab [spec_l6Even_l0_0_0_s N] (loopAt (loopAt spec_l6Even_code 0) 0) spec_l6Even_l0_0_sh spec_l6Even_l0_0_ex (fun y => spec_l6Even_l0_0_again N ks k y) ks x := by kernel_rfl
theorem spec_l6Even_l0_0_ok (N : Nat) : LoopOk Try.prog Try.f112.ntmps (spec_l6Even_l0_0_s N) (loopAt (loopAt spec_l6Even_code 0) 0) :=
  loop_ok (l := spec_l6Even_l0_0_s N) progOk (spec_l6Even_gok N) (draw_ok progOk (spec_l6Even_gok N)) (fun R k x ks => spec_l6Even_l0_0_again N ks k x) (fun _ _ _ => rfl) (fun R k x ks => spec_l6Even_l0_0_step N R k x ks) (fun R x ks r h => ⟨N, h⟩) (lsOk_at (L := [spec_l6Even_l0_0_0_s N]) ⟨spec_l6Even_l0_0_0_ok N, trivial⟩) (by kernel_rfl) (by kernel_rfl)
noncomputable def spec_l6Even_l0_sh : Sh := ⟨[(1, .one (.adr 0 0)), (3, .one (.ref 1)), (4, .one (.ro LLI)), (5, .one (.ro I))], [.box [.ro I, .ro LLI, .ro LI], .sl 42 LI .own]⟩
noncomputable def spec_l6Even_l0_ex : List (Ex × Sh) := [(.exit 0, ⟨[(3, .one (.ref 0))], [.sl 42 LI .own]⟩)]
noncomputable def spec_l6Even_l0 {R : Type} (N : Nat) (k0 : (List (List Int)) → Option R) : Nat → (List (List Int)) → Int → Int → (List (List Int)) → (List Int) → (List (List Int)) → Option R
  | 0, _, _, _, _, _, _ => none
  | K + 1, x5, x6, o8, o9, o10, o11 =>
    (br (ilt x6 (tLen x5))
      (spec_l6Even_l0_0 N (fun x7 x8 x9 o12 o13 o14 o15 => (br x9
        ((chk (inb x7 x8)
          (chk (room o15 [(rdL x7 x8)])
          (spec_l6Even_l0 N k0 K x7 (IntKind.i64.wrap (x8 + 1)) o12 o13 o14 (tApp o15 [(rdL x7 x8)])))))
        (spec_l6Even_l0 N k0 K x7 (IntKind.i64.wrap (x8 + 1)) o12 o13 o14 o15))) N x5 x6 true 0 o8 o9 o10 o11)
      (k0 o11))
noncomputable def spec_l6Even_l0_again {R : Type} (N : Nat) (ks : (j : Nat) → ((spec_l6Even_l0_ex.getD j (.ret, Sh.none)).2).T → Option R) (k : Nat) (x : spec_l6Even_l0_sh.T) : Option R :=
  spec_l6Even_l0 N (fun y0 => ks 0 (((), ()), (y0, ()))) k x.1.2.2.1 x.1.2.2.2.1 x.2.1.1 x.2.1.2.1 x.2.1.2.2.1 x.2.2.1
noncomputable def spec_l6Even_l0_s (N : Nat) : LSum := ⟨spec_l6Even_l0_sh, spec_l6Even_l0_ex, fun x ks => spec_l6Even_l0_again N ks N x⟩
theorem spec_l6Even_l0_step (N : Nat) (R : Type) (k : Nat) (x : spec_l6Even_l0_sh.T) (ks : (j : Nat) → ((spec_l6Even_l0_ex.getD j (.ret, Sh.none)).2).T → Option R) : spec_l6Even_l0_again N ks (k + 1) x = roundF (spec_l6Even_G N) tab [spec_l6Even_l0_0_s N] (loopAt spec_l6Even_code 0) spec_l6Even_l0_sh spec_l6Even_l0_ex (fun y => spec_l6Even_l0_again N ks k y) ks x := by kernel_rfl
theorem spec_l6Even_l0_ok (N : Nat) : LoopOk Try.prog Try.f112.ntmps (spec_l6Even_l0_s N) (loopAt spec_l6Even_code 0) :=
  loop_ok (l := spec_l6Even_l0_s N) progOk (spec_l6Even_gok N) (draw_ok progOk (spec_l6Even_gok N)) (fun R k x ks => spec_l6Even_l0_again N ks k x) (fun _ _ _ => rfl) (fun R k x ks => spec_l6Even_l0_step N R k x ks) (fun R x ks r h => ⟨N, h⟩) (lsOk_at (L := [spec_l6Even_l0_0_s N]) ⟨spec_l6Even_l0_0_ok N, trivial⟩) (by kernel_rfl) (by kernel_rfl)
noncomputable def spec_l6Even (N : Nat) (c : (Int × ((List (List Int)) × (List Int)))) : Option (((List (List Int)) × Unit) × (Unit)) :=
  ((spec_l6All N c.1).bind fun r =>
    spec_l6Even_l0 N (fun o8 => some ((o8, ()), ())) N r.1.1 0 c.1 c.2.1 c.2.2 [])
noncomputable def spec_l6Even_S (N : Nat) : FSum := ⟨spec_l6Even_ps, spec_l6Even_rs, fun x => spec_l6Even N x.1⟩
theorem spec_l6Even_run (N : Nat) (x : argsT spec_l6Even_ps) : spec_l6Even N x.1 = funF (spec_l6Even_G N) tab [spec_l6Even_l0_s N] Try.f112 spec_l6Even_ps spec_l6Even_rs x := by kernel_rfl
theorem spec_l6Even_pc (N : Nat) : PC Try.prog 112 (spec_l6Even_S N) := by
  have e : spec_l6Even_S N = ⟨spec_l6Even_ps, spec_l6Even_rs, funF (spec_l6Even_G N) tab [spec_l6Even_l0_s N] Try.f112 spec_l6Even_ps spec_l6Even_rs⟩ := congrArg (FSum.mk spec_l6Even_ps spec_l6Even_rs) (funext (spec_l6Even_run N))
  rw [e]
  exact fun_ok (c := spec_l6Even_code) progOk (spec_l6Even_gok N) (draw_ok progOk (spec_l6Even_gok N)) Try.call112 Try.func112 (by kernel_rfl) (lsOk_at (L := [spec_l6Even_l0_s N]) ⟨spec_l6Even_l0_ok N, trivial⟩) (by kernel_rfl) (by kernel_rfl) (by kernel_rfl) (by kernel_rfl) (by kernel_rfl)

/-! ### spec_l6Apart -/
abbrev spec_l6Apart_ps : List (PV.Mode × Ty) := [(.ro, LI), (.ro, LI)]
abbrev spec_l6Apart_rs : List (Bool × Ty) := [(true, I)]
noncomputable def spec_l6Apart_G (N : Nat) : GTab := gOf []
theorem spec_l6Apart_gok (N : Nat) : GOk Try.prog (spec_l6Apart_G N) := gOf_ok trivial
noncomputable def spec_l6Apart_code : Code := (Try.f168.body).getD .skip
noncomputable def spec_l6Apart_l0_sh : Sh := ⟨[(0, .one (.ro LI)), (1, .one (.ro LI)), (5, .one (.ro I)), (6, .one (.ro I))], []⟩
noncomputable def spec_l6Apart_l0_ex : List (Ex × Sh) := [(.exit 0, ⟨[(5, .one (.ro I))], []⟩)]
noncomputable def spec_l6Apart_l0 {R : Type} (N : Nat) (k0 : Int → Option R) : Nat → (List Int) → (List Int) → Int → Int → Option R
  | 0, _, _, _, _ => none
  | K + 1, a1, b1, count, i =>
    (br (ilt i (tLen a1))
      ((chk (inb a1 i)
        (chk (inb b1 i)
        (br (ine (rdI a1 i) (rdI b1 i))
        (spec_l6Apart_l0 N k0 K a1 b1 (IntKind.i64.wrap (count + 1)) (IntKind.i64.wrap (i + 1)))
        (spec_l6Apart_l0 N k0 K a1 b1 count (IntKind.i64.wrap (i + 1)))))))
      (k0 count))
noncomputable def spec_l6Apart_l0_again {R : Type} (N : Nat) (ks : (j : Nat) → ((spec_l6Apart_l0_ex.getD j (.ret, Sh.none)).2).T → Option R) (k : Nat) (x : spec_l6Apart_l0_sh.T) : Option R :=
  spec_l6Apart_l0 N (fun y0 => ks 0 ((y0, ()), ())) k x.1.1 x.1.2.1 x.1.2.2.1 x.1.2.2.2.1
noncomputable def spec_l6Apart_l0_s (N : Nat) : LSum := ⟨spec_l6Apart_l0_sh, spec_l6Apart_l0_ex, fun x ks => spec_l6Apart_l0_again N ks N x⟩
theorem spec_l6Apart_l0_step (N : Nat) (R : Type) (k : Nat) (x : spec_l6Apart_l0_sh.T) (ks : (j : Nat) → ((spec_l6Apart_l0_ex.getD j (.ret, Sh.none)).2).T → Option R) : spec_l6Apart_l0_again N ks (k + 1) x = roundF (spec_l6Apart_G N) tab [] (loopAt spec_l6Apart_code 0) spec_l6Apart_l0_sh spec_l6Apart_l0_ex (fun y => spec_l6Apart_l0_again N ks k y) ks x := by kernel_rfl
theorem spec_l6Apart_l0_ok (N : Nat) : LoopOk Try.prog Try.f168.ntmps (spec_l6Apart_l0_s N) (loopAt spec_l6Apart_code 0) :=
  loop_ok (l := spec_l6Apart_l0_s N) progOk (spec_l6Apart_gok N) (draw_ok progOk (spec_l6Apart_gok N)) (fun R k x ks => spec_l6Apart_l0_again N ks k x) (fun _ _ _ => rfl) (fun R k x ks => spec_l6Apart_l0_step N R k x ks) (fun R x ks r h => ⟨N, h⟩) (lsOk_at (L := []) trivial) (by kernel_rfl) (by kernel_rfl)
noncomputable def spec_l6Apart (N : Nat) (a : (List Int)) (b : (List Int)) : Option ((Int × Unit) × (Unit)) :=
  spec_l6Apart_l0 N (fun count => some ((count, ()), ())) N a b 0 0
noncomputable def spec_l6Apart_S (N : Nat) : FSum := ⟨spec_l6Apart_ps, spec_l6Apart_rs, fun x => spec_l6Apart N x.1 x.2.1⟩
theorem spec_l6Apart_run (N : Nat) (x : argsT spec_l6Apart_ps) : spec_l6Apart N x.1 x.2.1 = funF (spec_l6Apart_G N) tab [spec_l6Apart_l0_s N] Try.f168 spec_l6Apart_ps spec_l6Apart_rs x := by kernel_rfl
theorem spec_l6Apart_pc (N : Nat) : PC Try.prog 168 (spec_l6Apart_S N) := by
  have e : spec_l6Apart_S N = ⟨spec_l6Apart_ps, spec_l6Apart_rs, funF (spec_l6Apart_G N) tab [spec_l6Apart_l0_s N] Try.f168 spec_l6Apart_ps spec_l6Apart_rs⟩ := congrArg (FSum.mk spec_l6Apart_ps spec_l6Apart_rs) (funext (spec_l6Apart_run N))
  rw [e]
  exact fun_ok (c := spec_l6Apart_code) progOk (spec_l6Apart_gok N) (draw_ok progOk (spec_l6Apart_gok N)) Try.call168 Try.func168 (by kernel_rfl) (lsOk_at (L := [spec_l6Apart_l0_s N]) ⟨spec_l6Apart_l0_ok N, trivial⟩) (by kernel_rfl) (by kernel_rfl) (by kernel_rfl) (by kernel_rfl) (by kernel_rfl)

/-! ### spec_l6Space -/
abbrev spec_l6Space_ps : List (PV.Mode × Ty) := [(.ro, LLI)]
abbrev spec_l6Space_rs : List (Bool × Ty) := [(false, QLLILQII)]
noncomputable def spec_l6Space_G (N : Nat) : GTab := gOf [(168, spec_l6Apart_S N)]
theorem spec_l6Space_gok (N : Nat) : GOk Try.prog (spec_l6Space_G N) := gOf_ok ⟨spec_l6Apart_pc N, trivial⟩
noncomputable def spec_l6Space_code : Code := (Try.f104.body).getD .skip
noncomputable def spec_l6Space_l0_0_sh : Sh := ⟨[(0, .one (.ro LLI)), (2, .one (.adr 0 0)), (3, .one (.adr 1 0)), (4, .one (.ro I)), (5, .one (.ro I))], [.box [.nilsl, .nilsl], .box [.ro LLI, .ref 2], .sl 137 QII .own]⟩
noncomputable def spec_l6Space_l0_0_ex : List (Ex × Sh) := [(.exit 2, ⟨[(0, .one (.ro LLI)), (2, .one (.adr 0 0)), (3, .one (.adr 1 0)), (4, .one (.ro I))], [.box [.nilsl, .nilsl], .box [.ro LLI, .ref 2], .sl 137 QII .own]⟩)]
noncomputable def spec_l6Space_l0_0 {R : Type} (N : Nat) (k0 : (List (List Int)) → Int → (List (List Int)) → (List (Int × Int)) → Option R) : Nat → (List (List Int)) → Int → Int → (List (List Int)) → (List (Int × Int)) → Option R
  | 0, _, _, _, _, _ => none
  | K + 1, states2, i1, j, o2, o3 =>
    (br (ilt j (tLen states2))
      ((chk (inb states2 i1)
        (chk (inb states2 j)
        ((spec_l6Apart N (rdL states2 i1) (rdL states2 j)).bind fun r =>
        (br (ieq r.1.1 1)
          ((chk (room o3 [(i1, j)])
            (spec_l6Space_l0_0 N k0 K states2 i1 (IntKind.i64.wrap (j + 1)) o2 (tApp o3 [(i1, j)]))))
          (spec_l6Space_l0_0 N k0 K states2 i1 (IntKind.i64.wrap (j + 1)) o2 o3))))))
      (k0 states2 i1 o2 o3))
noncomputable def spec_l6Space_l0_0_again {R : Type} (N : Nat) (ks : (j : Nat) → ((spec_l6Space_l0_0_ex.getD j (.ret, Sh.none)).2).T → Option R) (k : Nat) (x : spec_l6Space_l0_0_sh.T) : Option R :=
  spec_l6Space_l0_0 N (fun y0 y1 y2 y3 => ks 0 ((y0, (), (), y1, ()), (((), (), ()), (y2, (), ()), y3, ()))) k x.1.1 x.1.2.2.2.1 x.1.2.2.2.2.1 x.2.2.1.1 x.2.2.2.1
noncomputable def spec_l6Space_l0_0_s (N : Nat) : LSum := ⟨spec_l6Space_l0_0_sh, spec_l6Space_l0_0_ex, fun x ks => spec_l6Space_l0_0_again N ks N x⟩
theorem spec_l6Space_l0_0_step (N : Nat) (R : Type) (k : Nat) (x : spec_l6Space_l0_0_sh.T) (ks : (j : Nat) → ((spec_l6Space_l0_0_ex.getD j (.ret, Sh.none)).2).T → Option R) : spec_l6Space_l0_0_again N ks (k + 1) x = roundF (spec_l6Space_G N) tab [] (loopAt (loopAt spec_l6Space_code 0) 0) spec_l6Space_l0_0_sh spec_l6Space_l0_0_ex (fun y => spec_l6Space_l0_0_again N ks k y) ks x := by kernel_rfl
theorem spec_l6Space_l0_0_ok (N : Nat) : LoopOk Try.prog Try.f104.ntmps (spec_l6Space_l0_0_s N) (loopAt (loopAt spec_l6Space_code 0) 0) :=
  loop_ok (l := spec_l6Space_l0_0_s N) progOk (spec_l6Space_gok N) (draw_ok progOk (spec_l6Space_gok N)) (fun R k x ks => spec_l6Space_l0_0_again N ks k x) (fun _ _ _ => rfl) (fun R k x ks => spec_l6Space_l0_0_step N R k x ks) (fun R x ks r h => ⟨N, h⟩) (lsOk_at (L := []) trivial) (by kernel_rfl) (by kernel_rfl)
noncomputable def spec_l6Space_l0_sh : Sh := ⟨[(0, .one (.ro LLI)), (2, .one (.adr 0 0)), (3, .one (.adr 1 0)), (4, .one (.ro I))], [.box [.nilsl, .nilsl], .box [.ro LLI, .ref 2], .sl 137 QII .own]⟩
noncomputable def spec_l6Space_l0_ex : List (Ex × Sh) := [(.exit 0, ⟨[(2, .one (.adr 0 0)), (3, .one (.adr 1 0))], [.box [.nilsl, .nilsl], .box [.ro LLI, .ref 2], .sl 137 QII .own]⟩)]
noncomputable def spec_l6Space_l0 {R : Type} (N : Nat) (k0 : (List (List Int)) → (List (Int × Int)) → Option R) : Nat → (List (List Int)) → Int → (List (List Int)) → (List (Int × Int)) → Option R
  | 0, _, _, _, _ => none
  | K + 1, states1, i, o, o1 =>
    (br (ilt i (tLen states1))
      (spec_l6Space_l0_0 N (fun states2 i1 o2 o3 => spec_l6Space_l0 N k0 K states2 (IntKind.i64.wrap (i1 + 1)) o2 o3) N states1 i (IntKind.i64.wrap (i + 1)) o o1)
      (k0 o o1))
noncomputable def spec_l6Space_l0_again {R : Type} (N : Nat) (ks : (j : Nat) → ((spec_l6Space_l0_ex.getD j (.ret, Sh.none)).2).T → Option R) (k : Nat) (x : spec_l6Space_l0_sh.T) : Option R :=
  spec_l6Space_l0 N (fun y0 y1 => ks 0 (((), (), ()), (((), (), ()), (y0, (), ()), y1, ()))) k x.1.1 x.1.2.2.2.1 x.2.2.1.1 x.2.2.2.1
noncomputable def spec_l6Space_l0_s (N : Nat) : LSum := ⟨spec_l6Space_l0_sh, spec_l6Space_l0_ex, fun x ks => spec_l6Space_l0_again N ks N x⟩
theorem spec_l6Space_l0_step (N : Nat) (R : Type) (k : Nat) (x : spec_l6Space_l0_sh.T) (ks : (j : Nat) → ((spec_l6Space_l0_ex.getD j (.ret, Sh.none)).2).T → Option R) : spec_l6Space_l0_again N ks (k + 1) x = roundF (spec_l6Space_G N) tab [spec_l6Space_l0_0_s N] (loopAt spec_l6Space_code 0) spec_l6Space_l0_sh spec_l6Space_l0_ex (fun y => spec_l6Space_l0_again N ks k y) ks x := by kernel_rfl
theorem spec_l6Space_l0_ok (N : Nat) : LoopOk Try.prog Try.f104.ntmps (spec_l6Space_l0_s N) (loopAt spec_l6Space_code 0) :=
  loop_ok (l := spec_l6Space_l0_s N) progOk (spec_l6Space_gok N) (draw_ok progOk (spec_l6Space_gok N)) (fun R k x ks => spec_l6Space_l0_again N ks k x) (fun _ _ _ => rfl) (fun R k x ks => spec_l6Space_l0_step N R k x ks) (fun R x ks r h => ⟨N, h⟩) (lsOk_at (L := [spec_l6Space_l0_0_s N]) ⟨spec_l6Space_l0_0_ok N, trivial⟩) (by kernel_rfl) (by kernel_rfl)
noncomputable def spec_l6Space (N : Nat) (states : (List (List Int))) : Option ((((List (List Int)) × (List (Int × Int))) × Unit) × (Unit)) :=
  spec_l6Space_l0 N (fun o o1 => some (((o, o1), ()), ())) N states 0 states []
noncomputable def spec_l6Space_S (N : Nat) : FSum := ⟨spec_l6Space_ps, spec_l6Space_rs, fun x => spec_l6Space N x.1⟩
theorem spec_l6Space_run (N : Nat) (x : argsT spec_l6Space_ps) : spec_l6Space N x.1 = funF (spec_l6Space_G N) tab [spec_l6Space_l0_s N] Try.f104 spec_l6Space_ps spec_l6Space_rs x := by kernel_rfl
theorem spec_l6Space_pc (N : Nat) : PC Try.prog 104 (spec_l6Space_S N) := by
  have e : spec_l6Space_S N = ⟨spec_l6Space_ps, spec_l6Space_rs, funF (spec_l6Space_G N) tab [spec_l6Space_l0_s N] Try.f104 spec_l6Space_ps spec_l6Space_rs⟩ := congrArg (FSum.mk spec_l6Space_ps spec_l6Space_rs) (funext (spec_l6Space_run N))
  rw [e]
  exact fun_ok (c := spec_l6Space_code) progOk (spec_l6Space_gok N) (draw_ok progOk (spec_l6Space_gok N)) Try.call104 Try.func104 (by kernel_rfl) (lsOk_at (L := [spec_l6Space_l0_s N]) ⟨spec_l6Space_l0_ok N, trivial⟩) (by kernel_rfl) (by kernel_rfl) (by kernel_rfl) (by kernel_rfl) (by kernel_rfl)

/-! ### spec_ParitySpace -/
abbrev spec_ParitySpace_ps : List (PV.Mode × Ty) := [(.ro, QIQLLILI)]
abbrev spec_ParitySpace_rs : List (Bool × Ty) := [(false, QLLILQII), (true, .bool)]
noncomputable def spec_ParitySpace_G (N : Nat) : GTab := gOf [(111, spec_l6Parity_S N), (112, spec_l6Even_S N), (104, spec_l6Space_S N)]
theorem spec_ParitySpace_gok (N : Nat) : GOk Try.prog (spec_ParitySpace_G N) := gOf_ok ⟨spec_l6Parity_pc N, spec_l6Even_pc N, spec_l6Space_pc N, trivial⟩
noncomputable def spec_ParitySpace_code : Code := (Try.f50.body).getD .skip
noncomputable def spec_ParitySpace (N : Nat) (p : (Int × ((List (List Int)) × (List Int)))) : Option ((((List (List Int)) × (List (Int × Int))) × Bool × Unit) × (Unit)) :=
  ((spec_l6Parity N (p.1, (p.2.1, p.2.2))).bind fun r =>
    (br (!r.1.1)
      (some ((([], []), false, ()), ()))
      (((spec_l6Even N (p.1, (p.2.1, p.2.2))).bind fun r1 =>
        ((spec_l6Space N r1.1.1).bind fun r2 =>
          some (((r2.1.1.1, r2.1.1.2), true, ()), ()))))))
noncomputable def spec_ParitySpace_S (N : Nat) : FSum := ⟨spec_ParitySpace_ps, spec_ParitySpace_rs, fun x => spec_ParitySpace N x.1⟩
theorem spec_ParitySpace_run (N : Nat) (x : argsT spec_ParitySpace_ps) : spec_ParitySpace N x.1 = funF (spec_ParitySpace_G N) tab [] Try.f50 spec_ParitySpace_ps spec_ParitySpace_rs x := by kernel_rfl
theorem spec_ParitySpace_pc (N : Nat) : PC Try.prog 50 (spec_ParitySpace_S N) := by
  have e : spec_ParitySpace_S N = ⟨spec_ParitySpace_ps, spec_ParitySpace_rs, funF (spec_ParitySpace_G N) tab [] Try.f50 spec_ParitySpace_ps spec_ParitySpace_rs⟩ := congrArg (FSum.mk spec_ParitySpace_ps spec_ParitySpace_rs) (funext (spec_ParitySpace_run N))
  rw [e]
  exact fun_ok (c := spec_ParitySpace_code) progOk (spec_ParitySpace_gok N) (draw_ok progOk (spec_ParitySpace_gok N)) Try.call50 Try.func50 (by kernel_rfl) (lsOk_at (L := []) trivial) (by kernel_rfl) (by kernel_rfl) (by kernel_rfl) (by kernel_rfl) (by kernel_rfl)

/-! ### impl_between -/
abbrev impl_between_ps : List (PV.Mode × Ty) := [(.ro, I), (.ro, I), (.ro, I)]
abbrev impl_between_rs : List (Bool × Ty) := [(true, .bool)]
noncomputable def impl_between_G (N : Nat) : GTab := gOf []
theorem impl_between_gok (N : Nat) : GOk Try.prog (impl_between_G N) := gOf_ok trivial
noncomputable def impl_between_code : Code := (Try.f90.body).getD .skip
noncomputable def impl_between (N : Nat) (n : Int) (low : Int) (high : Int) : Option ((Bool × Unit) × (Unit)) :=
  (br (ile low n)
    (some (((ile n high), ()), ()))
    (some ((false, ()), ())))
noncomputable def impl_between_S (N : Nat) : FSum := ⟨impl_between_ps, impl_between_rs, fun x => impl_between N x.1 x.2.1 x.2.2.1⟩
theorem impl_between_run (N : Nat) (x : argsT impl_between_ps) : impl_between N x.1 x.2.1 x.2.2.1 = funF (impl_between_G N) tab [] Try.f90 impl_between_ps impl_between_rs x := by kernel_rfl
theorem impl_between_pc (N : Nat) : PC Try.prog 90 (impl_between_S N) := by
  have e : impl_between_S N = ⟨impl_between_ps, impl_between_rs, funF (impl_between_G N) tab [] Try.f90 impl_between_ps impl_between_rs⟩ := congrArg (FSum.mk impl_between_ps impl_between_rs) (funext (impl_between_run N))
  rw [e]
  exact fun_ok (c := impl_between_code) progOk (impl_between_gok N) (draw_ok progOk (impl_between_gok N)) Try.call90 Try.func90 (by kernel_rfl) (lsOk_at (L := []) trivial) (by kernel_rfl) (by kernel_rfl) (by kernel_rfl) (by kernel_rfl) (by kernel_rfl)

/-! ### slices_IndexFunc_LI_int -/
abbrev slices_IndexFunc_LI_int_ps : List (PV.Mode × Ty) := [(.ro, LI), (.ro, FIBo)]
abbrev slices_IndexFunc_LI_int_rs : List (Bool × Ty) := [(true, I)]
noncomputable def slices_IndexFunc_LI_int_G (N : Nat) : GTab := gOf []
theorem slices_IndexFunc_LI_int_gok (N : Nat) : GOk Try.prog (slices_IndexFunc_LI_int_G N) := gOf_ok trivial
noncomputable def slices_IndexFunc_LI_int_code : Code := (Try.f165.body).getD .skip
noncomputable def slices_IndexFunc_LI_int_l0_sh : Sh := ⟨[(0, .one (.ro LI)), (1, .one (.ro FIBo)), (7, .one (.ro I)), (8, .one (.ro I))], []⟩
noncomputable def slices_IndexFunc_LI_int_l0_ex : List (Ex × Sh) := [(.ret, ⟨[(4, .one (.ro I))], []⟩), (.exit 0, ⟨[], []⟩)]
noncomputable def slices_IndexFunc_LI_int_l0 {R : Type} (N : Nat) (k0 : Int → Option R) (k1 : Unit → Option R) : Nat → (List Int) → (Int → Option Bool) → Int → Int → Option R
  | 0, _, _, _, _ => none
  | K + 1, s1, f1, x, x1 =>
    (br (ilt x1 x)
      ((chk (inb s1 x1)
        ((f1 (rdI s1 x1)).bind fun v =>
        (br v
        (k0 x1)
        (slices_IndexFunc_LI_int_l0 N k0 k1 K s1 f1 x (IntKind.i64.wrap (x1 + 1)))))))
      (k1 ()))
noncomputable def slices_IndexFunc_LI_int_l0_again {R : Type} (N : Nat) (ks : (j : Nat) → ((slices_IndexFunc_LI_int_l0_ex.getD j (.ret, Sh.none)).2).T → Option R) (k : Nat) (x : slices_IndexFunc_LI_int_l0_sh.T) : Option R :=
  slices_IndexFunc_LI_int_l0 N (fun y0 => ks 0 ((y0, ()), ())) (fun (_ : Unit) => ks 1 ((), ())) k x.1.1 x.1.2.1 x.1.2.2.1 x.1.2.2.2.1
noncomputable def slices_IndexFunc_LI_int_l0_s (N : Nat) : LSum := ⟨slices_IndexFunc_LI_int_l0_sh, slices_IndexFunc_LI_int_l0_ex, fun x ks => slices_IndexFunc_LI_int_l0_again N ks N x⟩
theorem slices_IndexFunc_LI_int_l0_step (N : Nat) (R : Type) (k : Nat) (x : slices_IndexFunc_LI_int_l0_sh.T) (ks : (j : Nat) → ((slices_IndexFunc_LI_int_l0_ex.getD j (.ret, Sh.none)).2).T → Option R) : slices_IndexFunc_LI_int_l0_again N ks (k + 1) x = roundF (slices_IndexFunc_LI_int_G N) tab [] (loopAt slices_IndexFunc_LI_int_code 0) slices_IndexFunc_LI_int_l0_sh slices_IndexFunc_LI_int_l0_ex (fun y => slices_IndexFunc_LI_int_l0_again N ks k y) ks x := by kernel_rfl
theorem slices_IndexFunc_LI_int_l0_ok (N : Nat) : LoopOk Try.prog Try.f165.ntmps (slices_IndexFunc_LI_int_l0_s N) (loopAt slices_IndexFunc_LI_int_code 0) :=
  loop_ok (l := slices_IndexFunc_LI_int_l0_s N) progOk (slices_IndexFunc_LI_int_gok N) (draw_ok progOk (slices_IndexFunc_LI_int_gok N)) (fun R k x ks => slices_IndexFunc_LI_int_l0_again N ks k x) (fun _ _ _ => rfl) (fun R k x ks => slices_IndexFunc_LI_int_l0_step N R k x ks) (fun R x ks r h => ⟨N, h⟩) (lsOk_at (L := []) trivial) (by kernel_rfl) (by kernel_rfl)
noncomputable def slices_IndexFunc_LI_int (N : Nat) (s : (List Int)) (f : (Int → Option Bool)) : Option ((Int × Unit) × (Unit)) :=
  slices_IndexFunc_LI_int_l0 N (fun x => some ((x, ()), ())) (fun (_ : Unit) => some (((-1), ()), ())) N s f (tLen s) 0
noncomputable def slices_IndexFunc_LI_int_S (N : Nat) : FSum := ⟨slices_IndexFunc_LI_int_ps, slices_IndexFunc_LI_int_rs, fun x => slices_IndexFunc_LI_int N x.1 x.2.1⟩
theorem slices_IndexFunc_LI_int_run (N : Nat) (x : argsT slices_IndexFunc_LI_int_ps) : slices_IndexFunc_LI_int N x.1 x.2.1 = funF (slices_IndexFunc_LI_int_G N) tab [slices_IndexFunc_LI_int_l0_s N] Try.f165 slices_IndexFunc_LI_int_ps slices_IndexFunc_LI_int_rs x := by kernel_rfl
theorem slices_IndexFunc_LI_int_pc (N : Nat) : PC Try.prog 165 (slices_IndexFunc_LI_int_S N) := by
  have e : slices_IndexFunc_LI_int_S N = ⟨slices_IndexFunc_LI_int_ps, slices_IndexFunc_LI_int_rs, funF (slices_IndexFunc_LI_int_G N) tab [slices_IndexFunc_LI_int_l0_s N] Try.f165 slices_IndexFunc_LI_int_ps slices_IndexFunc_LI_int_rs⟩ := congrArg (FSum.mk slices_IndexFunc_LI_int_ps slices_IndexFunc_LI_int_rs) (funext (slices_IndexFunc_LI_int_run N))
  rw [e]
  exact fun_ok (c := slices_IndexFunc_LI_int_code) progOk (slices_IndexFunc_LI_int_gok N) (draw_ok progOk (slices_IndexFunc_LI_int_gok N)) Try.call165 Try.func165 (by kernel_rfl) (lsOk_at (L := [slices_IndexFunc_LI_int_l0_s N]) ⟨slices_IndexFunc_LI_int_l0_ok N, trivial⟩) (by kernel_rfl) (by kernel_rfl) (by kernel_rfl) (by kernel_rfl) (by kernel_rfl)

/-! ### slices_ContainsFunc_LI_int -/
abbrev slices_ContainsFunc_LI_int_ps : List (PV.Mode × Ty) := [(.ro, LI), (.ro, FIBo)]
abbrev slices_ContainsFunc_LI_int_rs : List (Bool × Ty) := [(true, .bool)]
noncomputable def slices_ContainsFunc_LI_int_G (N : Nat) : GTab := gOf [(165, slices_IndexFunc_LI_int_S N)]
theorem slices_ContainsFunc_LI_int_gok (N : Nat) : GOk Try.prog (slices_ContainsFunc_LI_int_G N) := gOf_ok ⟨slices_IndexFunc_LI_int_pc N, trivial⟩
noncomputable def slices_ContainsFunc_LI_int_code : Code := (Try.f99.body).getD .skip
noncomputable def slices_ContainsFunc_LI_int (N : Nat) (s : (List Int)) (f : (Int → Option Bool)) : Option ((Bool × Unit) × (Unit)) :=
  ((slices_IndexFunc_LI_int N s f).bind fun r =>
    some (((ile 0 r.1.1), ()), ()))
noncomputable def slices_ContainsFunc_LI_int_S (N : Nat) : FSum := ⟨slices_ContainsFunc_LI_int_ps, slices_ContainsFunc_LI_int_rs, fun x => slices_ContainsFunc_LI_int N x.1 x.2.1⟩
theorem slices_ContainsFunc_LI_int_run (N : Nat) (x : argsT slices_ContainsFunc_LI_int_ps) : slices_ContainsFunc_LI_int N x.1 x.2.1 = funF (slices_ContainsFunc_LI_int_G N) tab [] Try.f99 slices_ContainsFunc_LI_int_ps slices_ContainsFunc_LI_int_rs x := by kernel_rfl
theorem slices_ContainsFunc_LI_int_pc (N : Nat) : PC Try.prog 99 (slices_ContainsFunc_LI_int_S N) := by
  have e : slices_ContainsFunc_LI_int_S N = ⟨slices_ContainsFunc_LI_int_ps, slices_ContainsFunc_LI_int_rs, funF (slices_ContainsFunc_LI_int_G N) tab [] Try.f99 slices_ContainsFunc_LI_int_ps slices_ContainsFunc_LI_int_rs⟩ := congrArg (FSum.mk slices_ContainsFunc_LI_int_ps slices_ContainsFunc_LI_int_rs) (funext (slices_ContainsFunc_LI_int_run N))
  rw [e]
  exact fun_ok (c := slices_ContainsFunc_LI_int_code) progOk (slices_ContainsFunc_LI_int_gok N) (draw_ok progOk (slices_ContainsFunc_LI_int_gok N)) Try.call99 Try.func99 (by kernel_rfl) (lsOk_at (L := []) trivial) (by kernel_rfl) (by kernel_rfl) (by kernel_rfl) (by kernel_rfl) (by kernel_rfl)

/-! ### impl_isAssignment_c1 -/
abbrev impl_isAssignment_c1_ps : List (PV.Mode × Ty) := [(.ro, I)]
abbrev impl_isAssignment_c1_rs : List (Bool × Ty) := [(true, .bool)]
noncomputable def impl_isAssignment_c1_G (N : Nat) : GTab := gOf [(90, impl_between_S N)]
theorem impl_isAssignment_c1_gok (N : Nat) : GOk Try.prog (impl_isAssignment_c1_G N) := gOf_ok ⟨impl_between_pc N, trivial⟩
noncomputable def impl_isAssignment_c1_code : Code := (Try.f217.body).getD .skip
noncomputable def impl_isAssignment_c1 (N : Nat) (n : Int) : Option ((Bool × Unit) × (Unit)) :=
  ((impl_between N n 0 1).bind fun r =>
    some (((!r.1.1), ()), ()))
noncomputable def impl_isAssignment_c1_S (N : Nat) : FSum := ⟨impl_isAssignment_c1_ps, impl_isAssignment_c1_rs, fun x => impl_isAssignment_c1 N x.1⟩
theorem impl_isAssignment_c1_run (N : Nat) (x : argsT impl_isAssignment_c1_ps) : impl_isAssignment_c1 N x.1 = funF (impl_isAssignment_c1_G N) tab [] Try.f217 impl_isAssignment_c1_ps impl_isAssignment_c1_rs x := by kernel_rfl
theorem impl_isAssignment_c1_pc (N : Nat) : PC Try.prog 217 (impl_isAssignment_c1_S N) := by
  have e : impl_isAssignment_c1_S N = ⟨impl_isAssignment_c1_ps, impl_isAssignment_c1_rs, funF (impl_isAssignment_c1_G N) tab [] Try.f217 impl_isAssignment_c1_ps impl_isAssignment_c1_rs⟩ := congrArg (FSum.mk impl_isAssignment_c1_ps impl_isAssignment_c1_rs) (funext (impl_isAssignment_c1_run N))
  rw [e]
  exact fun_ok (c := impl_isAssignment_c1_code) progOk (impl_isAssignment_c1_gok N) (draw_ok progOk (impl_isAssignment_c1_gok N)) Try.call217 Try.func217 (by kernel_rfl) (lsOk_at (L := []) trivial) (by kernel_rfl) (by kernel_rfl) (by kernel_rfl) (by kernel_rfl) (by kernel_rfl)

/-! ### impl_isAssignment -/
abbrev impl_isAssignment_ps : List (PV.Mode × Ty) := [(.ro, I), (.ro, LI)]
abbrev impl_isAssignment_rs : List (Bool × Ty) := [(true, .bool)]
noncomputable def impl_isAssignment_G (N : Nat) : GTab := gOf [(99, slices_ContainsFunc_LI_int_S N), (217, impl_isAssignment_c1_S N)]
theorem impl_isAssignment_gok (N : Nat) : GOk Try.prog (impl_isAssignment_G N) := gOf_ok ⟨slices_ContainsFunc_LI_int_pc N, impl_isAssignment_c1_pc N, trivial⟩
noncomputable def impl_isAssignment_code : Code := (Try.f174.body).getD .skip
noncomputable def impl_isAssignment (N : Nat) (vars : Int) (list : (List Int)) : Option ((Bool × Unit) × (Unit)) :=
  (br (ieq (tLen list) vars)
    (((slices_ContainsFunc_LI_int N list (fun y0 => (impl_isAssignment_c1 N y0).bind fun z => some z.1.1)).bind fun r =>
      some (((!r.1.1), ()), ())))
    (some ((false, ()), ())))
noncomputable def impl_isAssignment_S (N : Nat) : FSum := ⟨impl_isAssignment_ps, impl_isAssignment_rs, fun x => impl_isAssignment N x.1 x.2.1⟩
theorem impl_isAssignment_run (N : Nat) (x : argsT impl_isAssignment_ps) : impl_isAssignment N x.1 x.2.1 = funF (impl_isAssignment_G N) tab [] Try.f174 impl_isAssignment_ps impl_isAssignment_rs x := by kernel_rfl
theorem impl_isAssignment_pc (N : Nat) : PC Try.prog 174 (impl_isAssignment_S N) := by
  have e : impl_isAssignment_S N = ⟨impl_isAssignment_ps, impl_isAssignment_rs, funF (impl_isAssignment_G N) tab [] Try.f174 impl_isAssignment_ps impl_isAssignment_rs⟩ := congrArg (FSum.mk impl_isAssignment_ps impl_isAssignment_rs) (funext (impl_isAssignment_run N))
  rw [e]
  exact fun_ok (c := impl_isAssignment_code) progOk (impl_isAssignment_gok N) (draw_ok progOk (impl_isAssignment_gok N)) Try.call174 Try.func174 (by kernel_rfl) (lsOk_at (L := []) trivial) (by kernel_rfl) (by kernel_rfl) (by kernel_rfl) (by kernel_rfl) (by kernel_rfl)

/-! ### slices_IndexFunc_LLI_LI -/
abbrev slices_IndexFunc_LLI_LI_ps : List (PV.Mode × Ty) := [(.ro, LLI), (.ro, FLIBo)]
abbrev slices_IndexFunc_LLI_LI_rs : List (Bool × Ty) := [(true, I)]
noncomputable def slices_IndexFunc_LLI_LI_G (N : Nat) : GTab := gOf []
theorem slices_IndexFunc_LLI_LI_gok (N : Nat) : GOk Try.prog (slices_IndexFunc_LLI_LI_G N) := gOf_ok trivial
noncomputable def slices_IndexFunc_LLI_LI_code : Code := (Try.f207.body).getD .skip
noncomputable def slices_IndexFunc_LLI_LI_l0_sh : Sh := ⟨[(0, .one (.ro LLI)), (1, .one (.ro FLIBo)), (7, .one (.ro I)), (8, .one (.ro I))], []⟩
noncomputable def slices_IndexFunc_LLI_LI_l0_ex : List (Ex × Sh) := [(.ret, ⟨[(4, .one (.ro I))], []⟩), (.exit 0, ⟨[], []⟩)]
noncomputable def slices_IndexFunc_LLI_LI_l0 {R : Type} (N : Nat) (k0 : Int → Option R) (k1 : Unit → Option R) : Nat → (List (List Int)) → ((List Int) → Option Bool) → Int → Int → Option R
  | 0, _, _, _, _ => none
  | K + 1, s1, f1, x, x1 =>
    (br (ilt x1 x)
      ((chk (inb s1 x1)
        ((f1 (rdL s1 x1)).bind fun v =>
        (br v
        (k0 x1)
        (slices_IndexFunc_LLI_LI_l0 N k0 k1 K s1 f1 x (IntKind.i64.wrap (x1 + 1)))))))
      (k1 ()))
noncomputable def slices_IndexFunc_LLI_LI_l0_again {R : Type} (N : Nat) (ks : (j : Nat) → ((slices_IndexFunc_LLI_LI_l0_ex.getD j (.ret, Sh.none)).2).T → Option R) (k : Nat) (x : slices_IndexFunc_LLI_LI_l0_sh.T) : Option R :=
  slices_IndexFunc_LLI_LI_l0 N (fun y0 => ks 0 ((y0, ()), ())) (fun (_ : Unit) => ks 1 ((), ())) k x.1.1 x.1.2.1 x.1.2.2.1 x.1.2.2.2.1
noncomputable def slices_IndexFunc_LLI_LI_l0_s (N : Nat) : LSum := ⟨slices_IndexFunc_LLI_LI_l0_sh, slices_IndexFunc_LLI_LI_l0_ex, fun x ks => slices_IndexFunc_LLI_LI_l0_again N ks N x⟩
theorem slices_IndexFunc_LLI_LI_l0_step (N : Nat) (R : Type) (k : Nat) (x : slices_IndexFunc_LLI_LI_l0_sh.T) (ks : (j : Nat) → ((slices_IndexFunc_LLI_LI_l0_ex.getD j (.ret, Sh.none)).2).T → Option R) : slices_IndexFunc_LLI_LI_l0_again N ks (k + 1) x = roundF (slices_IndexFunc_LLI_LI_G N) tab [] (loopAt slices_IndexFunc_LLI_LI_code 0) slices_IndexFunc_LLI_LI_l0_sh slices_IndexFunc_LLI_LI_l0_ex (fun y => slices_IndexFunc_LLI_LI_l0_again N ks k y) ks x := by kernel_rfl
theorem slices_IndexFunc_LLI_LI_l0_ok (N : Nat) : LoopOk Try.prog Try.f207.ntmps (slices_IndexFunc_LLI_LI_l0_s N) (loopAt slices_IndexFunc_LLI_LI_code 0) :=
  loop_ok (l := slices_IndexFunc_LLI_LI_l0_s N) progOk (slices_IndexFunc_LLI_LI_gok N) (draw_ok progOk (slices_IndexFunc_LLI_LI_gok N)) (fun R k x ks => slices_IndexFunc_LLI_LI_l0_again N ks k x) (fun _ _ _ => rfl) (fun R k x ks => slices_IndexFunc_LLI_LI_l0_step N R k x ks) (fun R x ks r h => ⟨N, h⟩) (lsOk_at (L := []) trivial) (by kernel_rfl) (by kernel_rfl)
noncomputable def slices_IndexFunc_LLI_LI (N : Nat) (s : (List (List Int))) (f : ((List Int) → Option Bool)) : Option ((Int × Unit) × (Unit)) :=
  slices_IndexFunc_LLI_LI_l0 N (fun x => some ((x, ()), ())) (fun (_ : Unit) => some (((-1), ()), ())) N s f (tLen s) 0
noncomputable def slices_IndexFunc_LLI_LI_S (N : Nat) : FSum := ⟨slices_IndexFunc_LLI_LI_ps, slices_IndexFunc_LLI_LI_rs, fun x => slices_IndexFunc_LLI_LI N x.1 x.2.1⟩
theorem slices_IndexFunc_LLI_LI_run (N : Nat) (x : argsT slices_IndexFunc_LLI_LI_ps) : slices_IndexFunc_LLI_LI N x.1 x.2.1 = funF (slices_IndexFunc_LLI_LI_G N) tab [slices_IndexFunc_LLI_LI_l0_s N] Try.f207 slices_IndexFunc_LLI_LI_ps slices_IndexFunc_LLI_LI_rs x := by kernel_rfl
theorem slices_IndexFunc_LLI_LI_pc (N : Nat) : PC Try.prog 207 (slices_IndexFunc_LLI_LI_S N) := by
  have e : slices_IndexFunc_LLI_LI_S N = ⟨slices_IndexFunc_LLI_LI_ps, slices_IndexFunc_LLI_LI_rs, funF (slices_IndexFunc_LLI_LI_G N) tab [slices_IndexFunc_LLI_LI_l0_s N] Try.f207 slices_IndexFunc_LLI_LI_ps slices_IndexFunc_LLI_LI_rs⟩ := congrArg (FSum.mk slices_IndexFunc_LLI_LI_ps slices_IndexFunc_LLI_LI_rs) (funext (slices_IndexFunc_LLI_LI_run N))
  rw [e]
  exact fun_ok (c := slices_IndexFunc_LLI_LI_code) progOk (slices_IndexFunc_LLI_LI_gok N) (draw_ok progOk (slices_IndexFunc_LLI_LI_gok N)) Try.call207 Try.func207 (by kernel_rfl) (lsOk_at (L := [slices_IndexFunc_LLI_LI_l0_s N]) ⟨slices_IndexFunc_LLI_LI_l0_ok N, trivial⟩) (by kernel_rfl) (by kernel_rfl) (by kernel_rfl) (by kernel_rfl) (by kernel_rfl)

/-! ### slices_ContainsFunc_LLI_LI -/
abbrev slices_ContainsFunc_LLI_LI_ps : List (PV.Mode × Ty) := [(.ro, LLI), (.ro, FLIBo)]
abbrev slices_ContainsFunc_LLI_LI_rs : List (Bool × Ty) := [(true, .bool)]
noncomputable def slices_ContainsFunc_LLI_LI_G (N : Nat) : GTab := gOf [(207, slices_IndexFunc_LLI_LI_S N)]
theorem slices_ContainsFunc_LLI_LI_gok (N : Nat) : GOk Try.prog (slices_ContainsFunc_LLI_LI_G N) := gOf_ok ⟨slices_IndexFunc_LLI_LI_pc N, trivial⟩
noncomputable def slices_ContainsFunc_LLI_LI_code : Code := (Try.f158.body).getD .skip
noncomputable def slices_ContainsFunc_LLI_LI (N : Nat) (s : (List (List Int))) (f : ((List Int) → Option Bool)) : Option ((Bool × Unit) × (Unit)) :=
  ((slices_IndexFunc_LLI_LI N s f).bind fun r =>
    some (((ile 0 r.1.1), ()), ()))
noncomputable def slices_ContainsFunc_LLI_LI_S (N : Nat) : FSum := ⟨slices_ContainsFunc_LLI_LI_ps, slices_ContainsFunc_LLI_LI_rs, fun x => slices_ContainsFunc_LLI_LI N x.1 x.2.1⟩
theorem slices_ContainsFunc_LLI_LI_run (N : Nat) (x : argsT slices_ContainsFunc_LLI_LI_ps) : slices_ContainsFunc_LLI_LI N x.1 x.2.1 = funF (slices_ContainsFunc_LLI_LI_G N) tab [] Try.f158 slices_ContainsFunc_LLI_LI_ps slices_ContainsFunc_LLI_LI_rs x := by kernel_rfl
theorem slices_ContainsFunc_LLI_LI_pc (N : Nat) : PC Try.prog 158 (slices_ContainsFunc_LLI_LI_S N) := by
  have e : slices_ContainsFunc_LLI_LI_S N = ⟨slices_ContainsFunc_LLI_LI_ps, slices_ContainsFunc_LLI_LI_rs, funF (slices_ContainsFunc_LLI_LI_G N) tab [] Try.f158 slices_ContainsFunc_LLI_LI_ps slices_ContainsFunc_LLI_LI_rs⟩ := congrArg (FSum.mk slices_ContainsFunc_LLI_LI_ps slices_ContainsFunc_LLI_LI_rs) (funext (slices_ContainsFunc_LLI_LI_run N))
  rw [e]
  exact fun_ok (c := slices_ContainsFunc_LLI_LI_code) progOk (slices_ContainsFunc_LLI_LI_gok N) (draw_ok progOk (slices_ContainsFunc_LLI_LI_gok N)) Try.call158 Try.func158 (by kernel_rfl) (lsOk_at (L := []) trivial) (by kernel_rfl) (by kernel_rfl) (by kernel_rfl) (by kernel_rfl) (by kernel_rfl)

/-! ### impl_isRising -/
abbrev impl_isRising_ps : List (PV.Mode × Ty) := [(.ro, LI), (.ro, I)]
abbrev impl_isRising_rs : List (Bool × Ty) := [(true, .bool)]
noncomputable def impl_isRising_G (N : Nat) : GTab := gOf [(90, impl_between_S N)]
theorem impl_isRising_gok (N : Nat) : GOk Try.prog (impl_isRising_G N) := gOf_ok ⟨impl_between_pc N, trivial⟩
noncomputable def impl_isRising_code : Code := (Try.f160.body).getD .skip
noncomputable def impl_isRising_l0_sh : Sh := ⟨[(0, .one (.ro LI)), (1, .one (.ro I)), (7, .one (.ro LI)), (8, .one (.ro I)), (9, .one (.ro I))], []⟩
noncomputable def impl_isRising_l0_ex : List (Ex × Sh) := [(.ret, ⟨[(4, .one (.ro .bool))], []⟩), (.exit 0, ⟨[], []⟩)]
noncomputable def impl_isRising_l0 {R : Type} (N : Nat) (k0 : Bool → Option R) (k1 : Unit → Option R) : Nat → (List Int) → Int → (List Int) → Int → Int → Option R
  | 0, _, _, _, _, _ => none
  | K + 1, list1, below1, x, x1, x2 =>
    (br (ilt x2 x1)
      ((chk (inb x x2)
        ((impl_between N (rdI x x2) 0 (IntKind.i64.wrap (below1 - 1))).bind fun r =>
        (br (!r.1.1)
          (k0 false)
          ((br (ilt 0 x2)
            ((chk (inb list1 (IntKind.i64.wrap (x2 - 1)))
              (br (ile (rdI x x2) (rdI list1 (IntKind.i64.wrap (x2 - 1))))
              (k0 false)
              (impl_isRising_l0 N k0 k1 K list1 below1 x x1 (IntKind.i64.wrap (x2 + 1))))))
            (impl_isRising_l0 N k0 k1 K list1 below1 x x1 (IntKind.i64.wrap (x2 + 1)))))))))
      (k1 ()))
noncomputable def impl_isRising_l0_again {R : Type} (N : Nat) (ks : (j : Nat) → ((impl_isRising_l0_ex.getD j (.ret, Sh.none)).2).T → Option R) (k : Nat) (x : impl_isRising_l0_sh.T) : Option R :=
  impl_isRising_l0 N (fun y0 => ks 0 ((y0, ()), ())) (fun (_ : Unit) => ks 1 ((), ())) k x.1.1 x.1.2.1 x.1.2.2.1 x.1.2.2.2.1 x.1.2.2.2.2.1
noncomputable def impl_isRising_l0_s (N : Nat) : LSum := ⟨impl_isRising_l0_sh, impl_isRising_l0_ex, fun x ks => impl_isRising_l0_again N ks N x⟩
theorem impl_isRising_l0_step (N : Nat) (R : Type) (k : Nat) (x : impl_isRising_l0_sh.T) (ks : (j : Nat) → ((impl_isRising_l0_ex.getD j (.ret, Sh.none)).2).T → Option R) : impl_isRising_l0_again N ks (k + 1) x = roundF (impl_isRising_G N) tab [] (loopAt impl_isRising_code 0) impl_isRising_l0_sh impl_isRising_l0_ex (fun y => impl_isRising_l0_again N ks k y) ks x := by kernel_rfl
theorem impl_isRising_l0_ok (N : Nat) : LoopOk Try.prog Try.f160.ntmps (impl_isRising_l0_s N) (loopAt impl_isRising_code 0) :=
  loop_ok (l := impl_isRising_l0_s N) progOk (impl_isRising_gok N) (draw_ok progOk (impl_isRising_gok N)) (fun R k x ks => impl_isRising_l0_again N ks k x) (fun _ _ _ => rfl) (fun R k x ks => impl_isRising_l0_step N R k x ks) (fun R x ks r h => ⟨N, h⟩) (lsOk_at (L := []) trivial) (by kernel_rfl) (by kernel_rfl)
noncomputable def impl_isRising (N : Nat) (list : (List Int)) (below : Int) : Option ((Bool × Unit) × (Unit)) :=
  impl_isRising_l0 N (fun x => some ((x, ()), ())) (fun (_ : Unit) => some ((true, ()), ())) N list below list (tLen list) 0
noncomputable def impl_isRising_S (N : Nat) : FSum := ⟨impl_isRising_ps, impl_isRising_rs, fun x => impl_isRising N x.1 x.2.1⟩
theorem impl_isRising_run (N : Nat) (x : argsT impl_isRising_ps) : impl_isRising N x.1 x.2.1 = funF (impl_isRising_G N) tab [impl_isRising_l0_s N] Try.f160 impl_isRising_ps impl_isRising_rs x := by kernel_rfl
theorem impl_isRising_pc (N : Nat) : PC Try.prog 160 (impl_isRising_S N) := by
  have e : impl_isRising_S N = ⟨impl_isRising_ps, impl_isRising_rs, funF (impl_isRising_G N) tab [impl_isRising_l0_s N] Try.f160 impl_isRising_ps impl_isRising_rs⟩ := congrArg (FSum.mk impl_isRising_ps impl_isRising_rs) (funext (impl_isRising_run N))
  rw [e]
  exact fun_ok (c := impl_isRising_code) progOk (impl_isRising_gok N) (draw_ok progOk (impl_isRising_gok N)) Try.call160 Try.func160 (by kernel_rfl) (lsOk_at (L := [impl_isRising_l0_s N]) ⟨impl_isRising_l0_ok N, trivial⟩) (by kernel_rfl) (by kernel_rfl) (by kernel_rfl) (by kernel_rfl) (by kernel_rfl)

/-! ### impl_IsParity_c1 -/
abbrev impl_IsParity_c1_ps : List (PV.Mode × Ty) := [(.ro, LI), (.ro, AQIQLLILI)]
abbrev impl_IsParity_c1_rs : List (Bool × Ty) := [(true, .bool)]
noncomputable def impl_IsParity_c1_G (N : Nat) : GTab := gOf [(160, impl_isRising_S N)]
theorem impl_IsParity_c1_gok (N : Nat) : GOk Try.prog (impl_IsParity_c1_G N) := gOf_ok ⟨impl_isRising_pc N, trivial⟩
noncomputable def impl_IsParity_c1_code : Code := (Try.f175.body).getD .skip
noncomputable def impl_IsParity_c1 (N : Nat) (row : (List Int)) (c : (Int × ((List (List Int)) × (List Int)))) : Option ((Bool × Unit) × (Unit)) :=
  ((impl_isRising N row c.1).bind fun r =>
    some (((!r.1.1), ()), ()))
noncomputable def impl_IsParity_c1_S (N : Nat) : FSum := ⟨impl_IsParity_c1_ps, impl_IsParity_c1_rs, fun x => impl_IsParity_c1 N x.1 x.2.1⟩
theorem impl_IsParity_c1_run (N : Nat) (x : argsT impl_IsParity_c1_ps) : impl_IsParity_c1 N x.1 x.2.1 = funF (impl_IsParity_c1_G N) tab [] Try.f175 impl_IsParity_c1_ps impl_IsParity_c1_rs x := by kernel_rfl
theorem impl_IsParity_c1_pc (N : Nat) : PC Try.prog 175 (impl_IsParity_c1_S N) := by
  have e : impl_IsParity_c1_S N = ⟨impl_IsParity_c1_ps, impl_IsParity_c1_rs, funF (impl_IsParity_c1_G N) tab [] Try.f175 impl_IsParity_c1_ps impl_IsParity_c1_rs⟩ := congrArg (FSum.mk impl_IsParity_c1_ps impl_IsParity_c1_rs) (funext (impl_IsParity_c1_run N))
  rw [e]
  exact fun_ok (c := impl_IsParity_c1_code) progOk (impl_IsParity_c1_gok N) (draw_ok progOk (impl_IsParity_c1_gok N)) Try.call175 Try.func175 (by kernel_rfl) (lsOk_at (L := []) trivial) (by kernel_rfl) (by kernel_rfl) (by kernel_rfl) (by kernel_rfl) (by kernel_rfl)

/-! ### impl_IsParity -/
abbrev impl_IsParity_ps : List (PV.Mode × Ty) := [(.ro, QIQLLILI)]
abbrev impl_IsParity_rs : List (Bool × Ty) := [(true, .bool)]
noncomputable def impl_IsParity_G (N : Nat) : GTab := gOf [(90, impl_between_S N), (174, impl_isAssignment_S N), (158, slices_ContainsFunc_LLI_LI_S N), (175, impl_IsParity_c1_S N)]
theorem impl_IsParity_gok (N : Nat) : GOk Try.prog (impl_IsParity_G N) := gOf_ok ⟨impl_between_pc N, impl_isAssignment_pc N, slices_ContainsFunc_LLI_LI_pc N, impl_IsParity_c1_pc N, trivial⟩
noncomputable def impl_IsParity_code : Code := (Try.f113.body).getD .skip
noncomputable def impl_IsParity (N : Nat) (p : (Int × ((List (List Int)) × (List Int)))) : Option ((Bool × Unit) × (Unit)) :=
  ((impl_between N p.1 0 6).bind fun r =>
    (br r.1.1
      ((br (ile (tLen p.2.1) 6)
        (((impl_isAssignment N (tLen p.2.1) p.2.2).bind fun r1 =>
          (br r1.1.1
            (((slices_ContainsFunc_LLI_LI N p.2.1 (fun y0 => (impl_IsParity_c1 N y0 (p.1, (p.2.1, p.2.2))).bind fun z => some z.1.1)).bind fun r2 =>
              some (((!r2.1.1), ()), ())))
            (some ((false, ()), ())))))
        (some ((false, ()), ()))))
      (some ((false, ()), ()))))
noncomputable def impl_IsParity_S (N : Nat) : FSum := ⟨impl_IsParity_ps, impl_IsParity_rs, fun x => impl_IsParity N x.1⟩
theorem impl_IsParity_run (N : Nat) (x : argsT impl_IsParity_ps) : impl_IsParity N x.1 = funF (impl_IsParity_G N) tab [] Try.f113 impl_IsParity_ps impl_IsParity_rs x := by kernel_rfl
theorem impl_IsParity_pc (N : Nat) : PC Try.prog 113 (impl_IsParity_S N) := by
  have e : impl_IsParity_S N = ⟨impl_IsParity_ps, impl_IsParity_rs, funF (impl_IsParity_G N) tab [] Try.f113 impl_IsParity_ps impl_IsParity_rs⟩ := congrArg (FSum.mk impl_IsParity_ps impl_IsParity_rs) (funext (impl_IsParity_run N))
  rw [e]
  exact fun_ok (c := impl_IsParity_code) progOk (impl_IsParity_gok N) (draw_ok progOk (impl_IsParity_gok N)) Try.call113 Try.func113 (by kernel_rfl) (lsOk_at (L := []) trivial) (by kernel_rfl) (by kernel_rfl) (by kernel_rfl) (by kernel_rfl) (by kernel_rfl)
end Go.Proofs.Ytfbkjgeaoafejaa
