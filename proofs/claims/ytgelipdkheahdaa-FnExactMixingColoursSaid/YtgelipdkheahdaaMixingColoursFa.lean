/- Functions of the program as functions on data. -/
import Derived.Test.YtgelipdkheahdaaMixingColoursSa
set_option linter.all false
namespace Go.Proofs.Ytgelipdkheahdaa
open Go Go.PV
/-! ### laws_szIntA2S -/
abbrev laws_szIntA2S_ps : List (PV.Mode × Ty) := [(.ro, LQII), (.ro, I)]
abbrev laws_szIntA2S_rs : List (Bool × Ty) := [(true, I)]
noncomputable def laws_szIntA2S_G (N : Nat) : GTab := gOf []
theorem laws_szIntA2S_gok (N : Nat) : GOk Try.prog (laws_szIntA2S_G N) := gOf_ok trivial
noncomputable def laws_szIntA2S_code : Code := (Try.f33.body).getD .skip
noncomputable def laws_szIntA2S (N : Nat) (a : (List (Int × Int))) (left : Int) : Option ((Int × Unit) × (Unit)) :=
  (br (ilt (IntKind.i64.wrap (left - (tLen a))) 0)
    (some (((-1), ()), ()))
    (some (((IntKind.i64.wrap (left - (tLen a))), ()), ())))
noncomputable def laws_szIntA2S_S (N : Nat) : FSum := ⟨laws_szIntA2S_ps, laws_szIntA2S_rs, fun x => laws_szIntA2S N x.1 x.2.1⟩
theorem laws_szIntA2S_run (N : Nat) (x : argsT laws_szIntA2S_ps) : laws_szIntA2S N x.1 x.2.1 = funF (laws_szIntA2S_G N) tab [] Try.f33 laws_szIntA2S_ps laws_szIntA2S_rs x := by kernel_rfl
theorem laws_szIntA2S_pc (N : Nat) : PC Try.prog 33 (laws_szIntA2S_S N) := by
  have e : laws_szIntA2S_S N = ⟨laws_szIntA2S_ps, laws_szIntA2S_rs, funF (laws_szIntA2S_G N) tab [] Try.f33 laws_szIntA2S_ps laws_szIntA2S_rs⟩ := congrArg (FSum.mk laws_szIntA2S_ps laws_szIntA2S_rs) (funext (laws_szIntA2S_run N))
  rw [e]
  exact fun_ok (c := laws_szIntA2S_code) progOk (laws_szIntA2S_gok N) (draw_ok progOk (laws_szIntA2S_gok N)) Try.call33 Try.func33 (by kernel_rfl) (lsOk_at (L := []) trivial) (by kernel_rfl) (by kernel_rfl) (by kernel_rfl) (by kernel_rfl) (by kernel_rfl)

/-! ### laws_szGraph -/
abbrev laws_szGraph_ps : List (PV.Mode × Ty) := [(.ro, QILQII), (.ro, I)]
abbrev laws_szGraph_rs : List (Bool × Ty) := [(true, I)]
noncomputable def laws_szGraph_G (N : Nat) : GTab := gOf [(33, laws_szIntA2S_S N)]
theorem laws_szGraph_gok (N : Nat) : GOk Try.prog (laws_szGraph_G N) := gOf_ok ⟨laws_szIntA2S_pc N, trivial⟩
noncomputable def laws_szGraph_code : Code := (Try.f9.body).getD .skip
noncomputable def laws_szGraph (N : Nat) (a : (Int × (List (Int × Int)))) (left : Int) : Option ((Int × Unit) × (Unit)) :=
  ((laws_szIntA2S N a.2 left).bind fun r =>
    (br (ilt r.1.1 0)
      (some (((-1), ()), ()))
      (some ((r.1.1, ()), ()))))
noncomputable def laws_szGraph_S (N : Nat) : FSum := ⟨laws_szGraph_ps, laws_szGraph_rs, fun x => laws_szGraph N x.1 x.2.1⟩
theorem laws_szGraph_run (N : Nat) (x : argsT laws_szGraph_ps) : laws_szGraph N x.1 x.2.1 = funF (laws_szGraph_G N) tab [] Try.f9 laws_szGraph_ps laws_szGraph_rs x := by kernel_rfl
theorem laws_szGraph_pc (N : Nat) : PC Try.prog 9 (laws_szGraph_S N) := by
  have e : laws_szGraph_S N = ⟨laws_szGraph_ps, laws_szGraph_rs, funF (laws_szGraph_G N) tab [] Try.f9 laws_szGraph_ps laws_szGraph_rs⟩ := congrArg (FSum.mk laws_szGraph_ps laws_szGraph_rs) (funext (laws_szGraph_run N))
  rw [e]
  exact fun_ok (c := laws_szGraph_code) progOk (laws_szGraph_gok N) (draw_ok progOk (laws_szGraph_gok N)) Try.call9 Try.func9 (by kernel_rfl) (lsOk_at (L := []) trivial) (by kernel_rfl) (by kernel_rfl) (by kernel_rfl) (by kernel_rfl) (by kernel_rfl)

/-! ### laws_toIntA2 -/
abbrev laws_toIntA2_ps : List (PV.Mode × Ty) := [(.ro, QII)]
abbrev laws_toIntA2_rs : List (Bool × Ty) := [(true, QII)]
noncomputable def laws_toIntA2_G (N : Nat) : GTab := gOf []
theorem laws_toIntA2_gok (N : Nat) : GOk Try.prog (laws_toIntA2_G N) := gOf_ok trivial
noncomputable def laws_toIntA2_code : Code := (Try.f68.body).getD .skip
noncomputable def laws_toIntA2_l0_sh : Sh := ⟨[(1, .one (.adr 0 0)), (2, .one (.adr 1 0)), (3, .one (.adr 2 0)), (4, .one (.num .i64 0))], [.box [.ro I, .ro I], .box [.ro I, .ro I], .box [.ro I, .ro I]]⟩
noncomputable def laws_toIntA2_l0_ex : List (Ex × Sh) := [(.exit 0, ⟨[(2, .one (.adr 0 0)), (3, .one (.adr 1 0))], [.box [.ro I, .ro I], .box [.ro I, .ro I]]⟩)]
noncomputable def laws_toIntA2_l0 {R : Type} (N : Nat) (k0 : Int → Int → Int → Int → Option R) (_ : Nat) (o6 : Int) (o7 : Int) (o8 : Int) (o9 : Int) (o10 : Int) (o11 : Int) : Option R :=
  k0 o8 o9 o6 o7
noncomputable def laws_toIntA2_l0_again {R : Type} (N : Nat) (ks : (j : Nat) → ((laws_toIntA2_l0_ex.getD j (.ret, Sh.none)).2).T → Option R) (x : laws_toIntA2_l0_sh.T) : Option R :=
  laws_toIntA2_l0 N (fun y0 y1 y2 y3 => ks 0 (((), (), ()), ((y0, y1, ()), (y2, y3, ()), ()))) N x.2.1.1 x.2.1.2.1 x.2.2.1.1 x.2.2.1.2.1 x.2.2.2.1.1 x.2.2.2.1.2.1
noncomputable def laws_toIntA2_l0_s (N : Nat) : LSum := ⟨laws_toIntA2_l0_sh, laws_toIntA2_l0_ex, fun x ks => laws_toIntA2_l0_again N ks x⟩
theorem laws_toIntA2_l0_unr (N : Nat) (R : Type) (x : laws_toIntA2_l0_sh.T) (ks : (j : Nat) → ((laws_toIntA2_l0_ex.getD j (.ret, Sh.none)).2).T → Option R) : laws_toIntA2_l0_again N ks x = unrF (laws_toIntA2_G N) tab (loopAt laws_toIntA2_code 0) laws_toIntA2_l0_ex ks 3 (fill laws_toIntA2_l0_sh x) := by kernel_rfl
theorem laws_toIntA2_l0_ok (N : Nat) : LoopOk Try.prog Try.f68.ntmps (laws_toIntA2_l0_s N) (loopAt laws_toIntA2_code 0) :=
  unroll_ok (l := laws_toIntA2_l0_s N) progOk (laws_toIntA2_gok N) (draw_ok progOk (laws_toIntA2_gok N)) (fun R x ks r h => ⟨3, (laws_toIntA2_l0_unr N R x ks).symm.trans h⟩) (by kernel_rfl) (by kernel_rfl)
noncomputable def laws_toIntA2 (N : Nat) (a : (Int × Int)) : Option (((Int × Int) × Unit) × (Unit)) :=
  laws_toIntA2_l0 N (fun o6 o7 o8 o9 => some (((o8, o9), ()), ())) N a.1 a.2 0 0 0 0
noncomputable def laws_toIntA2_S (N : Nat) : FSum := ⟨laws_toIntA2_ps, laws_toIntA2_rs, fun x => laws_toIntA2 N x.1⟩
theorem laws_toIntA2_run (N : Nat) (x : argsT laws_toIntA2_ps) : laws_toIntA2 N x.1 = funF (laws_toIntA2_G N) tab [laws_toIntA2_l0_s N] Try.f68 laws_toIntA2_ps laws_toIntA2_rs x := by kernel_rfl
theorem laws_toIntA2_pc (N : Nat) : PC Try.prog 68 (laws_toIntA2_S N) := by
  have e : laws_toIntA2_S N = ⟨laws_toIntA2_ps, laws_toIntA2_rs, funF (laws_toIntA2_G N) tab [laws_toIntA2_l0_s N] Try.f68 laws_toIntA2_ps laws_toIntA2_rs⟩ := congrArg (FSum.mk laws_toIntA2_ps laws_toIntA2_rs) (funext (laws_toIntA2_run N))
  rw [e]
  exact fun_ok (c := laws_toIntA2_code) progOk (laws_toIntA2_gok N) (draw_ok progOk (laws_toIntA2_gok N)) Try.call68 Try.func68 (by kernel_rfl) (lsOk_at (L := [laws_toIntA2_l0_s N]) ⟨laws_toIntA2_l0_ok N, trivial⟩) (by kernel_rfl) (by kernel_rfl) (by kernel_rfl) (by kernel_rfl) (by kernel_rfl)

/-! ### laws_toIntA2S -/
abbrev laws_toIntA2S_ps : List (PV.Mode × Ty) := [(.ro, LQII)]
abbrev laws_toIntA2S_rs : List (Bool × Ty) := [(true, LQII)]
noncomputable def laws_toIntA2S_G (N : Nat) : GTab := gOf [(68, laws_toIntA2_S N)]
theorem laws_toIntA2S_gok (N : Nat) : GOk Try.prog (laws_toIntA2S_G N) := gOf_ok ⟨laws_toIntA2_pc N, trivial⟩
noncomputable def laws_toIntA2S_code : Code := (Try.f38.body).getD .skip
noncomputable def laws_toIntA2S_l0_sh : Sh := ⟨[(0, .one (.ro LQII)), (3, .one (.ref 0)), (4, .one (.ro I))], [.sl 80 QII .own]⟩
noncomputable def laws_toIntA2S_l0_ex : List (Ex × Sh) := [(.exit 0, ⟨[(3, .one (.ref 0))], [.sl 80 QII .own]⟩)]
noncomputable def laws_toIntA2S_l0 {R : Type} (N : Nat) (k0 : (List (Int × Int)) → Option R) : Nat → (List (Int × Int)) → Int → (List (Int × Int)) → Option R
  | 0, _, _, _ => none
  | K + 1, a1, i, o =>
    (br (ilt i (tLen a1))
      ((chk (inb a1 i)
        ((laws_toIntA2 N (rdP a1 i)).bind fun r =>
        (chk (inb o i)
          (laws_toIntA2S_l0 N k0 K a1 (IntKind.i64.wrap (i + 1)) (tSet o i (r.1.1.1, r.1.1.2)))))))
      (k0 o))
noncomputable def laws_toIntA2S_l0_again {R : Type} (N : Nat) (ks : (j : Nat) → ((laws_toIntA2S_l0_ex.getD j (.ret, Sh.none)).2).T → Option R) (k : Nat) (x : laws_toIntA2S_l0_sh.T) : Option R :=
  laws_toIntA2S_l0 N (fun y0 => ks 0 (((), ()), (y0, ()))) k x.1.1 x.1.2.2.1 x.2.1
noncomputable def laws_toIntA2S_l0_s (N : Nat) : LSum := ⟨laws_toIntA2S_l0_sh, laws_toIntA2S_l0_ex, fun x ks => laws_toIntA2S_l0_again N ks N x⟩
theorem laws_toIntA2S_l0_step (N : Nat) (R : Type) (k : Nat) (x : laws_toIntA2S_l0_sh.T) (ks : (j : Nat) → ((laws_toIntA2S_l0_ex.getD j (.ret, Sh.none)).2).T → Option R) : laws_toIntA2S_l0_again N ks (k + 1) x = roundF (laws_toIntA2S_G N) tab [] (loopAt laws_toIntA2S_code 0) laws_toIntA2S_l0_sh laws_toIntA2S_l0_ex (fun y => laws_toIntA2S_l0_again N ks k y) ks x := by kernel_rfl
theorem laws_toIntA2S_l0_ok (N : Nat) : LoopOk Try.prog Try.f38.ntmps (laws_toIntA2S_l0_s N) (loopAt laws_toIntA2S_code 0) :=
  loop_ok (l := laws_toIntA2S_l0_s N) progOk (laws_toIntA2S_gok N) (draw_ok progOk (laws_toIntA2S_gok N)) (fun R k x ks => laws_toIntA2S_l0_again N ks k x) (fun _ _ _ => rfl) (fun R k x ks => laws_toIntA2S_l0_step N R k x ks) (fun R x ks r h => ⟨N, h⟩) (lsOk_at (L := []) trivial) (by kernel_rfl) (by kernel_rfl)
noncomputable def laws_toIntA2S (N : Nat) (a : (List (Int × Int))) : Option (((List (Int × Int)) × Unit) × (Unit)) :=
  (chk (ile 0 (tLen a) && ile (tLen a) (tLen a) && fits (tLen a))
    (laws_toIntA2S_l0 N (fun o => some ((o, ()), ())) N a 0 (tRep (tLen a) (0, 0))))
noncomputable def laws_toIntA2S_S (N : Nat) : FSum := ⟨laws_toIntA2S_ps, laws_toIntA2S_rs, fun x => laws_toIntA2S N x.1⟩
theorem laws_toIntA2S_run (N : Nat) (x : argsT laws_toIntA2S_ps) : laws_toIntA2S N x.1 = funF (laws_toIntA2S_G N) tab [laws_toIntA2S_l0_s N] Try.f38 laws_toIntA2S_ps laws_toIntA2S_rs x := by kernel_rfl
theorem laws_toIntA2S_pc (N : Nat) : PC Try.prog 38 (laws_toIntA2S_S N) := by
  have e : laws_toIntA2S_S N = ⟨laws_toIntA2S_ps, laws_toIntA2S_rs, funF (laws_toIntA2S_G N) tab [laws_toIntA2S_l0_s N] Try.f38 laws_toIntA2S_ps laws_toIntA2S_rs⟩ := congrArg (FSum.mk laws_toIntA2S_ps laws_toIntA2S_rs) (funext (laws_toIntA2S_run N))
  rw [e]
  exact fun_ok (c := laws_toIntA2S_code) progOk (laws_toIntA2S_gok N) (draw_ok progOk (laws_toIntA2S_gok N)) Try.call38 Try.func38 (by kernel_rfl) (lsOk_at (L := [laws_toIntA2S_l0_s N]) ⟨laws_toIntA2S_l0_ok N, trivial⟩) (by kernel_rfl) (by kernel_rfl) (by kernel_rfl) (by kernel_rfl) (by kernel_rfl)

/-! ### laws_toGraph -/
abbrev laws_toGraph_ps : List (PV.Mode × Ty) := [(.ro, QILQII)]
abbrev laws_toGraph_rs : List (Bool × Ty) := [(true, QILQII)]
noncomputable def laws_toGraph_G (N : Nat) : GTab := gOf [(38, laws_toIntA2S_S N)]
theorem laws_toGraph_gok (N : Nat) : GOk Try.prog (laws_toGraph_G N) := gOf_ok ⟨laws_toIntA2S_pc N, trivial⟩
noncomputable def laws_toGraph_code : Code := (Try.f11.body).getD .skip
noncomputable def laws_toGraph (N : Nat) (a : (Int × (List (Int × Int)))) : Option (((Int × (List (Int × Int))) × Unit) × (Unit)) :=
  ((laws_toIntA2S N a.2).bind fun r =>
    some (((a.1, r.1.1), ()), ()))
noncomputable def laws_toGraph_S (N : Nat) : FSum := ⟨laws_toGraph_ps, laws_toGraph_rs, fun x => laws_toGraph N x.1⟩
theorem laws_toGraph_run (N : Nat) (x : argsT laws_toGraph_ps) : laws_toGraph N x.1 = funF (laws_toGraph_G N) tab [] Try.f11 laws_toGraph_ps laws_toGraph_rs x := by kernel_rfl
theorem laws_toGraph_pc (N : Nat) : PC Try.prog 11 (laws_toGraph_S N) := by
  have e : laws_toGraph_S N = ⟨laws_toGraph_ps, laws_toGraph_rs, funF (laws_toGraph_G N) tab [] Try.f11 laws_toGraph_ps laws_toGraph_rs⟩ := congrArg (FSum.mk laws_toGraph_ps laws_toGraph_rs) (funext (laws_toGraph_run N))
  rw [e]
  exact fun_ok (c := laws_toGraph_code) progOk (laws_toGraph_gok N) (draw_ok progOk (laws_toGraph_gok N)) Try.call11 Try.func11 (by kernel_rfl) (lsOk_at (L := []) trivial) (by kernel_rfl) (by kernel_rfl) (by kernel_rfl) (by kernel_rfl) (by kernel_rfl)

/-! ### spec_l1In -/
abbrev spec_l1In_ps : List (PV.Mode × Ty) := [(.ro, I), (.ro, I), (.ro, I)]
abbrev spec_l1In_rs : List (Bool × Ty) := [(true, .bool)]
noncomputable def spec_l1In_G (N : Nat) : GTab := gOf []
theorem spec_l1In_gok (N : Nat) : GOk Try.prog (spec_l1In_G N) := gOf_ok trivial
noncomputable def spec_l1In_code : Code := (Try.f75.body).getD .skip
noncomputable def spec_l1In (N : Nat) (x : Int) (a : Int) (b : Int) : Option ((Bool × Unit) × (Unit)) :=
  (br (ile a x)
    (some (((ile x b), ()), ()))
    (some ((false, ()), ())))
noncomputable def spec_l1In_S (N : Nat) : FSum := ⟨spec_l1In_ps, spec_l1In_rs, fun x => spec_l1In N x.1 x.2.1 x.2.2.1⟩
theorem spec_l1In_run (N : Nat) (x : argsT spec_l1In_ps) : spec_l1In N x.1 x.2.1 x.2.2.1 = funF (spec_l1In_G N) tab [] Try.f75 spec_l1In_ps spec_l1In_rs x := by kernel_rfl
theorem spec_l1In_pc (N : Nat) : PC Try.prog 75 (spec_l1In_S N) := by
  have e : spec_l1In_S N = ⟨spec_l1In_ps, spec_l1In_rs, funF (spec_l1In_G N) tab [] Try.f75 spec_l1In_ps spec_l1In_rs⟩ := congrArg (FSum.mk spec_l1In_ps spec_l1In_rs) (funext (spec_l1In_run N))
  rw [e]
  exact fun_ok (c := spec_l1In_code) progOk (spec_l1In_gok N) (draw_ok progOk (spec_l1In_gok N)) Try.call75 Try.func75 (by kernel_rfl) (lsOk_at (L := []) trivial) (by kernel_rfl) (by kernel_rfl) (by kernel_rfl) (by kernel_rfl) (by kernel_rfl)

/-! ### spec_l2Edge -/
abbrev spec_l2Edge_ps : List (PV.Mode × Ty) := [(.ro, QII), (.ro, QII)]
abbrev spec_l2Edge_rs : List (Bool × Ty) := [(true, .bool)]
noncomputable def spec_l2Edge_G (N : Nat) : GTab := gOf []
theorem spec_l2Edge_gok (N : Nat) : GOk Try.prog (spec_l2Edge_G N) := gOf_ok trivial
noncomputable def spec_l2Edge_code : Code := (Try.f136.body).getD .skip
noncomputable def spec_l2Edge (N : Nat) (a : (Int × Int)) (b : (Int × Int)) : Option ((Bool × Unit) × (Unit)) :=
  (br (ilt a.1 b.1)
    (some ((true, ()), ()))
    ((br (ieq a.1 b.1)
      (some (((ilt a.2 b.2), ()), ()))
      (some ((false, ()), ())))))
noncomputable def spec_l2Edge_S (N : Nat) : FSum := ⟨spec_l2Edge_ps, spec_l2Edge_rs, fun x => spec_l2Edge N x.1 x.2.1⟩
theorem spec_l2Edge_run (N : Nat) (x : argsT spec_l2Edge_ps) : spec_l2Edge N x.1 x.2.1 = funF (spec_l2Edge_G N) tab [] Try.f136 spec_l2Edge_ps spec_l2Edge_rs x := by kernel_rfl
theorem spec_l2Edge_pc (N : Nat) : PC Try.prog 136 (spec_l2Edge_S N) := by
  have e : spec_l2Edge_S N = ⟨spec_l2Edge_ps, spec_l2Edge_rs, funF (spec_l2Edge_G N) tab [] Try.f136 spec_l2Edge_ps spec_l2Edge_rs⟩ := congrArg (FSum.mk spec_l2Edge_ps spec_l2Edge_rs) (funext (spec_l2Edge_run N))
  rw [e]
  exact fun_ok (c := spec_l2Edge_code) progOk (spec_l2Edge_gok N) (draw_ok progOk (spec_l2Edge_gok N)) Try.call136 Try.func136 (by kernel_rfl) (lsOk_at (L := []) trivial) (by kernel_rfl) (by kernel_rfl) (by kernel_rfl) (by kernel_rfl) (by kernel_rfl)

/-! ### spec_l2Pairs -/
abbrev spec_l2Pairs_ps : List (PV.Mode × Ty) := [(.ro, LQII), (.ro, I)]
abbrev spec_l2Pairs_rs : List (Bool × Ty) := [(true, .bool)]
noncomputable def spec_l2Pairs_G (N : Nat) : GTab := gOf [(75, spec_l1In_S N), (136, spec_l2Edge_S N)]
theorem spec_l2Pairs_gok (N : Nat) : GOk Try.prog (spec_l2Pairs_G N) := gOf_ok ⟨spec_l1In_pc N, spec_l2Edge_pc N, trivial⟩
noncomputable def spec_l2Pairs_code : Code := (Try.f116.body).getD .skip
noncomputable def spec_l2Pairs_l0_sh : Sh := ⟨[(0, .one (.ro LQII)), (1, .one (.ro I)), (5, .one (.ro I))], []⟩
noncomputable def spec_l2Pairs_l0_ex : List (Ex × Sh) := [(.ret, ⟨[(4, .one (.ro .bool))], []⟩), (.exit 0, ⟨[], []⟩)]
noncomputable def spec_l2Pairs_l0 {R : Type} (N : Nat) (k0 : Bool → Option R) (k1 : Unit → Option R) : Nat → (List (Int × Int)) → Int → Int → Option R
  | 0, _, _, _ => none
  | K + 1, pairs1, n1, i =>
    (br (ilt i (tLen pairs1))
      ((chk (inb pairs1 i)
        ((spec_l1In N ((rdP pairs1 i).1) 0 (IntKind.i64.wrap (n1 - 1))).bind fun r =>
        (br (!r.1.1)
          (k0 false)
          (((spec_l1In N ((rdP pairs1 i).2) 0 (IntKind.i64.wrap (n1 - 1))).bind fun r1 =>
            (br (!r1.1.1)
              (k0 false)
              ((br (ile ((rdP pairs1 i).2) ((rdP pairs1 i).1))
                (k0 false)
                ((br (ilt 0 i)
                  ((chk (inb pairs1 (IntKind.i64.wrap (i - 1)))
                    ((spec_l2Edge N (rdP pairs1 (IntKind.i64.wrap (i - 1))) ((rdP pairs1 i).1, (rdP pairs1 i).2)).bind fun r2 =>
                    (br (!r2.1.1)
                      (k0 false)
                      (spec_l2Pairs_l0 N k0 k1 K pairs1 n1 (IntKind.i64.wrap (i + 1)))))))
                  (spec_l2Pairs_l0 N k0 k1 K pairs1 n1 (IntKind.i64.wrap (i + 1))))))))))))))
      (k1 ()))
noncomputable def spec_l2Pairs_l0_again {R : Type} (N : Nat) (ks : (j : Nat) → ((spec_l2Pairs_l0_ex.getD j (.ret, Sh.none)).2).T → Option R) (k : Nat) (x : spec_l2Pairs_l0_sh.T) : Option R :=
  spec_l2Pairs_l0 N (fun y0 => ks 0 ((y0, ()), ())) (fun (_ : Unit) => ks 1 ((), ())) k x.1.1 x.1.2.1 x.1.2.2.1
noncomputable def spec_l2Pairs_l0_s (N : Nat) : LSum := ⟨spec_l2Pairs_l0_sh, spec_l2Pairs_l0_ex, fun x ks => spec_l2Pairs_l0_again N ks N x⟩
theorem spec_l2Pairs_l0_step (N : Nat) (R : Type) (k : Nat) (x : spec_l2Pairs_l0_sh.T) (ks : (j : Nat) → ((spec_l2Pairs_l0_ex.getD j (.ret, Sh.none)).2).T → Option R) : spec_l2Pairs_l0_again N ks (k + 1) x = roundF (spec_l2Pairs_G N) tab [] (loopAt spec_l2Pairs_code 0) spec_l2Pairs_l0_sh spec_l2Pairs_l0_ex (fun y => spec_l2Pairs_l0_again N ks k y) ks x := by kernel_rfl
theorem spec_l2Pairs_l0_ok (N : Nat) : LoopOk Try.prog Try.f116.ntmps (spec_l2Pairs_l0_s N) (loopAt spec_l2Pairs_code 0) :=
  loop_ok (l := spec_l2Pairs_l0_s N) progOk (spec_l2Pairs_gok N) (draw_ok progOk (spec_l2Pairs_gok N)) (fun R k x ks => spec_l2Pairs_l0_again N ks k x) (fun _ _ _ => rfl) (fun R k x ks => spec_l2Pairs_l0_step N R k x ks) (fun R x ks r h => ⟨N, h⟩) (lsOk_at (L := []) trivial) (by kernel_rfl) (by kernel_rfl)
noncomputable def spec_l2Pairs (N : Nat) (pairs : (List (Int × Int))) (n : Int) : Option ((Bool × Unit) × (Unit)) :=
  spec_l2Pairs_l0 N (fun x => some ((x, ()), ())) (fun (_ : Unit) => some ((true, ()), ())) N pairs n 0
noncomputable def spec_l2Pairs_S (N : Nat) : FSum := ⟨spec_l2Pairs_ps, spec_l2Pairs_rs, fun x => spec_l2Pairs N x.1 x.2.1⟩
theorem spec_l2Pairs_run (N : Nat) (x : argsT spec_l2Pairs_ps) : spec_l2Pairs N x.1 x.2.1 = funF (spec_l2Pairs_G N) tab [spec_l2Pairs_l0_s N] Try.f116 spec_l2Pairs_ps spec_l2Pairs_rs x := by kernel_rfl
theorem spec_l2Pairs_pc (N : Nat) : PC Try.prog 116 (spec_l2Pairs_S N) := by
  have e : spec_l2Pairs_S N = ⟨spec_l2Pairs_ps, spec_l2Pairs_rs, funF (spec_l2Pairs_G N) tab [spec_l2Pairs_l0_s N] Try.f116 spec_l2Pairs_ps spec_l2Pairs_rs⟩ := congrArg (FSum.mk spec_l2Pairs_ps spec_l2Pairs_rs) (funext (spec_l2Pairs_run N))
  rw [e]
  exact fun_ok (c := spec_l2Pairs_code) progOk (spec_l2Pairs_gok N) (draw_ok progOk (spec_l2Pairs_gok N)) Try.call116 Try.func116 (by kernel_rfl) (lsOk_at (L := [spec_l2Pairs_l0_s N]) ⟨spec_l2Pairs_l0_ok N, trivial⟩) (by kernel_rfl) (by kernel_rfl) (by kernel_rfl) (by kernel_rfl) (by kernel_rfl)

/-! ### spec_l2Good -/
abbrev spec_l2Good_ps : List (PV.Mode × Ty) := [(.ro, QILQII)]
abbrev spec_l2Good_rs : List (Bool × Ty) := [(true, .bool)]
noncomputable def spec_l2Good_G (N : Nat) : GTab := gOf [(75, spec_l1In_S N), (116, spec_l2Pairs_S N)]
theorem spec_l2Good_gok (N : Nat) : GOk Try.prog (spec_l2Good_G N) := gOf_ok ⟨spec_l1In_pc N, spec_l2Pairs_pc N, trivial⟩
noncomputable def spec_l2Good_code : Code := (Try.f67.body).getD .skip
noncomputable def spec_l2Good (N : Nat) (g : (Int × (List (Int × Int)))) : Option ((Bool × Unit) × (Unit)) :=
  ((spec_l1In N g.1 0 8).bind fun r =>
    (br r.1.1
      (((spec_l2Pairs N g.2 g.1).bind fun r1 =>
        some ((r1.1.1, ()), ())))
      (some ((false, ()), ()))))
noncomputable def spec_l2Good_S (N : Nat) : FSum := ⟨spec_l2Good_ps, spec_l2Good_rs, fun x => spec_l2Good N x.1⟩
theorem spec_l2Good_run (N : Nat) (x : argsT spec_l2Good_ps) : spec_l2Good N x.1 = funF (spec_l2Good_G N) tab [] Try.f67 spec_l2Good_ps spec_l2Good_rs x := by kernel_rfl
theorem spec_l2Good_pc (N : Nat) : PC Try.prog 67 (spec_l2Good_S N) := by
  have e : spec_l2Good_S N = ⟨spec_l2Good_ps, spec_l2Good_rs, funF (spec_l2Good_G N) tab [] Try.f67 spec_l2Good_ps spec_l2Good_rs⟩ := congrArg (FSum.mk spec_l2Good_ps spec_l2Good_rs) (funext (spec_l2Good_run N))
  rw [e]
  exact fun_ok (c := spec_l2Good_code) progOk (spec_l2Good_gok N) (draw_ok progOk (spec_l2Good_gok N)) Try.call67 Try.func67 (by kernel_rfl) (lsOk_at (L := []) trivial) (by kernel_rfl) (by kernel_rfl) (by kernel_rfl) (by kernel_rfl) (by kernel_rfl)

/-! ### spec_l5Ask -/
abbrev spec_l5Ask_ps : List (PV.Mode × Ty) := [(.ro, QILQII), (.ro, I)]
abbrev spec_l5Ask_rs : List (Bool × Ty) := [(true, .bool)]
noncomputable def spec_l5Ask_G (N : Nat) : GTab := gOf [(67, spec_l2Good_S N), (75, spec_l1In_S N)]
theorem spec_l5Ask_gok (N : Nat) : GOk Try.prog (spec_l5Ask_G N) := gOf_ok ⟨spec_l2Good_pc N, spec_l1In_pc N, trivial⟩
noncomputable def spec_l5Ask_code : Code := (Try.f137.body).getD .skip
noncomputable def spec_l5Ask (N : Nat) (g : (Int × (List (Int × Int)))) (kv : Int) : Option ((Bool × Unit) × (Unit)) :=
  ((spec_l2Good N (g.1, g.2)).bind fun r =>
    (br r.1.1
      (((spec_l1In N kv 1 5).bind fun r1 =>
        some ((r1.1.1, ()), ())))
      (some ((false, ()), ()))))
noncomputable def spec_l5Ask_S (N : Nat) : FSum := ⟨spec_l5Ask_ps, spec_l5Ask_rs, fun x => spec_l5Ask N x.1 x.2.1⟩
theorem spec_l5Ask_run (N : Nat) (x : argsT spec_l5Ask_ps) : spec_l5Ask N x.1 x.2.1 = funF (spec_l5Ask_G N) tab [] Try.f137 spec_l5Ask_ps spec_l5Ask_rs x := by kernel_rfl
theorem spec_l5Ask_pc (N : Nat) : PC Try.prog 137 (spec_l5Ask_S N) := by
  have e : spec_l5Ask_S N = ⟨spec_l5Ask_ps, spec_l5Ask_rs, funF (spec_l5Ask_G N) tab [] Try.f137 spec_l5Ask_ps spec_l5Ask_rs⟩ := congrArg (FSum.mk spec_l5Ask_ps spec_l5Ask_rs) (funext (spec_l5Ask_run N))
  rw [e]
  exact fun_ok (c := spec_l5Ask_code) progOk (spec_l5Ask_gok N) (draw_ok progOk (spec_l5Ask_gok N)) Try.call137 Try.func137 (by kernel_rfl) (lsOk_at (L := []) trivial) (by kernel_rfl) (by kernel_rfl) (by kernel_rfl) (by kernel_rfl) (by kernel_rfl)

/-! ### spec_l1Own -/
abbrev spec_l1Own_ps : List (PV.Mode × Ty) := [(.ro, LI)]
abbrev spec_l1Own_rs : List (Bool × Ty) := [(true, LI)]
noncomputable def spec_l1Own_G (N : Nat) : GTab := gOf []
theorem spec_l1Own_gok (N : Nat) : GOk Try.prog (spec_l1Own_G N) := gOf_ok trivial
noncomputable def spec_l1Own_code : Code := (Try.f124.body).getD .skip
noncomputable def spec_l1Own (N : Nat) (l : (List Int)) : Option (((List Int) × Unit) × (Unit)) :=
  (chk (room (α := Int) (β := Int) [] l)
    (some (((tApp [] l), ()), ())))
noncomputable def spec_l1Own_S (N : Nat) : FSum := ⟨spec_l1Own_ps, spec_l1Own_rs, fun x => spec_l1Own N x.1⟩
theorem spec_l1Own_run (N : Nat) (x : argsT spec_l1Own_ps) : spec_l1Own N x.1 = funF (spec_l1Own_G N) tab [] Try.f124 spec_l1Own_ps spec_l1Own_rs x := by kernel_rfl
theorem spec_l1Own_pc (N : Nat) : PC Try.prog 124 (spec_l1Own_S N) := by
  have e : spec_l1Own_S N = ⟨spec_l1Own_ps, spec_l1Own_rs, funF (spec_l1Own_G N) tab [] Try.f124 spec_l1Own_ps spec_l1Own_rs⟩ := congrArg (FSum.mk spec_l1Own_ps spec_l1Own_rs) (funext (spec_l1Own_run N))
  rw [e]
  exact fun_ok (c := spec_l1Own_code) progOk (spec_l1Own_gok N) (draw_ok progOk (spec_l1Own_gok N)) Try.call124 Try.func124 (by kernel_rfl) (lsOk_at (L := []) trivial) (by kernel_rfl) (by kernel_rfl) (by kernel_rfl) (by kernel_rfl) (by kernel_rfl)

/-! ### spec_l2Near -/
abbrev spec_l2Near_ps : List (PV.Mode × Ty) := [(.ro, QILQII), (.ro, I), (.ro, I)]
abbrev spec_l2Near_rs : List (Bool × Ty) := [(true, .bool)]
noncomputable def spec_l2Near_G (N : Nat) : GTab := gOf []
theorem spec_l2Near_gok (N : Nat) : GOk Try.prog (spec_l2Near_G N) := gOf_ok trivial
noncomputable def spec_l2Near_code : Code := (Try.f35.body).getD .skip
noncomputable def spec_l2Near_l0_sh : Sh := ⟨[(1, .one (.ro I)), (2, .one (.ro I)), (3, .one (.adr 0 0)), (7, .one (.ro I))], [.box [.ro I, .ro LQII]]⟩
noncomputable def spec_l2Near_l0_ex : List (Ex × Sh) := [(.ret, ⟨[(6, .one (.ro .bool))], []⟩), (.exit 0, ⟨[], []⟩)]
noncomputable def spec_l2Near_l0 {R : Type} (N : Nat) (k0 : Bool → Option R) (k1 : Unit → Option R) : Nat → Int → Int → Int → Int → (List (Int × Int)) → Option R
  | 0, _, _, _, _, _ => none
  | K + 1, a1, b1, i, o, o1 =>
    (br (ilt i (tLen o1))
      ((chk (inb o1 i)
        (br (ieq ((rdP o1 i).1) a1)
        ((br (ieq ((rdP o1 i).2) b1)
          (k0 true)
          ((br (ieq ((rdP o1 i).1) b1)
            ((br (ieq ((rdP o1 i).2) a1)
              (k0 true)
              (spec_l2Near_l0 N k0 k1 K a1 b1 (IntKind.i64.wrap (i + 1)) o o1)))
            (spec_l2Near_l0 N k0 k1 K a1 b1 (IntKind.i64.wrap (i + 1)) o o1)))))
        ((br (ieq ((rdP o1 i).1) b1)
          ((br (ieq ((rdP o1 i).2) a1)
            (k0 true)
            (spec_l2Near_l0 N k0 k1 K a1 b1 (IntKind.i64.wrap (i + 1)) o o1)))
          (spec_l2Near_l0 N k0 k1 K a1 b1 (IntKind.i64.wrap (i + 1)) o o1))))))
      (k1 ()))
noncomputable def spec_l2Near_l0_again {R : Type} (N : Nat) (ks : (j : Nat) → ((spec_l2Near_l0_ex.getD j (.ret, Sh.none)).2).T → Option R) (k : Nat) (x : spec_l2Near_l0_sh.T) : Option R :=
  spec_l2Near_l0 N (fun y0 => ks 0 ((y0, ()), ())) (fun (_ : Unit) => ks 1 ((), ())) k x.1.1 x.1.2.1 x.1.2.2.2.1 x.2.1.1 x.2.1.2.1
noncomputable def spec_l2Near_l0_s (N : Nat) : LSum := ⟨spec_l2Near_l0_sh, spec_l2Near_l0_ex, fun x ks => spec_l2Near_l0_again N ks N x⟩
theorem spec_l2Near_l0_step (N : Nat) (R : Type) (k : Nat) (x : spec_l2Near_l0_sh.T) (ks : (j : Nat) → ((spec_l2Near_l0_ex.getD j (.ret, Sh.none)).2).T → Option R) : spec_l2Near_l0_again N ks (k + 1) x = roundF (spec_l2Near_G N) tab [] (loopAt spec_l2Near_code 0) spec_l2Near_l0_sh spec_l2Near_l0_ex (fun y => spec_l2Near_l0_again N ks k y) ks x := by kernel_rfl
theorem spec_l2Near_l0_ok (N : Nat) : LoopOk Try.prog Try.f35.ntmps (spec_l2Near_l0_s N) (loopAt spec_l2Near_code 0) :=
  loop_ok (l := spec_l2Near_l0_s N) progOk (spec_l2Near_gok N) (draw_ok progOk (spec_l2Near_gok N)) (fun R k x ks => spec_l2Near_l0_again N ks k x) (fun _ _ _ => rfl) (fun R k x ks => spec_l2Near_l0_step N R k x ks) (fun R x ks r h => ⟨N, h⟩) (lsOk_at (L := []) trivial) (by kernel_rfl) (by kernel_rfl)
noncomputable def spec_l2Near (N : Nat) (g : (Int × (List (Int × Int)))) (a : Int) (b : Int) : Option ((Bool × Unit) × (Unit)) :=
  spec_l2Near_l0 N (fun x => some ((x, ()), ())) (fun (_ : Unit) => some ((false, ()), ())) N a b 0 g.1 g.2
noncomputable def spec_l2Near_S (N : Nat) : FSum := ⟨spec_l2Near_ps, spec_l2Near_rs, fun x => spec_l2Near N x.1 x.2.1 x.2.2.1⟩
theorem spec_l2Near_run (N : Nat) (x : argsT spec_l2Near_ps) : spec_l2Near N x.1 x.2.1 x.2.2.1 = funF (spec_l2Near_G N) tab [spec_l2Near_l0_s N] Try.f35 spec_l2Near_ps spec_l2Near_rs x := by kernel_rfl
theorem spec_l2Near_pc (N : Nat) : PC Try.prog 35 (spec_l2Near_S N) := by
  have e : spec_l2Near_S N = ⟨spec_l2Near_ps, spec_l2Near_rs, funF (spec_l2Near_G N) tab [spec_l2Near_l0_s N] Try.f35 spec_l2Near_ps spec_l2Near_rs⟩ := congrArg (FSum.mk spec_l2Near_ps spec_l2Near_rs) (funext (spec_l2Near_run N))
  rw [e]
  exact fun_ok (c := spec_l2Near_code) progOk (spec_l2Near_gok N) (draw_ok progOk (spec_l2Near_gok N)) Try.call35 Try.func35 (by kernel_rfl) (lsOk_at (L := [spec_l2Near_l0_s N]) ⟨spec_l2Near_l0_ok N, trivial⟩) (by kernel_rfl) (by kernel_rfl) (by kernel_rfl) (by kernel_rfl) (by kernel_rfl)

/-! ### spec_l5More -/
abbrev spec_l5More_ps : List (PV.Mode × Ty) := [(.ro, QILQII), (.ro, I), (.ro, LI), (.own, LLI)]
abbrev spec_l5More_rs : List (Bool × Ty) := [(true, LLI)]
noncomputable def spec_l5More_T (slf : ((Int × (List (Int × Int))) → Int → (List Int) → (List (List Int)) → Option (((List (List Int)) × Unit) × (Unit)))) : FSum := ⟨spec_l5More_ps, spec_l5More_rs, fun x => slf x.1 x.2.1 x.2.2.1 x.2.2.2.1⟩
noncomputable def spec_l5More_G (N : Nat) (slf : ((Int × (List (Int × Int))) → Int → (List Int) → (List (List Int)) → Option (((List (List Int)) × Unit) × (Unit)))) : GTab := gOf [(138, spec_l5More_T slf), (124, spec_l1Own_S N), (35, spec_l2Near_S N)]
theorem spec_l5More_gok (N : Nat) (slf : ((Int × (List (Int × Int))) → Int → (List Int) → (List (List Int)) → Option (((List (List Int)) × Unit) × (Unit)))) (hslf : PC Try.prog 138 (spec_l5More_T slf)) : GOk Try.prog (spec_l5More_G N slf) := gOf_ok ⟨hslf, spec_l1Own_pc N, spec_l2Near_pc N, trivial⟩
noncomputable def spec_l5More_code : Code := (Try.f138.body).getD .skip
noncomputable def spec_l5More_l0_0_sh : Sh := ⟨[(1, .one (.ro I)), (2, .one (.ro LI)), (3, .one (.ref 0)), (4, .one (.adr 1 0)), (9, .one (.ro I)), (10, .one (.ro .bool)), (11, .one (.ro I)), (26, .one (.ref 0)), (27, .one (.ro I)), (28, .one (.ro .bool))], [.sl 43 LI .deep, .box [.ro I, .ro LQII]]⟩
noncomputable def spec_l5More_l0_0_ex : List (Ex × Sh) := [(.exit 2, ⟨[(1, .one (.ro I)), (2, .one (.ro LI)), (3, .one (.ref 0)), (4, .one (.adr 1 0)), (9, .one (.ro I)), (10, .one (.ro .bool)), (26, .one (.ref 0)), (27, .one (.ro I)), (28, .one (.ro .bool))], [.sl 43 LI .deep, .box [.ro I, .ro LQII]]⟩)]
noncomputable def spec_l5More_l0_0 {R : Type} (N : Nat) (slf : ((Int × (List (Int × Int))) → Int → (List Int) → (List (List Int)) → Option (((List (List Int)) × Unit) × (Unit)))) (k0 : Int → (List Int) → Int → Bool → Int → Bool → (List (List Int)) → Int → (List (Int × Int)) → Option R) : Nat → Int → (List Int) → Int → Bool → Int → Int → Bool → (List (List Int)) → Int → (List (Int × Int)) → Option R
  | 0, _, _, _, _, _, _, _, _, _, _ => none
  | K + 1, x3, x4, x5, x6, x7, x8, x9, o3, o4, o5 =>
    (br (ilt x7 (tLen x4))
      ((br x6
        ((chk (inb x4 x7)
          (br (ine (rdI x4 x7) x5)
          (spec_l5More_l0_0 N slf k0 K x3 x4 x5 true (IntKind.i64.wrap (x7 + 1)) x8 x9 o3 o4 o5)
          (((spec_l2Near N (o4, o5) x7 (tLen x4)).bind fun r1 =>
            spec_l5More_l0_0 N slf k0 K x3 x4 x5 (!r1.1.1) (IntKind.i64.wrap (x7 + 1)) x8 x9 o3 o4 o5)))))
        (spec_l5More_l0_0 N slf k0 K x3 x4 x5 false (IntKind.i64.wrap (x7 + 1)) x8 x9 o3 o4 o5)))
      (k0 x3 x4 x5 x6 x8 x9 o3 o4 o5))
noncomputable def spec_l5More_l0_0_again {R : Type} (N : Nat) (slf : ((Int × (List (Int × Int))) → Int → (List Int) → (List (List Int)) → Option (((List (List Int)) × Unit) × (Unit)))) (ks : (j : Nat) → ((spec_l5More_l0_0_ex.getD j (.ret, Sh.none)).2).T → Option R) (k : Nat) (x : spec_l5More_l0_0_sh.T) : Option R :=
  spec_l5More_l0_0 N slf (fun y0 y1 y2 y3 y4 y5 y6 y7 y8 => ks 0 ((y0, y1, (), (), y2, y3, (), y4, y5, ()), (y6, (y7, y8, ()), ()))) k x.1.1 x.1.2.1 x.1.2.2.2.2.1 x.1.2.2.2.2.2.1 x.1.2.2.2.2.2.2.1 x.1.2.2.2.2.2.2.2.2.1 x.1.2.2.2.2.2.2.2.2.2.1 x.2.1 x.2.2.1.1 x.2.2.1.2.1
noncomputable def spec_l5More_l0_0_s (N : Nat) (slf : ((Int × (List (Int × Int))) → Int → (List Int) → (List (List Int)) → Option (((List (List Int)) × Unit) × (Unit)))) : LSum := ⟨spec_l5More_l0_0_sh, spec_l5More_l0_0_ex, fun x ks => spec_l5More_l0_0_again N slf ks N x⟩
theorem spec_l5More_l0_0_step (N : Nat) (slf : ((Int × (List (Int × Int))) → Int → (List Int) → (List (List Int)) → Option (((List (List Int)) × Unit) × (Unit)))) (R : Type) (k : Nat) (x : spec_l5More_l0_0_sh.T) (ks : (j : Nat) → ((spec_l5More_l0_0_ex.getD j (.ret, Sh.none)).2).T → Option R) : spec_l5More_l0_0_again N slf ks (k + 1) x = roundF (spec_l5More_G N slf) tab [] (loopAt (loopAt spec_l5More_code 0) 0) spec_l5More_l0_0_sh spec_l5More_l0_0_ex (fun y => spec_l5More_l0_0_again N slf ks k y) ks x := by kernel_rfl
theorem spec_l5More_l0_0_ok (N : Nat) (slf : ((Int × (List (Int × Int))) → Int → (List Int) → (List (List Int)) → Option (((List (List Int)) × Unit) × (Unit)))) (hslf : PC Try.prog 138 (spec_l5More_T slf)) : LoopOk Try.prog Try.f138.ntmps (spec_l5More_l0_0_s N slf) (loopAt (loopAt spec_l5More_code 0) 0) :=
  loop_ok (l := spec_l5More_l0_0_s N slf) progOk (spec_l5More_gok N slf hslf) (draw_ok progOk (spec_l5More_gok N slf hslf)) (fun R k x ks => spec_l5More_l0_0_again N slf ks k x) (fun _ _ _ => rfl) (fun R k x ks => spec_l5More_l0_0_step N slf R k x ks) (fun R x ks r h => ⟨N, h⟩) (lsOk_at (L := []) trivial) (by kernel_rfl) (by kernel_rfl)
noncomputable def spec_l5More_l0_sh : Sh := ⟨[(1, .one (.ro I)), (2, .one (.ro LI)), (3, .one (.ref 0)), (4, .one (.adr 1 0)), (9, .one (.ro I))], [.sl 43 LI .deep, .box [.ro I, .ro LQII]]⟩
noncomputable def spec_l5More_l0_ex : List (Ex × Sh) := [(.exit 0, ⟨[(3, .one (.ref 0))], [.sl 43 LI .deep]⟩)]
noncomputable def spec_l5More_l0 {R : Type} (N : Nat) (slf : ((Int × (List (Int × Int))) → Int → (List Int) → (List (List Int)) → Option (((List (List Int)) × Unit) × (Unit)))) (k0 : (List (List Int)) → Option R) : Nat → Int → (List Int) → Int → (List (List Int)) → Int → (List (Int × Int)) → Option R
  | 0, _, _, _, _, _, _ => none
  | K + 1, x, x1, x2, o, o1, o2 =>
    (br (ilt x2 x)
      ((br (ile (tLen o) 300)
        (spec_l5More_l0_0 N slf (fun x3 x4 x5 x6 x7 x8 o3 o4 o5 => (br x6
          (((spec_l1Own N x4).bind fun r1 =>
            (chk (room r1.1.1 [x5])
              ((slf (o4, o5) x3 (tApp r1.1.1 [x5]) o3).bind fun r2 =>
              spec_l5More_l0 N slf k0 K x3 x4 (IntKind.i64.wrap (x5 + 1)) r2.1.1 o4 o5))))
          (spec_l5More_l0 N slf k0 K x3 x4 (IntKind.i64.wrap (x5 + 1)) o3 o4 o5))) N x x1 x2 true 0 (tLen o) (ile (tLen o) 300) o o1 o2)
        (k0 o)))
      (k0 o))
noncomputable def spec_l5More_l0_again {R : Type} (N : Nat) (slf : ((Int × (List (Int × Int))) → Int → (List Int) → (List (List Int)) → Option (((List (List Int)) × Unit) × (Unit)))) (ks : (j : Nat) → ((spec_l5More_l0_ex.getD j (.ret, Sh.none)).2).T → Option R) (k : Nat) (x : spec_l5More_l0_sh.T) : Option R :=
  spec_l5More_l0 N slf (fun y0 => ks 0 (((), ()), (y0, ()))) k x.1.1 x.1.2.1 x.1.2.2.2.2.1 x.2.1 x.2.2.1.1 x.2.2.1.2.1
noncomputable def spec_l5More_l0_s (N : Nat) (slf : ((Int × (List (Int × Int))) → Int → (List Int) → (List (List Int)) → Option (((List (List Int)) × Unit) × (Unit)))) : LSum := ⟨spec_l5More_l0_sh, spec_l5More_l0_ex, fun x ks => spec_l5More_l0_again N slf ks N x⟩
theorem spec_l5More_l0_step (N : Nat) (slf : ((Int × (List (Int × Int))) → Int → (List Int) → (List (List Int)) → Option (((List (List Int)) × Unit) × (Unit)))) (R : Type) (k : Nat) (x : spec_l5More_l0_sh.T) (ks : (j : Nat) → ((spec_l5More_l0_ex.getD j (.ret, Sh.none)).2).T → Option R) : spec_l5More_l0_again N slf ks (k + 1) x = roundF (spec_l5More_G N slf) tab [spec_l5More_l0_0_s N slf] (loopAt spec_l5More_code 0) spec_l5More_l0_sh spec_l5More_l0_ex (fun y => spec_l5More_l0_again N slf ks k y) ks x := by kernel_rfl
theorem spec_l5More_l0_ok (N : Nat) (slf : ((Int × (List (Int × Int))) → Int → (List Int) → (List (List Int)) → Option (((List (List Int)) × Unit) × (Unit)))) (hslf : PC Try.prog 138 (spec_l5More_T slf)) : LoopOk Try.prog Try.f138.ntmps (spec_l5More_l0_s N slf) (loopAt spec_l5More_code 0) :=
  loop_ok (l := spec_l5More_l0_s N slf) progOk (spec_l5More_gok N slf hslf) (draw_ok progOk (spec_l5More_gok N slf hslf)) (fun R k x ks => spec_l5More_l0_again N slf ks k x) (fun _ _ _ => rfl) (fun R k x ks => spec_l5More_l0_step N slf R k x ks) (fun R x ks r h => ⟨N, h⟩) (lsOk_at (L := [spec_l5More_l0_0_s N slf]) ⟨spec_l5More_l0_0_ok N slf hslf, trivial⟩) (by kernel_rfl) (by kernel_rfl)
noncomputable def spec_l5More_b (N : Nat) (slf : ((Int × (List (Int × Int))) → Int → (List Int) → (List (List Int)) → Option (((List (List Int)) × Unit) × (Unit)))) (c : (Int × (List (Int × Int)))) (c1 : Int) (c2 : (List Int)) (c3 : (List (List Int))) : Option (((List (List Int)) × Unit) × (Unit)) :=
  (br (ieq (tLen c2) c.1)
    (((spec_l1Own N c2).bind fun r =>
      (chk (room c3 [r.1.1])
        (some (((tApp c3 [r.1.1]), ()), ())))))
    (spec_l5More_l0 N slf (fun o => some ((o, ()), ())) N c1 c2 0 c3 c.1 c.2))
theorem spec_l5More_run (N : Nat) (slf : ((Int × (List (Int × Int))) → Int → (List Int) → (List (List Int)) → Option (((List (List Int)) × Unit) × (Unit)))) (x : argsT spec_l5More_ps) : spec_l5More_b N slf x.1 x.2.1 x.2.2.1 x.2.2.2.1 = funF (spec_l5More_G N slf) tab [spec_l5More_l0_s N slf] Try.f138 spec_l5More_ps spec_l5More_rs x := by kernel_rfl
theorem spec_l5More_bpc (N : Nat) (slf : ((Int × (List (Int × Int))) → Int → (List Int) → (List (List Int)) → Option (((List (List Int)) × Unit) × (Unit)))) (hslf : PC Try.prog 138 (spec_l5More_T slf)) : PC Try.prog 138 (spec_l5More_T (spec_l5More_b N slf)) := by
  have e : spec_l5More_T (spec_l5More_b N slf) = ⟨spec_l5More_ps, spec_l5More_rs, funF (spec_l5More_G N slf) tab [spec_l5More_l0_s N slf] Try.f138 spec_l5More_ps spec_l5More_rs⟩ := congrArg (FSum.mk spec_l5More_ps spec_l5More_rs) (funext (spec_l5More_run N slf))
  rw [e]
  exact fun_ok (c := spec_l5More_code) progOk (spec_l5More_gok N slf hslf) (draw_ok progOk (spec_l5More_gok N slf hslf)) Try.call138 Try.func138 (by kernel_rfl) (lsOk_at (L := [spec_l5More_l0_s N slf]) ⟨spec_l5More_l0_ok N slf hslf, trivial⟩) (by kernel_rfl) (by kernel_rfl) (by kernel_rfl) (by kernel_rfl) (by kernel_rfl)
noncomputable def spec_l5More_r (N : Nat) : Nat → ((Int × (List (Int × Int))) → Int → (List Int) → (List (List Int)) → Option (((List (List Int)) × Unit) × (Unit)))
  | 0 => fun _ _ _ _ => none
  | K + 1 => spec_l5More_b N (spec_l5More_r N K)
theorem spec_l5More_rpc (N : Nat) : ∀ K, PC Try.prog 138 (spec_l5More_T (spec_l5More_r N K))
  | 0 => pc_none Try.call138
  | K + 1 => spec_l5More_bpc N (spec_l5More_r N K) (spec_l5More_rpc N K)
noncomputable def spec_l5More (N : Nat) (c : (Int × (List (Int × Int)))) (c1 : Int) (c2 : (List Int)) (c3 : (List (List Int))) : Option (((List (List Int)) × Unit) × (Unit)) := spec_l5More_r N N c c1 c2 c3
noncomputable def spec_l5More_S (N : Nat) : FSum := ⟨spec_l5More_ps, spec_l5More_rs, fun x => spec_l5More N x.1 x.2.1 x.2.2.1 x.2.2.2.1⟩
theorem spec_l5More_pc (N : Nat) : PC Try.prog 138 (spec_l5More_S N) := spec_l5More_rpc N N

/-! ### spec_l5All -/
abbrev spec_l5All_ps : List (PV.Mode × Ty) := [(.ro, QILQII), (.ro, I)]
abbrev spec_l5All_rs : List (Bool × Ty) := [(true, LLI), (true, .bool)]
noncomputable def spec_l5All_G (N : Nat) : GTab := gOf [(137, spec_l5Ask_S N), (138, spec_l5More_S N)]
theorem spec_l5All_gok (N : Nat) : GOk Try.prog (spec_l5All_G N) := gOf_ok ⟨spec_l5Ask_pc N, spec_l5More_pc N, trivial⟩
noncomputable def spec_l5All_code : Code := (Try.f96.body).getD .skip
noncomputable def spec_l5All (N : Nat) (g : (Int × (List (Int × Int)))) (kv : Int) : Option (((List (List Int)) × Bool × Unit) × (Unit)) :=
  ((spec_l5Ask N (g.1, g.2) kv).bind fun r =>
    (br (!r.1.1)
      (some (([], false, ()), ()))
      (((spec_l5More N (g.1, g.2) kv [] []).bind fun r1 =>
        (br (ilt 300 (tLen r1.1.1))
          (some (([], false, ()), ()))
          (some ((r1.1.1, true, ()), ())))))))
noncomputable def spec_l5All_S (N : Nat) : FSum := ⟨spec_l5All_ps, spec_l5All_rs, fun x => spec_l5All N x.1 x.2.1⟩
theorem spec_l5All_run (N : Nat) (x : argsT spec_l5All_ps) : spec_l5All N x.1 x.2.1 = funF (spec_l5All_G N) tab [] Try.f96 spec_l5All_ps spec_l5All_rs x := by kernel_rfl
theorem spec_l5All_pc (N : Nat) : PC Try.prog 96 (spec_l5All_S N) := by
  have e : spec_l5All_S N = ⟨spec_l5All_ps, spec_l5All_rs, funF (spec_l5All_G N) tab [] Try.f96 spec_l5All_ps spec_l5All_rs⟩ := congrArg (FSum.mk spec_l5All_ps spec_l5All_rs) (funext (spec_l5All_run N))
  rw [e]
  exact fun_ok (c := spec_l5All_code) progOk (spec_l5All_gok N) (draw_ok progOk (spec_l5All_gok N)) Try.call96 Try.func96 (by kernel_rfl) (lsOk_at (L := []) trivial) (by kernel_rfl) (by kernel_rfl) (by kernel_rfl) (by kernel_rfl) (by kernel_rfl)

/-! ### spec_l5Changed -/
abbrev spec_l5Changed_ps : List (PV.Mode × Ty) := [(.ro, LI), (.ro, LI)]
abbrev spec_l5Changed_rs : List (Bool × Ty) := [(true, LI)]
noncomputable def spec_l5Changed_G (N : Nat) : GTab := gOf []
theorem spec_l5Changed_gok (N : Nat) : GOk Try.prog (spec_l5Changed_G N) := gOf_ok trivial
noncomputable def spec_l5Changed_code : Code := (Try.f139.body).getD .skip
noncomputable def spec_l5Changed_l0_sh : Sh := ⟨[(0, .one (.ro LI)), (1, .one (.ro LI)), (5, .one (.ref 0)), (6, .one (.ro I))], [.sl 3 I .own]⟩
noncomputable def spec_l5Changed_l0_ex : List (Ex × Sh) := [(.exit 0, ⟨[(5, .one (.ref 0))], [.sl 3 I .own]⟩)]
noncomputable def spec_l5Changed_l0 {R : Type} (N : Nat) (k0 : (List Int) → Option R) : Nat → (List Int) → (List Int) → Int → (List Int) → Option R
  | 0, _, _, _, _ => none
  | K + 1, a1, b1, x, o =>
    (br (ilt x (tLen a1))
      ((chk (inb a1 x)
        (chk (inb b1 x)
        (br (ine (rdI a1 x) (rdI b1 x))
        ((chk (room o [x])
          (spec_l5Changed_l0 N k0 K a1 b1 (IntKind.i64.wrap (x + 1)) (tApp o [x]))))
        (spec_l5Changed_l0 N k0 K a1 b1 (IntKind.i64.wrap (x + 1)) o)))))
      (k0 o))
noncomputable def spec_l5Changed_l0_again {R : Type} (N : Nat) (ks : (j : Nat) → ((spec_l5Changed_l0_ex.getD j (.ret, Sh.none)).2).T → Option R) (k : Nat) (x : spec_l5Changed_l0_sh.T) : Option R :=
  spec_l5Changed_l0 N (fun y0 => ks 0 (((), ()), (y0, ()))) k x.1.1 x.1.2.1 x.1.2.2.2.1 x.2.1
noncomputable def spec_l5Changed_l0_s (N : Nat) : LSum := ⟨spec_l5Changed_l0_sh, spec_l5Changed_l0_ex, fun x ks => spec_l5Changed_l0_again N ks N x⟩
theorem spec_l5Changed_l0_step (N : Nat) (R : Type) (k : Nat) (x : spec_l5Changed_l0_sh.T) (ks : (j : Nat) → ((spec_l5Changed_l0_ex.getD j (.ret, Sh.none)).2).T → Option R) : spec_l5Changed_l0_again N ks (k + 1) x = roundF (spec_l5Changed_G N) tab [] (loopAt spec_l5Changed_code 0) spec_l5Changed_l0_sh spec_l5Changed_l0_ex (fun y => spec_l5Changed_l0_again N ks k y) ks x := by kernel_rfl
theorem spec_l5Changed_l0_ok (N : Nat) : LoopOk Try.prog Try.f139.ntmps (spec_l5Changed_l0_s N) (loopAt spec_l5Changed_code 0) :=
  loop_ok (l := spec_l5Changed_l0_s N) progOk (spec_l5Changed_gok N) (draw_ok progOk (spec_l5Changed_gok N)) (fun R k x ks => spec_l5Changed_l0_again N ks k x) (fun _ _ _ => rfl) (fun R k x ks => spec_l5Changed_l0_step N R k x ks) (fun R x ks r h => ⟨N, h⟩) (lsOk_at (L := []) trivial) (by kernel_rfl) (by kernel_rfl)
noncomputable def spec_l5Changed (N : Nat) (a : (List Int)) (b : (List Int)) : Option (((List Int) × Unit) × (Unit)) :=
  spec_l5Changed_l0 N (fun o => some ((o, ()), ())) N a b 0 []
noncomputable def spec_l5Changed_S (N : Nat) : FSum := ⟨spec_l5Changed_ps, spec_l5Changed_rs, fun x => spec_l5Changed N x.1 x.2.1⟩
theorem spec_l5Changed_run (N : Nat) (x : argsT spec_l5Changed_ps) : spec_l5Changed N x.1 x.2.1 = funF (spec_l5Changed_G N) tab [spec_l5Changed_l0_s N] Try.f139 spec_l5Changed_ps spec_l5Changed_rs x := by kernel_rfl
theorem spec_l5Changed_pc (N : Nat) : PC Try.prog 139 (spec_l5Changed_S N) := by
  have e : spec_l5Changed_S N = ⟨spec_l5Changed_ps, spec_l5Changed_rs, funF (spec_l5Changed_G N) tab [spec_l5Changed_l0_s N] Try.f139 spec_l5Changed_ps spec_l5Changed_rs⟩ := congrArg (FSum.mk spec_l5Changed_ps spec_l5Changed_rs) (funext (spec_l5Changed_run N))
  rw [e]
  exact fun_ok (c := spec_l5Changed_code) progOk (spec_l5Changed_gok N) (draw_ok progOk (spec_l5Changed_gok N)) Try.call139 Try.func139 (by kernel_rfl) (lsOk_at (L := [spec_l5Changed_l0_s N]) ⟨spec_l5Changed_l0_ok N, trivial⟩) (by kernel_rfl) (by kernel_rfl) (by kernel_rfl) (by kernel_rfl) (by kernel_rfl)

/-! ### spec_l1Has -/
abbrev spec_l1Has_ps : List (PV.Mode × Ty) := [(.ro, LI), (.ro, I)]
abbrev spec_l1Has_rs : List (Bool × Ty) := [(true, .bool)]
noncomputable def spec_l1Has_G (N : Nat) : GTab := gOf []
theorem spec_l1Has_gok (N : Nat) : GOk Try.prog (spec_l1Has_G N) := gOf_ok trivial
noncomputable def spec_l1Has_code : Code := (Try.f125.body).getD .skip
noncomputable def spec_l1Has_l0_sh : Sh := ⟨[(0, .one (.ro LI)), (1, .one (.ro I)), (5, .one (.ro I))], []⟩
noncomputable def spec_l1Has_l0_ex : List (Ex × Sh) := [(.ret, ⟨[(4, .one (.ro .bool))], []⟩), (.exit 0, ⟨[], []⟩)]
noncomputable def spec_l1Has_l0 {R : Type} (N : Nat) (k0 : Bool → Option R) (k1 : Unit → Option R) : Nat → (List Int) → Int → Int → Option R
  | 0, _, _, _ => none
  | K + 1, l1, n1, i =>
    (br (ilt i (tLen l1))
      ((chk (inb l1 i)
        (br (ieq (rdI l1 i) n1)
        (k0 true)
        (spec_l1Has_l0 N k0 k1 K l1 n1 (IntKind.i64.wrap (i + 1))))))
      (k1 ()))
noncomputable def spec_l1Has_l0_again {R : Type} (N : Nat) (ks : (j : Nat) → ((spec_l1Has_l0_ex.getD j (.ret, Sh.none)).2).T → Option R) (k : Nat) (x : spec_l1Has_l0_sh.T) : Option R :=
  spec_l1Has_l0 N (fun y0 => ks 0 ((y0, ()), ())) (fun (_ : Unit) => ks 1 ((), ())) k x.1.1 x.1.2.1 x.1.2.2.1
noncomputable def spec_l1Has_l0_s (N : Nat) : LSum := ⟨spec_l1Has_l0_sh, spec_l1Has_l0_ex, fun x ks => spec_l1Has_l0_again N ks N x⟩
theorem spec_l1Has_l0_step (N : Nat) (R : Type) (k : Nat) (x : spec_l1Has_l0_sh.T) (ks : (j : Nat) → ((spec_l1Has_l0_ex.getD j (.ret, Sh.none)).2).T → Option R) : spec_l1Has_l0_again N ks (k + 1) x = roundF (spec_l1Has_G N) tab [] (loopAt spec_l1Has_code 0) spec_l1Has_l0_sh spec_l1Has_l0_ex (fun y => spec_l1Has_l0_again N ks k y) ks x := by kernel_rfl
theorem spec_l1Has_l0_ok (N : Nat) : LoopOk Try.prog Try.f125.ntmps (spec_l1Has_l0_s N) (loopAt spec_l1Has_code 0) :=
  loop_ok (l := spec_l1Has_l0_s N) progOk (spec_l1Has_gok N) (draw_ok progOk (spec_l1Has_gok N)) (fun R k x ks => spec_l1Has_l0_again N ks k x) (fun _ _ _ => rfl) (fun R k x ks => spec_l1Has_l0_step N R k x ks) (fun R x ks r h => ⟨N, h⟩) (lsOk_at (L := []) trivial) (by kernel_rfl) (by kernel_rfl)
noncomputable def spec_l1Has (N : Nat) (l : (List Int)) (n : Int) : Option ((Bool × Unit) × (Unit)) :=
  spec_l1Has_l0 N (fun x => some ((x, ()), ())) (fun (_ : Unit) => some ((false, ()), ())) N l n 0
noncomputable def spec_l1Has_S (N : Nat) : FSum := ⟨spec_l1Has_ps, spec_l1Has_rs, fun x => spec_l1Has N x.1 x.2.1⟩
theorem spec_l1Has_run (N : Nat) (x : argsT spec_l1Has_ps) : spec_l1Has N x.1 x.2.1 = funF (spec_l1Has_G N) tab [spec_l1Has_l0_s N] Try.f125 spec_l1Has_ps spec_l1Has_rs x := by kernel_rfl
theorem spec_l1Has_pc (N : Nat) : PC Try.prog 125 (spec_l1Has_S N) := by
  have e : spec_l1Has_S N = ⟨spec_l1Has_ps, spec_l1Has_rs, funF (spec_l1Has_G N) tab [spec_l1Has_l0_s N] Try.f125 spec_l1Has_ps spec_l1Has_rs⟩ := congrArg (FSum.mk spec_l1Has_ps spec_l1Has_rs) (funext (spec_l1Has_run N))
  rw [e]
  exact fun_ok (c := spec_l1Has_code) progOk (spec_l1Has_gok N) (draw_ok progOk (spec_l1Has_gok N)) Try.call125 Try.func125 (by kernel_rfl) (lsOk_at (L := [spec_l1Has_l0_s N]) ⟨spec_l1Has_l0_ok N, trivial⟩) (by kernel_rfl) (by kernel_rfl) (by kernel_rfl) (by kernel_rfl) (by kernel_rfl)

/-! ### spec_l1Put -/
abbrev spec_l1Put_ps : List (PV.Mode × Ty) := [(.own, LI), (.ro, I)]
abbrev spec_l1Put_rs : List (Bool × Ty) := [(true, LI)]
noncomputable def spec_l1Put_G (N : Nat) : GTab := gOf []
theorem spec_l1Put_gok (N : Nat) : GOk Try.prog (spec_l1Put_G N) := gOf_ok trivial
noncomputable def spec_l1Put_code : Code := (Try.f135.body).getD .skip
noncomputable def spec_l1Put_l0_sh : Sh := ⟨[(0, .one (.ref 0)), (1, .one (.ro I)), (5, .one (.ro I))], [.sl 3 I .own]⟩
noncomputable def spec_l1Put_l0_ex : List (Ex × Sh) := [(.exit 0, ⟨[(0, .one (.ref 0)), (1, .one (.ro I)), (5, .one (.ro I))], [.sl 3 I .own]⟩)]
noncomputable def spec_l1Put_l0 {R : Type} (N : Nat) (k0 : Int → Int → (List Int) → Option R) : Nat → Int → Int → (List Int) → Option R
  | 0, _, _, _ => none
  | K + 1, n1, kv, o =>
    (br (ilt kv (tLen o))
      ((chk (inb o kv)
        (br (ilt (rdI o kv) n1)
        (spec_l1Put_l0 N k0 K n1 (IntKind.i64.wrap (kv + 1)) o)
        (k0 n1 kv o))))
      (k0 n1 kv o))
noncomputable def spec_l1Put_l0_again {R : Type} (N : Nat) (ks : (j : Nat) → ((spec_l1Put_l0_ex.getD j (.ret, Sh.none)).2).T → Option R) (k : Nat) (x : spec_l1Put_l0_sh.T) : Option R :=
  spec_l1Put_l0 N (fun y0 y1 y2 => ks 0 (((), y0, y1, ()), (y2, ()))) k x.1.2.1 x.1.2.2.1 x.2.1
noncomputable def spec_l1Put_l0_s (N : Nat) : LSum := ⟨spec_l1Put_l0_sh, spec_l1Put_l0_ex, fun x ks => spec_l1Put_l0_again N ks N x⟩
theorem spec_l1Put_l0_step (N : Nat) (R : Type) (k : Nat) (x : spec_l1Put_l0_sh.T) (ks : (j : Nat) → ((spec_l1Put_l0_ex.getD j (.ret, Sh.none)).2).T → Option R) : spec_l1Put_l0_again N ks (k + 1) x = roundF (spec_l1Put_G N) tab [] (loopAt spec_l1Put_code 0) spec_l1Put_l0_sh spec_l1Put_l0_ex (fun y => spec_l1Put_l0_again N ks k y) ks x := by kernel_rfl
theorem spec_l1Put_l0_ok (N : Nat) : LoopOk Try.prog Try.f135.ntmps (spec_l1Put_l0_s N) (loopAt spec_l1Put_code 0) :=
  loop_ok (l := spec_l1Put_l0_s N) progOk (spec_l1Put_gok N) (draw_ok progOk (spec_l1Put_gok N)) (fun R k x ks => spec_l1Put_l0_again N ks k x) (fun _ _ _ => rfl) (fun R k x ks => spec_l1Put_l0_step N R k x ks) (fun R x ks r h => ⟨N, h⟩) (lsOk_at (L := []) trivial) (by kernel_rfl) (by kernel_rfl)
noncomputable def spec_l1Put (N : Nat) (l : (List Int)) (n : Int) : Option (((List Int) × Unit) × (Unit)) :=
  spec_l1Put_l0 N (fun n1 kv o => (br (ilt kv (tLen o))
    ((chk (inb o kv)
      (br (ieq (rdI o kv) n1)
      (some ((o, ()), ()))
      ((chk (ile 0 0 && ile 0 kv && ile kv (tLen o))
        (chk (room (α := Int) (β := Int) [] (tCut o 0 kv))
        (chk (room (tApp [] (tCut o 0 kv)) [n1])
        (chk (ile 0 kv && ile kv (tLen o) && ile (tLen o) (tLen o))
        (chk (room (tApp (tApp [] (tCut o 0 kv)) [n1]) (tCut o kv (tLen o)))
        (some (((tApp (tApp (tApp [] (tCut o 0 kv)) [n1]) (tCut o kv (tLen o))), ()), ())))))))))))
    ((chk (ile 0 0 && ile 0 kv && ile kv (tLen o))
      (chk (room (α := Int) (β := Int) [] (tCut o 0 kv))
      (chk (room (tApp [] (tCut o 0 kv)) [n1])
      (chk (ile 0 kv && ile kv (tLen o) && ile (tLen o) (tLen o))
      (chk (room (tApp (tApp [] (tCut o 0 kv)) [n1]) (tCut o kv (tLen o)))
      (some (((tApp (tApp (tApp [] (tCut o 0 kv)) [n1]) (tCut o kv (tLen o))), ()), ())))))))))) N n 0 l
noncomputable def spec_l1Put_S (N : Nat) : FSum := ⟨spec_l1Put_ps, spec_l1Put_rs, fun x => spec_l1Put N x.1 x.2.1⟩
theorem spec_l1Put_run (N : Nat) (x : argsT spec_l1Put_ps) : spec_l1Put N x.1 x.2.1 = funF (spec_l1Put_G N) tab [spec_l1Put_l0_s N] Try.f135 spec_l1Put_ps spec_l1Put_rs x := by kernel_rfl
theorem spec_l1Put_pc (N : Nat) : PC Try.prog 135 (spec_l1Put_S N) := by
  have e : spec_l1Put_S N = ⟨spec_l1Put_ps, spec_l1Put_rs, funF (spec_l1Put_G N) tab [spec_l1Put_l0_s N] Try.f135 spec_l1Put_ps spec_l1Put_rs⟩ := congrArg (FSum.mk spec_l1Put_ps spec_l1Put_rs) (funext (spec_l1Put_run N))
  rw [e]
  exact fun_ok (c := spec_l1Put_code) progOk (spec_l1Put_gok N) (draw_ok progOk (spec_l1Put_gok N)) Try.call135 Try.func135 (by kernel_rfl) (lsOk_at (L := [spec_l1Put_l0_s N]) ⟨spec_l1Put_l0_ok N, trivial⟩) (by kernel_rfl) (by kernel_rfl) (by kernel_rfl) (by kernel_rfl) (by kernel_rfl)

/-! ### spec_l2Reach -/
abbrev spec_l2Reach_ps : List (PV.Mode × Ty) := [(.ro, QILQII), (.ro, LI), (.ro, I)]
abbrev spec_l2Reach_rs : List (Bool × Ty) := [(true, LI)]
noncomputable def spec_l2Reach_G (N : Nat) : GTab := gOf [(125, spec_l1Has_S N), (35, spec_l2Near_S N), (135, spec_l1Put_S N)]
theorem spec_l2Reach_gok (N : Nat) : GOk Try.prog (spec_l2Reach_G N) := gOf_ok ⟨spec_l1Has_pc N, spec_l2Near_pc N, spec_l1Put_pc N, trivial⟩
noncomputable def spec_l2Reach_code : Code := (Try.f194.body).getD .skip
noncomputable def spec_l2Reach_l0_0_0_sh : Sh := ⟨[(1, .one (.ro LI)), (3, .one (.adr 0 0)), (7, .one (.ref 1)), (8, .one (.ro I)), (9, .one (.ro I)), (10, .one (.ro I))], [.box [.ro I, .ro LQII], .sl 3 I .own]⟩
noncomputable def spec_l2Reach_l0_0_0_ex : List (Ex × Sh) := [(.exit 4, ⟨[(1, .one (.ro LI)), (3, .one (.adr 0 0)), (7, .one (.ref 1)), (8, .one (.ro I)), (9, .one (.ro I))], [.box [.ro I, .ro LQII], .sl 3 I .own]⟩)]
noncomputable def spec_l2Reach_l0_0_0 {R : Type} (N : Nat) (k0 : (List Int) → Int → Int → Int → (List (Int × Int)) → (List Int) → Option R) : Nat → (List Int) → Int → Int → Int → Int → (List (Int × Int)) → (List Int) → Option R
  | 0, _, _, _, _, _, _, _ => none
  | K + 1, setv3, round2, i1, kv, o6, o7, o8 =>
    (br (ilt kv (tLen o8))
      ((chk (inb setv3 i1)
        ((spec_l1Has N o8 (rdI setv3 i1)).bind fun r =>
        (br (!r.1.1)
          ((chk (inb o8 kv)
            (chk (inb setv3 i1)
            ((spec_l2Near N (o6, o7) (rdI o8 kv) (rdI setv3 i1)).bind fun r1 =>
            (br r1.1.1
              ((chk (inb setv3 i1)
                ((spec_l1Put N o8 (rdI setv3 i1)).bind fun r2 =>
                spec_l2Reach_l0_0_0 N k0 K setv3 round2 i1 (IntKind.i64.wrap (kv + 1)) o6 o7 r2.1.1)))
              (spec_l2Reach_l0_0_0 N k0 K setv3 round2 i1 (IntKind.i64.wrap (kv + 1)) o6 o7 o8))))))
          (k0 setv3 round2 i1 o6 o7 o8)))))
      (k0 setv3 round2 i1 o6 o7 o8))
noncomputable def spec_l2Reach_l0_0_0_again {R : Type} (N : Nat) (ks : (j : Nat) → ((spec_l2Reach_l0_0_0_ex.getD j (.ret, Sh.none)).2).T → Option R) (k : Nat) (x : spec_l2Reach_l0_0_0_sh.T) : Option R :=
  spec_l2Reach_l0_0_0 N (fun y0 y1 y2 y3 y4 y5 => ks 0 ((y0, (), (), y1, y2, ()), ((y3, y4, ()), y5, ()))) k x.1.1 x.1.2.2.2.1 x.1.2.2.2.2.1 x.1.2.2.2.2.2.1 x.2.1.1 x.2.1.2.1 x.2.2.1
noncomputable def spec_l2Reach_l0_0_0_s (N : Nat) : LSum := ⟨spec_l2Reach_l0_0_0_sh, spec_l2Reach_l0_0_0_ex, fun x ks => spec_l2Reach_l0_0_0_again N ks N x⟩
theorem spec_l2Reach_l0_0_0_step (N : Nat) (R : Type) (k : Nat) (x : spec_l2Reach_l0_0_0_sh.T) (ks : (j : Nat) → ((spec_l2Reach_l0_0_0_ex.getD j (.ret, Sh.none)).2).T → Option R) : spec_l2Reach_l0_0_0_again N ks (k + 1) x = roundF (spec_l2Reach_G N) tab [] (loopAt (loopAt (loopAt spec_l2Reach_code 0) 0) 0) spec_l2Reach_l0_0_0_sh spec_l2Reach_l0_0_0_ex (fun y => spec_l2Reach_l0_0_0_again N ks k y) ks x := by kernel_rfl
theorem spec_l2Reach_l0_0_0_ok (N : Nat) : LoopOk Try.prog Try.f194.ntmps (spec_l2Reach_l0_0_0_s N) (loopAt (loopAt (loopAt spec_l2Reach_code 0) 0) 0) :=
  loop_ok (l := spec_l2Reach_l0_0_0_s N) progOk (spec_l2Reach_gok N) (draw_ok progOk (spec_l2Reach_gok N)) (fun R k x ks => spec_l2Reach_l0_0_0_again N ks k x) (fun _ _ _ => rfl) (fun R k x ks => spec_l2Reach_l0_0_0_step N R k x ks) (fun R x ks r h => ⟨N, h⟩) (lsOk_at (L := []) trivial) (by kernel_rfl) (by kernel_rfl)
noncomputable def spec_l2Reach_l0_0_sh : Sh := ⟨[(1, .one (.ro LI)), (3, .one (.adr 0 0)), (7, .one (.ref 1)), (8, .one (.ro I)), (9, .one (.ro I))], [.box [.ro I, .ro LQII], .sl 3 I .own]⟩
noncomputable def spec_l2Reach_l0_0_ex : List (Ex × Sh) := [(.exit 2, ⟨[(1, .one (.ro LI)), (3, .one (.adr 0 0)), (7, .one (.ref 1)), (8, .one (.ro I))], [.box [.ro I, .ro LQII], .sl 3 I .own]⟩)]
noncomputable def spec_l2Reach_l0_0 {R : Type} (N : Nat) (k0 : (List Int) → Int → Int → (List (Int × Int)) → (List Int) → Option R) : Nat → (List Int) → Int → Int → Int → (List (Int × Int)) → (List Int) → Option R
  | 0, _, _, _, _, _, _ => none
  | K + 1, setv2, round1, i, o3, o4, o5 =>
    (br (ilt i (tLen setv2))
      (spec_l2Reach_l0_0_0 N (fun setv3 round2 i1 o6 o7 o8 => spec_l2Reach_l0_0 N k0 K setv3 round2 (IntKind.i64.wrap (i1 + 1)) o6 o7 o8) N setv2 round1 i 0 o3 o4 o5)
      (k0 setv2 round1 o3 o4 o5))
noncomputable def spec_l2Reach_l0_0_again {R : Type} (N : Nat) (ks : (j : Nat) → ((spec_l2Reach_l0_0_ex.getD j (.ret, Sh.none)).2).T → Option R) (k : Nat) (x : spec_l2Reach_l0_0_sh.T) : Option R :=
  spec_l2Reach_l0_0 N (fun y0 y1 y2 y3 y4 => ks 0 ((y0, (), (), y1, ()), ((y2, y3, ()), y4, ()))) k x.1.1 x.1.2.2.2.1 x.1.2.2.2.2.1 x.2.1.1 x.2.1.2.1 x.2.2.1
noncomputable def spec_l2Reach_l0_0_s (N : Nat) : LSum := ⟨spec_l2Reach_l0_0_sh, spec_l2Reach_l0_0_ex, fun x ks => spec_l2Reach_l0_0_again N ks N x⟩
theorem spec_l2Reach_l0_0_step (N : Nat) (R : Type) (k : Nat) (x : spec_l2Reach_l0_0_sh.T) (ks : (j : Nat) → ((spec_l2Reach_l0_0_ex.getD j (.ret, Sh.none)).2).T → Option R) : spec_l2Reach_l0_0_again N ks (k + 1) x = roundF (spec_l2Reach_G N) tab [spec_l2Reach_l0_0_0_s N] (loopAt (loopAt spec_l2Reach_code 0) 0) spec_l2Reach_l0_0_sh spec_l2Reach_l0_0_ex (fun y => spec_l2Reach_l0_0_again N ks k y) ks x := by kernel_rfl
theorem spec_l2Reach_l0_0_ok (N : Nat) : LoopOk Try.prog Try.f194.ntmps (spec_l2Reach_l0_0_s N) (loopAt (loopAt spec_l2Reach_code 0) 0) :=
  loop_ok (l := spec_l2Reach_l0_0_s N) progOk (spec_l2Reach_gok N) (draw_ok progOk (spec_l2Reach_gok N)) (fun R k x ks => spec_l2Reach_l0_0_again N ks k x) (fun _ _ _ => rfl) (fun R k x ks => spec_l2Reach_l0_0_step N R k x ks) (fun R x ks r h => ⟨N, h⟩) (lsOk_at (L := [spec_l2Reach_l0_0_0_s N]) ⟨spec_l2Reach_l0_0_0_ok N, trivial⟩) (by kernel_rfl) (by kernel_rfl)
noncomputable def spec_l2Reach_l0_sh : Sh := ⟨[(1, .one (.ro LI)), (3, .one (.adr 0 0)), (7, .one (.ref 1)), (8, .one (.ro I))], [.box [.ro I, .ro LQII], .sl 3 I .own]⟩
noncomputable def spec_l2Reach_l0_ex : List (Ex × Sh) := [(.exit 0, ⟨[(7, .one (.ref 0))], [.sl 3 I .own]⟩)]
noncomputable def spec_l2Reach_l0 {R : Type} (N : Nat) (k0 : (List Int) → Option R) : Nat → (List Int) → Int → Int → (List (Int × Int)) → (List Int) → Option R
  | 0, _, _, _, _, _ => none
  | K + 1, setv1, round, o, o1, o2 =>
    (br (ilt round (tLen setv1))
      (spec_l2Reach_l0_0 N (fun setv2 round1 o3 o4 o5 => spec_l2Reach_l0 N k0 K setv2 (IntKind.i64.wrap (round1 + 1)) o3 o4 o5) N setv1 round 0 o o1 o2)
      (k0 o2))
noncomputable def spec_l2Reach_l0_again {R : Type} (N : Nat) (ks : (j : Nat) → ((spec_l2Reach_l0_ex.getD j (.ret, Sh.none)).2).T → Option R) (k : Nat) (x : spec_l2Reach_l0_sh.T) : Option R :=
  spec_l2Reach_l0 N (fun y0 => ks 0 (((), ()), (y0, ()))) k x.1.1 x.1.2.2.2.1 x.2.1.1 x.2.1.2.1 x.2.2.1
noncomputable def spec_l2Reach_l0_s (N : Nat) : LSum := ⟨spec_l2Reach_l0_sh, spec_l2Reach_l0_ex, fun x ks => spec_l2Reach_l0_again N ks N x⟩
theorem spec_l2Reach_l0_step (N : Nat) (R : Type) (k : Nat) (x : spec_l2Reach_l0_sh.T) (ks : (j : Nat) → ((spec_l2Reach_l0_ex.getD j (.ret, Sh.none)).2).T → Option R) : spec_l2Reach_l0_again N ks (k + 1) x = roundF (spec_l2Reach_G N) tab [spec_l2Reach_l0_0_s N] (loopAt spec_l2Reach_code 0) spec_l2Reach_l0_sh spec_l2Reach_l0_ex (fun y => spec_l2Reach_l0_again N ks k y) ks x := by kernel_rfl
theorem spec_l2Reach_l0_ok (N : Nat) : LoopOk Try.prog Try.f194.ntmps (spec_l2Reach_l0_s N) (loopAt spec_l2Reach_code 0) :=
  loop_ok (l := spec_l2Reach_l0_s N) progOk (spec_l2Reach_gok N) (draw_ok progOk (spec_l2Reach_gok N)) (fun R k x ks => spec_l2Reach_l0_again N ks k x) (fun _ _ _ => rfl) (fun R k x ks => spec_l2Reach_l0_step N R k x ks) (fun R x ks r h => ⟨N, h⟩) (lsOk_at (L := [spec_l2Reach_l0_0_s N]) ⟨spec_l2Reach_l0_0_ok N, trivial⟩) (by kernel_rfl) (by kernel_rfl)
noncomputable def spec_l2Reach (N : Nat) (g : (Int × (List (Int × Int)))) (setv : (List Int)) (x : Int) : Option (((List Int) × Unit) × (Unit)) :=
  spec_l2Reach_l0 N (fun o => some ((o, ()), ())) N setv 0 g.1 g.2 [x]
noncomputable def spec_l2Reach_S (N : Nat) : FSum := ⟨spec_l2Reach_ps, spec_l2Reach_rs, fun x => spec_l2Reach N x.1 x.2.1 x.2.2.1⟩
theorem spec_l2Reach_run (N : Nat) (x : argsT spec_l2Reach_ps) : spec_l2Reach N x.1 x.2.1 x.2.2.1 = funF (spec_l2Reach_G N) tab [spec_l2Reach_l0_s N] Try.f194 spec_l2Reach_ps spec_l2Reach_rs x := by kernel_rfl
theorem spec_l2Reach_pc (N : Nat) : PC Try.prog 194 (spec_l2Reach_S N) := by
  have e : spec_l2Reach_S N = ⟨spec_l2Reach_ps, spec_l2Reach_rs, funF (spec_l2Reach_G N) tab [spec_l2Reach_l0_s N] Try.f194 spec_l2Reach_ps spec_l2Reach_rs⟩ := congrArg (FSum.mk spec_l2Reach_ps spec_l2Reach_rs) (funext (spec_l2Reach_run N))
  rw [e]
  exact fun_ok (c := spec_l2Reach_code) progOk (spec_l2Reach_gok N) (draw_ok progOk (spec_l2Reach_gok N)) Try.call194 Try.func194 (by kernel_rfl) (lsOk_at (L := [spec_l2Reach_l0_s N]) ⟨spec_l2Reach_l0_ok N, trivial⟩) (by kernel_rfl) (by kernel_rfl) (by kernel_rfl) (by kernel_rfl) (by kernel_rfl)

/-! ### spec_l5Chain -/
abbrev spec_l5Chain_ps : List (PV.Mode × Ty) := [(.ro, QILQII), (.ro, LI), (.ro, I), (.ro, I)]
abbrev spec_l5Chain_rs : List (Bool × Ty) := [(true, LI)]
noncomputable def spec_l5Chain_G (N : Nat) : GTab := gOf [(194, spec_l2Reach_S N)]
theorem spec_l5Chain_gok (N : Nat) : GOk Try.prog (spec_l5Chain_G N) := gOf_ok ⟨spec_l2Reach_pc N, trivial⟩
noncomputable def spec_l5Chain_code : Code := (Try.f169.body).getD .skip
noncomputable def spec_l5Chain_l0_sh : Sh := ⟨[(1, .one (.ro LI)), (2, .one (.ro I)), (3, .one (.ro I)), (4, .one (.adr 0 0)), (9, .one (.ref 1)), (10, .one (.ro I))], [.box [.ro I, .ro LQII], .sl 3 I .own]⟩
noncomputable def spec_l5Chain_l0_ex : List (Ex × Sh) := [(.exit 0, ⟨[(2, .one (.ro I)), (4, .one (.adr 0 0)), (9, .one (.ref 1))], [.box [.ro I, .ro LQII], .sl 3 I .own]⟩)]
noncomputable def spec_l5Chain_l0 {R : Type} (N : Nat) (k0 : Int → Int → (List (Int × Int)) → (List Int) → Option R) : Nat → (List Int) → Int → Int → Int → Int → (List (Int × Int)) → (List Int) → Option R
  | 0, _, _, _, _, _, _, _ => none
  | K + 1, colours1, x1, c1, y, o, o1, o2 =>
    (br (ilt y o)
      ((chk (inb colours1 y)
        (br (ieq (rdI colours1 y) c1)
        ((chk (room o2 [y])
          (spec_l5Chain_l0 N k0 K colours1 x1 c1 (IntKind.i64.wrap (y + 1)) o o1 (tApp o2 [y]))))
        ((chk (inb colours1 y)
          (chk (inb colours1 x1)
          (br (ieq (rdI colours1 y) (rdI colours1 x1))
          ((chk (room o2 [y])
            (spec_l5Chain_l0 N k0 K colours1 x1 c1 (IntKind.i64.wrap (y + 1)) o o1 (tApp o2 [y]))))
          (spec_l5Chain_l0 N k0 K colours1 x1 c1 (IntKind.i64.wrap (y + 1)) o o1 o2))))))))
      (k0 x1 o o1 o2))
noncomputable def spec_l5Chain_l0_again {R : Type} (N : Nat) (ks : (j : Nat) → ((spec_l5Chain_l0_ex.getD j (.ret, Sh.none)).2).T → Option R) (k : Nat) (x : spec_l5Chain_l0_sh.T) : Option R :=
  spec_l5Chain_l0 N (fun y0 y1 y2 y3 => ks 0 ((y0, (), (), ()), ((y1, y2, ()), y3, ()))) k x.1.1 x.1.2.1 x.1.2.2.1 x.1.2.2.2.2.2.1 x.2.1.1 x.2.1.2.1 x.2.2.1
noncomputable def spec_l5Chain_l0_s (N : Nat) : LSum := ⟨spec_l5Chain_l0_sh, spec_l5Chain_l0_ex, fun x ks => spec_l5Chain_l0_again N ks N x⟩
theorem spec_l5Chain_l0_step (N : Nat) (R : Type) (k : Nat) (x : spec_l5Chain_l0_sh.T) (ks : (j : Nat) → ((spec_l5Chain_l0_ex.getD j (.ret, Sh.none)).2).T → Option R) : spec_l5Chain_l0_again N ks (k + 1) x = roundF (spec_l5Chain_G N) tab [] (loopAt spec_l5Chain_code 0) spec_l5Chain_l0_sh spec_l5Chain_l0_ex (fun y => spec_l5Chain_l0_again N ks k y) ks x := by kernel_rfl
theorem spec_l5Chain_l0_ok (N : Nat) : LoopOk Try.prog Try.f169.ntmps (spec_l5Chain_l0_s N) (loopAt spec_l5Chain_code 0) :=
  loop_ok (l := spec_l5Chain_l0_s N) progOk (spec_l5Chain_gok N) (draw_ok progOk (spec_l5Chain_gok N)) (fun R k x ks => spec_l5Chain_l0_again N ks k x) (fun _ _ _ => rfl) (fun R k x ks => spec_l5Chain_l0_step N R k x ks) (fun R x ks r h => ⟨N, h⟩) (lsOk_at (L := []) trivial) (by kernel_rfl) (by kernel_rfl)
noncomputable def spec_l5Chain (N : Nat) (g : (Int × (List (Int × Int)))) (colours : (List Int)) (x : Int) (c : Int) : Option (((List Int) × Unit) × (Unit)) :=
  spec_l5Chain_l0 N (fun x1 o o1 o2 => ((spec_l2Reach N (o, o1) o2 x1).bind fun r =>
    some ((r.1.1, ()), ()))) N colours x c 0 g.1 g.2 []
noncomputable def spec_l5Chain_S (N : Nat) : FSum := ⟨spec_l5Chain_ps, spec_l5Chain_rs, fun x => spec_l5Chain N x.1 x.2.1 x.2.2.1 x.2.2.2.1⟩
theorem spec_l5Chain_run (N : Nat) (x : argsT spec_l5Chain_ps) : spec_l5Chain N x.1 x.2.1 x.2.2.1 x.2.2.2.1 = funF (spec_l5Chain_G N) tab [spec_l5Chain_l0_s N] Try.f169 spec_l5Chain_ps spec_l5Chain_rs x := by kernel_rfl
theorem spec_l5Chain_pc (N : Nat) : PC Try.prog 169 (spec_l5Chain_S N) := by
  have e : spec_l5Chain_S N = ⟨spec_l5Chain_ps, spec_l5Chain_rs, funF (spec_l5Chain_G N) tab [spec_l5Chain_l0_s N] Try.f169 spec_l5Chain_ps spec_l5Chain_rs⟩ := congrArg (FSum.mk spec_l5Chain_ps spec_l5Chain_rs) (funext (spec_l5Chain_run N))
  rw [e]
  exact fun_ok (c := spec_l5Chain_code) progOk (spec_l5Chain_gok N) (draw_ok progOk (spec_l5Chain_gok N)) Try.call169 Try.func169 (by kernel_rfl) (lsOk_at (L := [spec_l5Chain_l0_s N]) ⟨spec_l5Chain_l0_ok N, trivial⟩) (by kernel_rfl) (by kernel_rfl) (by kernel_rfl) (by kernel_rfl) (by kernel_rfl)

/-! ### spec_l5Kempe -/
abbrev spec_l5Kempe_ps : List (PV.Mode × Ty) := [(.ro, QILQII), (.ro, LI), (.ro, I), (.ro, I)]
abbrev spec_l5Kempe_rs : List (Bool × Ty) := [(true, LI)]
noncomputable def spec_l5Kempe_G (N : Nat) : GTab := gOf [(124, spec_l1Own_S N), (169, spec_l5Chain_S N)]
theorem spec_l5Kempe_gok (N : Nat) : GOk Try.prog (spec_l5Kempe_G N) := gOf_ok ⟨spec_l1Own_pc N, spec_l5Chain_pc N, trivial⟩
noncomputable def spec_l5Kempe_code : Code := (Try.f140.body).getD .skip
noncomputable def spec_l5Kempe_l0_sh : Sh := ⟨[(1, .one (.ro LI)), (2, .one (.ro I)), (3, .one (.ro I)), (9, .one (.ref 0)), (10, .one (.ref 1)), (11, .one (.ro I))], [.sl 3 I .own, .sl 3 I .own]⟩
noncomputable def spec_l5Kempe_l0_ex : List (Ex × Sh) := [(.exit 0, ⟨[(9, .one (.ref 0))], [.sl 3 I .own]⟩)]
noncomputable def spec_l5Kempe_l0 {R : Type} (N : Nat) (k0 : (List Int) → Option R) : Nat → (List Int) → Int → Int → Int → (List Int) → (List Int) → Option R
  | 0, _, _, _, _, _, _ => none
  | K + 1, colours1, x1, c1, i, o, o1 =>
    (br (ilt i (tLen o1))
      ((chk (inb o1 i)
        (chk (inb colours1 x1)
        (chk (inb o1 i)
        (chk (inb colours1 (rdI o1 i))
        (chk (inb o (rdI o1 i))
        (spec_l5Kempe_l0 N k0 K colours1 x1 c1 (IntKind.i64.wrap (i + 1)) (tSet o (rdI o1 i) (IntKind.i64.wrap ((IntKind.i64.wrap ((rdI colours1 x1) + c1)) - (rdI colours1 (rdI o1 i))))) o1)))))))
      (k0 o))
noncomputable def spec_l5Kempe_l0_again {R : Type} (N : Nat) (ks : (j : Nat) → ((spec_l5Kempe_l0_ex.getD j (.ret, Sh.none)).2).T → Option R) (k : Nat) (x : spec_l5Kempe_l0_sh.T) : Option R :=
  spec_l5Kempe_l0 N (fun y0 => ks 0 (((), ()), (y0, ()))) k x.1.1 x.1.2.1 x.1.2.2.1 x.1.2.2.2.2.2.1 x.2.1 x.2.2.1
noncomputable def spec_l5Kempe_l0_s (N : Nat) : LSum := ⟨spec_l5Kempe_l0_sh, spec_l5Kempe_l0_ex, fun x ks => spec_l5Kempe_l0_again N ks N x⟩
theorem spec_l5Kempe_l0_step (N : Nat) (R : Type) (k : Nat) (x : spec_l5Kempe_l0_sh.T) (ks : (j : Nat) → ((spec_l5Kempe_l0_ex.getD j (.ret, Sh.none)).2).T → Option R) : spec_l5Kempe_l0_again N ks (k + 1) x = roundF (spec_l5Kempe_G N) tab [] (loopAt spec_l5Kempe_code 0) spec_l5Kempe_l0_sh spec_l5Kempe_l0_ex (fun y => spec_l5Kempe_l0_again N ks k y) ks x := by kernel_rfl
theorem spec_l5Kempe_l0_ok (N : Nat) : LoopOk Try.prog Try.f140.ntmps (spec_l5Kempe_l0_s N) (loopAt spec_l5Kempe_code 0) :=
  loop_ok (l := spec_l5Kempe_l0_s N) progOk (spec_l5Kempe_gok N) (draw_ok progOk (spec_l5Kempe_gok N)) (fun R k x ks => spec_l5Kempe_l0_again N ks k x) (fun _ _ _ => rfl) (fun R k x ks => spec_l5Kempe_l0_step N R k x ks) (fun R x ks r h => ⟨N, h⟩) (lsOk_at (L := []) trivial) (by kernel_rfl) (by kernel_rfl)
noncomputable def spec_l5Kempe (N : Nat) (g : (Int × (List (Int × Int)))) (colours : (List Int)) (x : Int) (c : Int) : Option (((List Int) × Unit) × (Unit)) :=
  ((spec_l1Own N colours).bind fun r =>
    ((spec_l5Chain N (g.1, g.2) colours x c).bind fun r1 =>
      spec_l5Kempe_l0 N (fun o => some ((o, ()), ())) N colours x c 0 r.1.1 r1.1.1))
noncomputable def spec_l5Kempe_S (N : Nat) : FSum := ⟨spec_l5Kempe_ps, spec_l5Kempe_rs, fun x => spec_l5Kempe N x.1 x.2.1 x.2.2.1 x.2.2.2.1⟩
theorem spec_l5Kempe_run (N : Nat) (x : argsT spec_l5Kempe_ps) : spec_l5Kempe N x.1 x.2.1 x.2.2.1 x.2.2.2.1 = funF (spec_l5Kempe_G N) tab [spec_l5Kempe_l0_s N] Try.f140 spec_l5Kempe_ps spec_l5Kempe_rs x := by kernel_rfl
theorem spec_l5Kempe_pc (N : Nat) : PC Try.prog 140 (spec_l5Kempe_S N) := by
  have e : spec_l5Kempe_S N = ⟨spec_l5Kempe_ps, spec_l5Kempe_rs, funF (spec_l5Kempe_G N) tab [spec_l5Kempe_l0_s N] Try.f140 spec_l5Kempe_ps spec_l5Kempe_rs⟩ := congrArg (FSum.mk spec_l5Kempe_ps spec_l5Kempe_rs) (funext (spec_l5Kempe_run N))
  rw [e]
  exact fun_ok (c := spec_l5Kempe_code) progOk (spec_l5Kempe_gok N) (draw_ok progOk (spec_l5Kempe_gok N)) Try.call140 Try.func140 (by kernel_rfl) (lsOk_at (L := [spec_l5Kempe_l0_s N]) ⟨spec_l5Kempe_l0_ok N, trivial⟩) (by kernel_rfl) (by kernel_rfl) (by kernel_rfl) (by kernel_rfl) (by kernel_rfl)

/-! ### spec_l1Same -/
abbrev spec_l1Same_ps : List (PV.Mode × Ty) := [(.ro, LI), (.ro, LI)]
abbrev spec_l1Same_rs : List (Bool × Ty) := [(true, .bool)]
noncomputable def spec_l1Same_G (N : Nat) : GTab := gOf []
theorem spec_l1Same_gok (N : Nat) : GOk Try.prog (spec_l1Same_G N) := gOf_ok trivial
noncomputable def spec_l1Same_code : Code := (Try.f123.body).getD .skip
noncomputable def spec_l1Same_l0_sh : Sh := ⟨[(0, .one (.ro LI)), (1, .one (.ro LI)), (5, .one (.ro I))], []⟩
noncomputable def spec_l1Same_l0_ex : List (Ex × Sh) := [(.ret, ⟨[(4, .one (.ro .bool))], []⟩), (.exit 0, ⟨[], []⟩)]
noncomputable def spec_l1Same_l0 {R : Type} (N : Nat) (k0 : Bool → Option R) (k1 : Unit → Option R) : Nat → (List Int) → (List Int) → Int → Option R
  | 0, _, _, _ => none
  | K + 1, a1, b1, i =>
    (br (ilt i (tLen a1))
      ((chk (inb a1 i)
        (chk (inb b1 i)
        (br (ine (rdI a1 i) (rdI b1 i))
        (k0 false)
        (spec_l1Same_l0 N k0 k1 K a1 b1 (IntKind.i64.wrap (i + 1)))))))
      (k1 ()))
noncomputable def spec_l1Same_l0_again {R : Type} (N : Nat) (ks : (j : Nat) → ((spec_l1Same_l0_ex.getD j (.ret, Sh.none)).2).T → Option R) (k : Nat) (x : spec_l1Same_l0_sh.T) : Option R :=
  spec_l1Same_l0 N (fun y0 => ks 0 ((y0, ()), ())) (fun (_ : Unit) => ks 1 ((), ())) k x.1.1 x.1.2.1 x.1.2.2.1
noncomputable def spec_l1Same_l0_s (N : Nat) : LSum := ⟨spec_l1Same_l0_sh, spec_l1Same_l0_ex, fun x ks => spec_l1Same_l0_again N ks N x⟩
theorem spec_l1Same_l0_step (N : Nat) (R : Type) (k : Nat) (x : spec_l1Same_l0_sh.T) (ks : (j : Nat) → ((spec_l1Same_l0_ex.getD j (.ret, Sh.none)).2).T → Option R) : spec_l1Same_l0_again N ks (k + 1) x = roundF (spec_l1Same_G N) tab [] (loopAt spec_l1Same_code 0) spec_l1Same_l0_sh spec_l1Same_l0_ex (fun y => spec_l1Same_l0_again N ks k y) ks x := by kernel_rfl
theorem spec_l1Same_l0_ok (N : Nat) : LoopOk Try.prog Try.f123.ntmps (spec_l1Same_l0_s N) (loopAt spec_l1Same_code 0) :=
  loop_ok (l := spec_l1Same_l0_s N) progOk (spec_l1Same_gok N) (draw_ok progOk (spec_l1Same_gok N)) (fun R k x ks => spec_l1Same_l0_again N ks k x) (fun _ _ _ => rfl) (fun R k x ks => spec_l1Same_l0_step N R k x ks) (fun R x ks r h => ⟨N, h⟩) (lsOk_at (L := []) trivial) (by kernel_rfl) (by kernel_rfl)
noncomputable def spec_l1Same (N : Nat) (a : (List Int)) (b : (List Int)) : Option ((Bool × Unit) × (Unit)) :=
  (br (ine (tLen a) (tLen b))
    (some ((false, ()), ()))
    (spec_l1Same_l0 N (fun x => some ((x, ()), ())) (fun (_ : Unit) => some ((true, ()), ())) N a b 0))
noncomputable def spec_l1Same_S (N : Nat) : FSum := ⟨spec_l1Same_ps, spec_l1Same_rs, fun x => spec_l1Same N x.1 x.2.1⟩
theorem spec_l1Same_run (N : Nat) (x : argsT spec_l1Same_ps) : spec_l1Same N x.1 x.2.1 = funF (spec_l1Same_G N) tab [spec_l1Same_l0_s N] Try.f123 spec_l1Same_ps spec_l1Same_rs x := by kernel_rfl
theorem spec_l1Same_pc (N : Nat) : PC Try.prog 123 (spec_l1Same_S N) := by
  have e : spec_l1Same_S N = ⟨spec_l1Same_ps, spec_l1Same_rs, funF (spec_l1Same_G N) tab [spec_l1Same_l0_s N] Try.f123 spec_l1Same_ps spec_l1Same_rs⟩ := congrArg (FSum.mk spec_l1Same_ps spec_l1Same_rs) (funext (spec_l1Same_run N))
  rw [e]
  exact fun_ok (c := spec_l1Same_code) progOk (spec_l1Same_gok N) (draw_ok progOk (spec_l1Same_gok N)) Try.call123 Try.func123 (by kernel_rfl) (lsOk_at (L := [spec_l1Same_l0_s N]) ⟨spec_l1Same_l0_ok N, trivial⟩) (by kernel_rfl) (by kernel_rfl) (by kernel_rfl) (by kernel_rfl) (by kernel_rfl)

/-! ### spec_l5Step -/
abbrev spec_l5Step_ps : List (PV.Mode × Ty) := [(.ro, QILQII), (.ro, .bool), (.ro, LI), (.ro, LI)]
abbrev spec_l5Step_rs : List (Bool × Ty) := [(true, .bool)]
noncomputable def spec_l5Step_G (N : Nat) : GTab := gOf [(139, spec_l5Changed_S N), (140, spec_l5Kempe_S N), (123, spec_l1Same_S N)]
theorem spec_l5Step_gok (N : Nat) : GOk Try.prog (spec_l5Step_G N) := gOf_ok ⟨spec_l5Changed_pc N, spec_l5Kempe_pc N, spec_l1Same_pc N, trivial⟩
noncomputable def spec_l5Step_code : Code := (Try.f97.body).getD .skip
noncomputable def spec_l5Step (N : Nat) (g : (Int × (List (Int × Int)))) (kempe : Bool) (a : (List Int)) (b : (List Int)) : Option ((Bool × Unit) × (Unit)) :=
  ((spec_l5Changed N a b).bind fun r =>
    (br (!kempe)
      (some (((ieq (tLen r.1.1) 1), ()), ()))
      ((br (ieq (tLen r.1.1) 0)
        (some (((ieq (tLen r.1.1) 1), ()), ()))
        ((chk (inb r.1.1 0)
          (chk (inb r.1.1 0)
          (chk (inb b (rdI r.1.1 0))
          ((spec_l5Kempe N (g.1, g.2) a (rdI r.1.1 0) (rdI b (rdI r.1.1 0))).bind fun r1 =>
          ((spec_l1Same N r1.1.1 b).bind fun r2 =>
            some ((r2.1.1, ()), ())))))))))))
noncomputable def spec_l5Step_S (N : Nat) : FSum := ⟨spec_l5Step_ps, spec_l5Step_rs, fun x => spec_l5Step N x.1 x.2.1 x.2.2.1 x.2.2.2.1⟩
theorem spec_l5Step_run (N : Nat) (x : argsT spec_l5Step_ps) : spec_l5Step N x.1 x.2.1 x.2.2.1 x.2.2.2.1 = funF (spec_l5Step_G N) tab [] Try.f97 spec_l5Step_ps spec_l5Step_rs x := by kernel_rfl
theorem spec_l5Step_pc (N : Nat) : PC Try.prog 97 (spec_l5Step_S N) := by
  have e : spec_l5Step_S N = ⟨spec_l5Step_ps, spec_l5Step_rs, funF (spec_l5Step_G N) tab [] Try.f97 spec_l5Step_ps spec_l5Step_rs⟩ := congrArg (FSum.mk spec_l5Step_ps spec_l5Step_rs) (funext (spec_l5Step_run N))
  rw [e]
  exact fun_ok (c := spec_l5Step_code) progOk (spec_l5Step_gok N) (draw_ok progOk (spec_l5Step_gok N)) Try.call97 Try.func97 (by kernel_rfl) (lsOk_at (L := []) trivial) (by kernel_rfl) (by kernel_rfl) (by kernel_rfl) (by kernel_rfl) (by kernel_rfl)

/-! ### spec_l5Space -/
abbrev spec_l5Space_ps : List (PV.Mode × Ty) := [(.ro, QILQII), (.ro, I), (.ro, .bool)]
abbrev spec_l5Space_rs : List (Bool × Ty) := [(true, QLLILQII), (true, .bool)]
noncomputable def spec_l5Space_G (N : Nat) : GTab := gOf [(96, spec_l5All_S N), (97, spec_l5Step_S N)]
theorem spec_l5Space_gok (N : Nat) : GOk Try.prog (spec_l5Space_G N) := gOf_ok ⟨spec_l5All_pc N, spec_l5Step_pc N, trivial⟩
noncomputable def spec_l5Space_code : Code := (Try.f57.body).getD .skip
noncomputable def spec_l5Space_l0_0_sh : Sh := ⟨[(2, .one (.ro .bool)), (3, .one (.adr 0 0)), (6, .one (.adr 1 0)), (8, .one (.ref 2)), (10, .one (.adr 3 0)), (11, .one (.ro I)), (12, .one (.ro I))], [.box [.ro I, .ro LQII], .box [.nilsl, .nilsl], .sl 43 LI .deep, .box [.ref 2, .ref 4], .sl 80 QII .own]⟩
noncomputable def spec_l5Space_l0_0_ex : List (Ex × Sh) := [(.exit 2, ⟨[(2, .one (.ro .bool)), (3, .one (.adr 0 0)), (6, .one (.adr 1 0)), (8, .one (.ref 2)), (10, .one (.adr 3 0)), (11, .one (.ro I))], [.box [.ro I, .ro LQII], .box [.nilsl, .nilsl], .sl 43 LI .deep, .box [.ref 2, .ref 4], .sl 80 QII .own]⟩)]
noncomputable def spec_l5Space_l0_0 {R : Type} (N : Nat) (k0 : Bool → Int → Int → (List (Int × Int)) → (List (List Int)) → (List (Int × Int)) → Option R) : Nat → Bool → Int → Int → Int → (List (Int × Int)) → (List (List Int)) → (List (Int × Int)) → Option R
  | 0, _, _, _, _, _, _, _ => none
  | K + 1, kempe2, i1, j, o4, o5, o6, o7 =>
    (br (ilt j (tLen o6))
      ((chk (inb o6 i1)
        (chk (inb o6 j)
        ((spec_l5Step N (o4, o5) kempe2 (rdL o6 i1) (rdL o6 j)).bind fun r1 =>
        (br r1.1.1
          ((chk (room o7 [(i1, j)])
            (spec_l5Space_l0_0 N k0 K kempe2 i1 (IntKind.i64.wrap (j + 1)) o4 o5 o6 (tApp o7 [(i1, j)]))))
          (spec_l5Space_l0_0 N k0 K kempe2 i1 (IntKind.i64.wrap (j + 1)) o4 o5 o6 o7))))))
      (k0 kempe2 i1 o4 o5 o6 o7))
noncomputable def spec_l5Space_l0_0_again {R : Type} (N : Nat) (ks : (j : Nat) → ((spec_l5Space_l0_0_ex.getD j (.ret, Sh.none)).2).T → Option R) (k : Nat) (x : spec_l5Space_l0_0_sh.T) : Option R :=
  spec_l5Space_l0_0 N (fun y0 y1 y2 y3 y4 y5 => ks 0 ((y0, (), (), (), (), y1, ()), ((y2, y3, ()), ((), (), ()), y4, ((), (), ()), y5, ()))) k x.1.1 x.1.2.2.2.2.2.1 x.1.2.2.2.2.2.2.1 x.2.1.1 x.2.1.2.1 x.2.2.2.1 x.2.2.2.2.2.1
noncomputable def spec_l5Space_l0_0_s (N : Nat) : LSum := ⟨spec_l5Space_l0_0_sh, spec_l5Space_l0_0_ex, fun x ks => spec_l5Space_l0_0_again N ks N x⟩
theorem spec_l5Space_l0_0_step (N : Nat) (R : Type) (k : Nat) (x : spec_l5Space_l0_0_sh.T) (ks : (j : Nat) → ((spec_l5Space_l0_0_ex.getD j (.ret, Sh.none)).2).T → Option R) : spec_l5Space_l0_0_again N ks (k + 1) x = roundF (spec_l5Space_G N) tab [] (loopAt (loopAt spec_l5Space_code 0) 0) spec_l5Space_l0_0_sh spec_l5Space_l0_0_ex (fun y => spec_l5Space_l0_0_again N ks k y) ks x := by kernel_rfl
theorem spec_l5Space_l0_0_ok (N : Nat) : LoopOk Try.prog Try.f57.ntmps (spec_l5Space_l0_0_s N) (loopAt (loopAt spec_l5Space_code 0) 0) :=
  loop_ok (l := spec_l5Space_l0_0_s N) progOk (spec_l5Space_gok N) (draw_ok progOk (spec_l5Space_gok N)) (fun R k x ks => spec_l5Space_l0_0_again N ks k x) (fun _ _ _ => rfl) (fun R k x ks => spec_l5Space_l0_0_step N R k x ks) (fun R x ks r h => ⟨N, h⟩) (lsOk_at (L := []) trivial) (by kernel_rfl) (by kernel_rfl)
noncomputable def spec_l5Space_l0_sh : Sh := ⟨[(2, .one (.ro .bool)), (3, .one (.adr 0 0)), (6, .one (.adr 1 0)), (8, .one (.ref 2)), (10, .one (.adr 3 0)), (11, .one (.ro I))], [.box [.ro I, .ro LQII], .box [.nilsl, .nilsl], .sl 43 LI .deep, .box [.ref 2, .ref 4], .sl 80 QII .own]⟩
noncomputable def spec_l5Space_l0_ex : List (Ex × Sh) := [(.exit 0, ⟨[(6, .one (.adr 0 0)), (10, .one (.adr 1 0))], [.box [.nilsl, .nilsl], .box [.ref 2, .ref 3], .sl 43 LI .deep, .sl 80 QII .own]⟩)]
noncomputable def spec_l5Space_l0 {R : Type} (N : Nat) (k0 : (List (List Int)) → (List (Int × Int)) → Option R) : Nat → Bool → Int → Int → (List (Int × Int)) → (List (List Int)) → (List (Int × Int)) → Option R
  | 0, _, _, _, _, _, _ => none
  | K + 1, kempe1, i, o, o1, o2, o3 =>
    (br (ilt i (tLen o2))
      (spec_l5Space_l0_0 N (fun kempe2 i1 o4 o5 o6 o7 => spec_l5Space_l0 N k0 K kempe2 (IntKind.i64.wrap (i1 + 1)) o4 o5 o6 o7) N kempe1 i (IntKind.i64.wrap (i + 1)) o o1 o2 o3)
      (k0 o2 o3))
noncomputable def spec_l5Space_l0_again {R : Type} (N : Nat) (ks : (j : Nat) → ((spec_l5Space_l0_ex.getD j (.ret, Sh.none)).2).T → Option R) (k : Nat) (x : spec_l5Space_l0_sh.T) : Option R :=
  spec_l5Space_l0 N (fun y0 y1 => ks 0 (((), (), ()), (((), (), ()), ((), (), ()), y0, y1, ()))) k x.1.1 x.1.2.2.2.2.2.1 x.2.1.1 x.2.1.2.1 x.2.2.2.1 x.2.2.2.2.2.1
noncomputable def spec_l5Space_l0_s (N : Nat) : LSum := ⟨spec_l5Space_l0_sh, spec_l5Space_l0_ex, fun x ks => spec_l5Space_l0_again N ks N x⟩
theorem spec_l5Space_l0_step (N : Nat) (R : Type) (k : Nat) (x : spec_l5Space_l0_sh.T) (ks : (j : Nat) → ((spec_l5Space_l0_ex.getD j (.ret, Sh.none)).2).T → Option R) : spec_l5Space_l0_again N ks (k + 1) x = roundF (spec_l5Space_G N) tab [spec_l5Space_l0_0_s N] (loopAt spec_l5Space_code 0) spec_l5Space_l0_sh spec_l5Space_l0_ex (fun y => spec_l5Space_l0_again N ks k y) ks x := by kernel_rfl
theorem spec_l5Space_l0_ok (N : Nat) : LoopOk Try.prog Try.f57.ntmps (spec_l5Space_l0_s N) (loopAt spec_l5Space_code 0) :=
  loop_ok (l := spec_l5Space_l0_s N) progOk (spec_l5Space_gok N) (draw_ok progOk (spec_l5Space_gok N)) (fun R k x ks => spec_l5Space_l0_again N ks k x) (fun _ _ _ => rfl) (fun R k x ks => spec_l5Space_l0_step N R k x ks) (fun R x ks r h => ⟨N, h⟩) (lsOk_at (L := [spec_l5Space_l0_0_s N]) ⟨spec_l5Space_l0_0_ok N, trivial⟩) (by kernel_rfl) (by kernel_rfl)
noncomputable def spec_l5Space (N : Nat) (g : (Int × (List (Int × Int)))) (kv : Int) (kempe : Bool) : Option ((((List (List Int)) × (List (Int × Int))) × Bool × Unit) × (Unit)) :=
  ((spec_l5All N (g.1, g.2) kv).bind fun r =>
    (br (!r.1.2.1)
      (some ((([], []), false, ()), ()))
      (spec_l5Space_l0 N (fun o o1 => some (((o, o1), true, ()), ())) N kempe 0 g.1 g.2 r.1.1 [])))
noncomputable def spec_l5Space_S (N : Nat) : FSum := ⟨spec_l5Space_ps, spec_l5Space_rs, fun x => spec_l5Space N x.1 x.2.1 x.2.2.1⟩
theorem spec_l5Space_run (N : Nat) (x : argsT spec_l5Space_ps) : spec_l5Space N x.1 x.2.1 x.2.2.1 = funF (spec_l5Space_G N) tab [spec_l5Space_l0_s N] Try.f57 spec_l5Space_ps spec_l5Space_rs x := by kernel_rfl
theorem spec_l5Space_pc (N : Nat) : PC Try.prog 57 (spec_l5Space_S N) := by
  have e : spec_l5Space_S N = ⟨spec_l5Space_ps, spec_l5Space_rs, funF (spec_l5Space_G N) tab [spec_l5Space_l0_s N] Try.f57 spec_l5Space_ps spec_l5Space_rs⟩ := congrArg (FSum.mk spec_l5Space_ps spec_l5Space_rs) (funext (spec_l5Space_run N))
  rw [e]
  exact fun_ok (c := spec_l5Space_code) progOk (spec_l5Space_gok N) (draw_ok progOk (spec_l5Space_gok N)) Try.call57 Try.func57 (by kernel_rfl) (lsOk_at (L := [spec_l5Space_l0_s N]) ⟨spec_l5Space_l0_ok N, trivial⟩) (by kernel_rfl) (by kernel_rfl) (by kernel_rfl) (by kernel_rfl) (by kernel_rfl)

/-! ### spec_l2Lists -/
abbrev spec_l2Lists_ps : List (PV.Mode × Ty) := [(.ro, QLLILQII)]
abbrev spec_l2Lists_rs : List (Bool × Ty) := [(true, LLI)]
noncomputable def spec_l2Lists_G (N : Nat) : GTab := gOf []
theorem spec_l2Lists_gok (N : Nat) : GOk Try.prog (spec_l2Lists_G N) := gOf_ok trivial
noncomputable def spec_l2Lists_code : Code := (Try.f98.body).getD .skip
noncomputable def spec_l2Lists_l0_sh : Sh := ⟨[(1, .one (.adr 0 0)), (3, .one (.ref 1)), (4, .one (.ro I))], [.box [.ro LLI, .ro LQII], .sl 43 LI .deep]⟩
noncomputable def spec_l2Lists_l0_ex : List (Ex × Sh) := [(.exit 0, ⟨[(1, .one (.adr 0 0)), (3, .one (.ref 1))], [.box [.ro LLI, .ro LQII], .sl 43 LI .deep]⟩)]
noncomputable def spec_l2Lists_l0 {R : Type} (N : Nat) (k0 : (List (List Int)) → (List (Int × Int)) → (List (List Int)) → Option R) : Nat → Int → (List (List Int)) → (List (Int × Int)) → (List (List Int)) → Option R
  | 0, _, _, _, _ => none
  | K + 1, x, o, o1, o2 =>
    (br (ilt x (tLen o1))
      ((chk (inb o1 x)
        (chk (inb o1 x)
        (chk (inb o2 ((rdP o1 x).2))
        (chk (room (rdL o2 ((rdP o1 x).2)) [(rdP o1 x).1])
        (chk (inb o2 ((rdP o1 x).2))
        (chk (ieq ((rdP o1 x).2) ((rdP o1 x).2))
        (spec_l2Lists_l0 N k0 K (IntKind.i64.wrap (x + 1)) o o1 (tSet o2 ((rdP o1 x).2) (tApp (rdL o2 ((rdP o1 x).2)) [(rdP o1 x).1]))))))))))
      (k0 o o1 o2))
noncomputable def spec_l2Lists_l0_again {R : Type} (N : Nat) (ks : (j : Nat) → ((spec_l2Lists_l0_ex.getD j (.ret, Sh.none)).2).T → Option R) (k : Nat) (x : spec_l2Lists_l0_sh.T) : Option R :=
  spec_l2Lists_l0 N (fun y0 y1 y2 => ks 0 (((), (), ()), ((y0, y1, ()), y2, ()))) k x.1.2.2.1 x.2.1.1 x.2.1.2.1 x.2.2.1
noncomputable def spec_l2Lists_l0_s (N : Nat) : LSum := ⟨spec_l2Lists_l0_sh, spec_l2Lists_l0_ex, fun x ks => spec_l2Lists_l0_again N ks N x⟩
theorem spec_l2Lists_l0_step (N : Nat) (R : Type) (k : Nat) (x : spec_l2Lists_l0_sh.T) (ks : (j : Nat) → ((spec_l2Lists_l0_ex.getD j (.ret, Sh.none)).2).T → Option R) : spec_l2Lists_l0_again N ks (k + 1) x = roundF (spec_l2Lists_G N) tab [] (loopAt spec_l2Lists_code 0) spec_l2Lists_l0_sh spec_l2Lists_l0_ex (fun y => spec_l2Lists_l0_again N ks k y) ks x := by kernel_rfl
theorem spec_l2Lists_l0_ok (N : Nat) : LoopOk Try.prog Try.f98.ntmps (spec_l2Lists_l0_s N) (loopAt spec_l2Lists_code 0) :=
  loop_ok (l := spec_l2Lists_l0_s N) progOk (spec_l2Lists_gok N) (draw_ok progOk (spec_l2Lists_gok N)) (fun R k x ks => spec_l2Lists_l0_again N ks k x) (fun _ _ _ => rfl) (fun R k x ks => spec_l2Lists_l0_step N R k x ks) (fun R x ks r h => ⟨N, h⟩) (lsOk_at (L := []) trivial) (by kernel_rfl) (by kernel_rfl)
noncomputable def spec_l2Lists_l1_sh : Sh := ⟨[(1, .one (.adr 0 0)), (3, .one (.ref 1)), (7, .one (.ro I))], [.box [.ro LLI, .ro LQII], .sl 43 LI .deep]⟩
noncomputable def spec_l2Lists_l1_ex : List (Ex × Sh) := [(.exit 2, ⟨[(3, .one (.ref 0))], [.sl 43 LI .deep]⟩)]
noncomputable def spec_l2Lists_l1 {R : Type} (N : Nat) (k0 : (List (List Int)) → Option R) : Nat → Int → (List (List Int)) → (List (Int × Int)) → (List (List Int)) → Option R
  | 0, _, _, _, _ => none
  | K + 1, x, o3, o4, o5 =>
    (br (ilt x (tLen o4))
      ((chk (inb o4 x)
        (chk (inb o4 x)
        (chk (inb o5 ((rdP o4 x).1))
        (chk (room (rdL o5 ((rdP o4 x).1)) [(rdP o4 x).2])
        (chk (inb o5 ((rdP o4 x).1))
        (chk (ieq ((rdP o4 x).1) ((rdP o4 x).1))
        (spec_l2Lists_l1 N k0 K (IntKind.i64.wrap (x + 1)) o3 o4 (tSet o5 ((rdP o4 x).1) (tApp (rdL o5 ((rdP o4 x).1)) [(rdP o4 x).2]))))))))))
      (k0 o5))
noncomputable def spec_l2Lists_l1_again {R : Type} (N : Nat) (ks : (j : Nat) → ((spec_l2Lists_l1_ex.getD j (.ret, Sh.none)).2).T → Option R) (k : Nat) (x : spec_l2Lists_l1_sh.T) : Option R :=
  spec_l2Lists_l1 N (fun y0 => ks 0 (((), ()), (y0, ()))) k x.1.2.2.1 x.2.1.1 x.2.1.2.1 x.2.2.1
noncomputable def spec_l2Lists_l1_s (N : Nat) : LSum := ⟨spec_l2Lists_l1_sh, spec_l2Lists_l1_ex, fun x ks => spec_l2Lists_l1_again N ks N x⟩
theorem spec_l2Lists_l1_step (N : Nat) (R : Type) (k : Nat) (x : spec_l2Lists_l1_sh.T) (ks : (j : Nat) → ((spec_l2Lists_l1_ex.getD j (.ret, Sh.none)).2).T → Option R) : spec_l2Lists_l1_again N ks (k + 1) x = roundF (spec_l2Lists_G N) tab [] (loopAt spec_l2Lists_code 1) spec_l2Lists_l1_sh spec_l2Lists_l1_ex (fun y => spec_l2Lists_l1_again N ks k y) ks x := by kernel_rfl
theorem spec_l2Lists_l1_ok (N : Nat) : LoopOk Try.prog Try.f98.ntmps (spec_l2Lists_l1_s N) (loopAt spec_l2Lists_code 1) :=
  loop_ok (l := spec_l2Lists_l1_s N) progOk (spec_l2Lists_gok N) (draw_ok progOk (spec_l2Lists_gok N)) (fun R k x ks => spec_l2Lists_l1_again N ks k x) (fun _ _ _ => rfl) (fun R k x ks => spec_l2Lists_l1_step N R k x ks) (fun R x ks r h => ⟨N, h⟩) (lsOk_at (L := []) trivial) (by kernel_rfl) (by kernel_rfl)
noncomputable def spec_l2Lists (N : Nat) (c : ((List (List Int)) × (List (Int × Int)))) : Option (((List (List Int)) × Unit) × (Unit)) :=
  (chk (ile 0 (tLen c.1) && ile (tLen c.1) (tLen c.1) && fits (tLen c.1))
    (spec_l2Lists_l0 N (fun o o1 o2 => spec_l2Lists_l1 N (fun o3 => some ((o3, ()), ())) N 0 o o1 o2) N 0 c.1 c.2 (tRep (tLen c.1) [])))
noncomputable def spec_l2Lists_S (N : Nat) : FSum := ⟨spec_l2Lists_ps, spec_l2Lists_rs, fun x => spec_l2Lists N x.1⟩
theorem spec_l2Lists_run (N : Nat) (x : argsT spec_l2Lists_ps) : spec_l2Lists N x.1 = funF (spec_l2Lists_G N) tab [spec_l2Lists_l0_s N, spec_l2Lists_l1_s N] Try.f98 spec_l2Lists_ps spec_l2Lists_rs x := by kernel_rfl
theorem spec_l2Lists_pc (N : Nat) : PC Try.prog 98 (spec_l2Lists_S N) := by
  have e : spec_l2Lists_S N = ⟨spec_l2Lists_ps, spec_l2Lists_rs, funF (spec_l2Lists_G N) tab [spec_l2Lists_l0_s N, spec_l2Lists_l1_s N] Try.f98 spec_l2Lists_ps spec_l2Lists_rs⟩ := congrArg (FSum.mk spec_l2Lists_ps spec_l2Lists_rs) (funext (spec_l2Lists_run N))
  rw [e]
  exact fun_ok (c := spec_l2Lists_code) progOk (spec_l2Lists_gok N) (draw_ok progOk (spec_l2Lists_gok N)) Try.call98 Try.func98 (by kernel_rfl) (lsOk_at (L := [spec_l2Lists_l0_s N, spec_l2Lists_l1_s N]) ⟨spec_l2Lists_l0_ok N, spec_l2Lists_l1_ok N, trivial⟩) (by kernel_rfl) (by kernel_rfl) (by kernel_rfl) (by kernel_rfl) (by kernel_rfl)

/-! ### spec_l2Spread -/
abbrev spec_l2Spread_ps : List (PV.Mode × Ty) := [(.ro, LLI), (.ro, I)]
abbrev spec_l2Spread_rs : List (Bool × Ty) := [(true, LI)]
noncomputable def spec_l2Spread_G (N : Nat) : GTab := gOf []
theorem spec_l2Spread_gok (N : Nat) : GOk Try.prog (spec_l2Spread_G N) := gOf_ok trivial
noncomputable def spec_l2Spread_code : Code := (Try.f99.body).getD .skip
noncomputable def spec_l2Spread_l0_sh : Sh := ⟨[(0, .one (.ro LLI)), (1, .one (.ro I)), (5, .one (.ref 0)), (6, .one (.ro I))], [.sl 3 I .own]⟩
noncomputable def spec_l2Spread_l0_ex : List (Ex × Sh) := [(.exit 0, ⟨[(0, .one (.ro LLI)), (1, .one (.ro I)), (5, .one (.ref 0))], [.sl 3 I .own]⟩)]
noncomputable def spec_l2Spread_l0 {R : Type} (N : Nat) (k0 : (List (List Int)) → Int → (List Int) → Option R) : Nat → (List (List Int)) → Int → Int → (List Int) → Option R
  | 0, _, _, _, _ => none
  | K + 1, x, x1, x2, o =>
    (br (ilt x2 (tLen o))
      ((chk (inb o x2)
        (spec_l2Spread_l0 N k0 K x x1 (IntKind.i64.wrap (x2 + 1)) (tSet o x2 (-1)))))
      (k0 x x1 o))
noncomputable def spec_l2Spread_l0_again {R : Type} (N : Nat) (ks : (j : Nat) → ((spec_l2Spread_l0_ex.getD j (.ret, Sh.none)).2).T → Option R) (k : Nat) (x : spec_l2Spread_l0_sh.T) : Option R :=
  spec_l2Spread_l0 N (fun y0 y1 y2 => ks 0 ((y0, y1, (), ()), (y2, ()))) k x.1.1 x.1.2.1 x.1.2.2.2.1 x.2.1
noncomputable def spec_l2Spread_l0_s (N : Nat) : LSum := ⟨spec_l2Spread_l0_sh, spec_l2Spread_l0_ex, fun x ks => spec_l2Spread_l0_again N ks N x⟩
theorem spec_l2Spread_l0_step (N : Nat) (R : Type) (k : Nat) (x : spec_l2Spread_l0_sh.T) (ks : (j : Nat) → ((spec_l2Spread_l0_ex.getD j (.ret, Sh.none)).2).T → Option R) : spec_l2Spread_l0_again N ks (k + 1) x = roundF (spec_l2Spread_G N) tab [] (loopAt spec_l2Spread_code 0) spec_l2Spread_l0_sh spec_l2Spread_l0_ex (fun y => spec_l2Spread_l0_again N ks k y) ks x := by kernel_rfl
theorem spec_l2Spread_l0_ok (N : Nat) : LoopOk Try.prog Try.f99.ntmps (spec_l2Spread_l0_s N) (loopAt spec_l2Spread_code 0) :=
  loop_ok (l := spec_l2Spread_l0_s N) progOk (spec_l2Spread_gok N) (draw_ok progOk (spec_l2Spread_gok N)) (fun R k x ks => spec_l2Spread_l0_again N ks k x) (fun _ _ _ => rfl) (fun R k x ks => spec_l2Spread_l0_step N R k x ks) (fun R x ks r h => ⟨N, h⟩) (lsOk_at (L := []) trivial) (by kernel_rfl) (by kernel_rfl)
noncomputable def spec_l2Spread_l1_0_sh : Sh := ⟨[(0, .one (.ro LLI)), (5, .one (.ref 0)), (7, .one (.ref 1)), (8, .one (.ro I)), (9, .one (.ro LI)), (10, .one (.ro I))], [.sl 3 I .own, .sl 3 I .own]⟩
noncomputable def spec_l2Spread_l1_0_ex : List (Ex × Sh) := [(.exit 4, ⟨[(0, .one (.ro LLI)), (5, .one (.ref 0)), (7, .one (.ref 1)), (8, .one (.ro I))], [.sl 3 I .own, .sl 3 I .own]⟩)]
noncomputable def spec_l2Spread_l1_0 {R : Type} (N : Nat) (k0 : (List (List Int)) → Int → (List Int) → (List Int) → Option R) : Nat → (List (List Int)) → Int → (List Int) → Int → (List Int) → (List Int) → Option R
  | 0, _, _, _, _, _, _ => none
  | K + 1, x4, x5, x6, x7, o3, o4 =>
    (br (ilt x7 (tLen x6))
      ((chk (inb x6 x7)
        (chk (inb o3 (rdI x6 x7))
        (br (ilt (rdI o3 (rdI x6 x7)) 0)
        ((chk (inb x6 x7)
          (chk (inb o4 x5)
          (chk (inb o3 (rdI o4 x5))
          (chk (inb o3 (rdI x6 x7))
          (chk (inb x6 x7)
          (chk (room o4 [(rdI x6 x7)])
          (spec_l2Spread_l1_0 N k0 K x4 x5 x6 (IntKind.i64.wrap (x7 + 1)) (tSet o3 (rdI x6 x7) (IntKind.i64.wrap ((rdI o3 (rdI o4 x5)) + 1))) (tApp o4 [(rdI x6 x7)])))))))))
        (spec_l2Spread_l1_0 N k0 K x4 x5 x6 (IntKind.i64.wrap (x7 + 1)) o3 o4)))))
      (k0 x4 x5 o3 o4))
noncomputable def spec_l2Spread_l1_0_again {R : Type} (N : Nat) (ks : (j : Nat) → ((spec_l2Spread_l1_0_ex.getD j (.ret, Sh.none)).2).T → Option R) (k : Nat) (x : spec_l2Spread_l1_0_sh.T) : Option R :=
  spec_l2Spread_l1_0 N (fun y0 y1 y2 y3 => ks 0 ((y0, (), (), y1, ()), (y2, y3, ()))) k x.1.1 x.1.2.2.2.1 x.1.2.2.2.2.1 x.1.2.2.2.2.2.1 x.2.1 x.2.2.1
noncomputable def spec_l2Spread_l1_0_s (N : Nat) : LSum := ⟨spec_l2Spread_l1_0_sh, spec_l2Spread_l1_0_ex, fun x ks => spec_l2Spread_l1_0_again N ks N x⟩
theorem spec_l2Spread_l1_0_step (N : Nat) (R : Type) (k : Nat) (x : spec_l2Spread_l1_0_sh.T) (ks : (j : Nat) → ((spec_l2Spread_l1_0_ex.getD j (.ret, Sh.none)).2).T → Option R) : spec_l2Spread_l1_0_again N ks (k + 1) x = roundF (spec_l2Spread_G N) tab [] (loopAt (loopAt spec_l2Spread_code 1) 0) spec_l2Spread_l1_0_sh spec_l2Spread_l1_0_ex (fun y => spec_l2Spread_l1_0_again N ks k y) ks x := by kernel_rfl
theorem spec_l2Spread_l1_0_ok (N : Nat) : LoopOk Try.prog Try.f99.ntmps (spec_l2Spread_l1_0_s N) (loopAt (loopAt spec_l2Spread_code 1) 0) :=
  loop_ok (l := spec_l2Spread_l1_0_s N) progOk (spec_l2Spread_gok N) (draw_ok progOk (spec_l2Spread_gok N)) (fun R k x ks => spec_l2Spread_l1_0_again N ks k x) (fun _ _ _ => rfl) (fun R k x ks => spec_l2Spread_l1_0_step N R k x ks) (fun R x ks r h => ⟨N, h⟩) (lsOk_at (L := []) trivial) (by kernel_rfl) (by kernel_rfl)
noncomputable def spec_l2Spread_l1_sh : Sh := ⟨[(0, .one (.ro LLI)), (5, .one (.ref 0)), (7, .one (.ref 1)), (8, .one (.ro I))], [.sl 3 I .own, .sl 3 I .own]⟩
noncomputable def spec_l2Spread_l1_ex : List (Ex × Sh) := [(.exit 2, ⟨[(5, .one (.ref 0))], [.sl 3 I .own]⟩)]
noncomputable def spec_l2Spread_l1 {R : Type} (N : Nat) (k0 : (List Int) → Option R) : Nat → (List (List Int)) → Int → (List Int) → (List Int) → Option R
  | 0, _, _, _, _ => none
  | K + 1, x2, x3, o1, o2 =>
    (br (ilt x3 (tLen o2))
      ((chk (inb o2 x3)
        (chk (inb x2 (rdI o2 x3))
        (spec_l2Spread_l1_0 N (fun x4 x5 o3 o4 => spec_l2Spread_l1 N k0 K x4 (IntKind.i64.wrap (x5 + 1)) o3 o4) N x2 x3 (rdL x2 (rdI o2 x3)) 0 o1 o2))))
      (k0 o1))
noncomputable def spec_l2Spread_l1_again {R : Type} (N : Nat) (ks : (j : Nat) → ((spec_l2Spread_l1_ex.getD j (.ret, Sh.none)).2).T → Option R) (k : Nat) (x : spec_l2Spread_l1_sh.T) : Option R :=
  spec_l2Spread_l1 N (fun y0 => ks 0 (((), ()), (y0, ()))) k x.1.1 x.1.2.2.2.1 x.2.1 x.2.2.1
noncomputable def spec_l2Spread_l1_s (N : Nat) : LSum := ⟨spec_l2Spread_l1_sh, spec_l2Spread_l1_ex, fun x ks => spec_l2Spread_l1_again N ks N x⟩
theorem spec_l2Spread_l1_step (N : Nat) (R : Type) (k : Nat) (x : spec_l2Spread_l1_sh.T) (ks : (j : Nat) → ((spec_l2Spread_l1_ex.getD j (.ret, Sh.none)).2).T → Option R) : spec_l2Spread_l1_again N ks (k + 1) x = roundF (spec_l2Spread_G N) tab [spec_l2Spread_l1_0_s N] (loopAt spec_l2Spread_code 1) spec_l2Spread_l1_sh spec_l2Spread_l1_ex (fun y => spec_l2Spread_l1_again N ks k y) ks x := by kernel_rfl
theorem spec_l2Spread_l1_ok (N : Nat) : LoopOk Try.prog Try.f99.ntmps (spec_l2Spread_l1_s N) (loopAt spec_l2Spread_code 1) :=
  loop_ok (l := spec_l2Spread_l1_s N) progOk (spec_l2Spread_gok N) (draw_ok progOk (spec_l2Spread_gok N)) (fun R k x ks => spec_l2Spread_l1_again N ks k x) (fun _ _ _ => rfl) (fun R k x ks => spec_l2Spread_l1_step N R k x ks) (fun R x ks r h => ⟨N, h⟩) (lsOk_at (L := [spec_l2Spread_l1_0_s N]) ⟨spec_l2Spread_l1_0_ok N, trivial⟩) (by kernel_rfl) (by kernel_rfl)
noncomputable def spec_l2Spread (N : Nat) (c : (List (List Int))) (c1 : Int) : Option (((List Int) × Unit) × (Unit)) :=
  (chk (ile 0 (tLen c) && ile (tLen c) (tLen c) && fits (tLen c))
    (spec_l2Spread_l0 N (fun x x1 o => (chk (inb o x1)
    (spec_l2Spread_l1 N (fun o1 => some ((o1, ()), ())) N x 0 (tSet o x1 0) [x1]))) N c c1 0 (tRep (tLen c) (0 : Int))))
noncomputable def spec_l2Spread_S (N : Nat) : FSum := ⟨spec_l2Spread_ps, spec_l2Spread_rs, fun x => spec_l2Spread N x.1 x.2.1⟩
theorem spec_l2Spread_run (N : Nat) (x : argsT spec_l2Spread_ps) : spec_l2Spread N x.1 x.2.1 = funF (spec_l2Spread_G N) tab [spec_l2Spread_l0_s N, spec_l2Spread_l1_s N] Try.f99 spec_l2Spread_ps spec_l2Spread_rs x := by kernel_rfl
theorem spec_l2Spread_pc (N : Nat) : PC Try.prog 99 (spec_l2Spread_S N) := by
  have e : spec_l2Spread_S N = ⟨spec_l2Spread_ps, spec_l2Spread_rs, funF (spec_l2Spread_G N) tab [spec_l2Spread_l0_s N, spec_l2Spread_l1_s N] Try.f99 spec_l2Spread_ps spec_l2Spread_rs⟩ := congrArg (FSum.mk spec_l2Spread_ps spec_l2Spread_rs) (funext (spec_l2Spread_run N))
  rw [e]
  exact fun_ok (c := spec_l2Spread_code) progOk (spec_l2Spread_gok N) (draw_ok progOk (spec_l2Spread_gok N)) Try.call99 Try.func99 (by kernel_rfl) (lsOk_at (L := [spec_l2Spread_l0_s N, spec_l2Spread_l1_s N]) ⟨spec_l2Spread_l0_ok N, spec_l2Spread_l1_ok N, trivial⟩) (by kernel_rfl) (by kernel_rfl) (by kernel_rfl) (by kernel_rfl) (by kernel_rfl)
end Go.Proofs.Ytgelipdkheahdaa
