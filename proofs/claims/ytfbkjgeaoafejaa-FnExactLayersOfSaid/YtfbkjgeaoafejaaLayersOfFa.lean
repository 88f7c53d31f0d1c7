/- Functions of the program as functions on data. -/
import Derived.Test.YtfbkjgeaoafejaaLayersOfTa
set_option linter.all false
namespace Go.Proofs.Ytfbkjgeaoafejaa
open Go Go.PV
/-! ### laws_szIntA2S -/
abbrev laws_szIntA2S_ps : List (PV.Mode × Ty) := [(.ro, LQII), (.ro, I)]
abbrev laws_szIntA2S_rs : List (Bool × Ty) := [(true, I)]
noncomputable def laws_szIntA2S_G (N : Nat) : GTab := gOf []
theorem laws_szIntA2S_gok (N : Nat) : GOk Try.prog (laws_szIntA2S_G N) := gOf_ok trivial
noncomputable def laws_szIntA2S_code : Code := (Try.f71.body).getD .skip
noncomputable def laws_szIntA2S (N : Nat) (a : (List (Int × Int))) (left : Int) : Option ((Int × Unit) × (Unit)) :=
  (br (ilt (IntKind.i64.wrap (left - (tLen a))) 0)
    (some (((-1), ()), ()))
    (some (((IntKind.i64.wrap (left - (tLen a))), ()), ())))
noncomputable def laws_szIntA2S_S (N : Nat) : FSum := ⟨laws_szIntA2S_ps, laws_szIntA2S_rs, fun x => laws_szIntA2S N x.1 x.2.1⟩
theorem laws_szIntA2S_run (N : Nat) (x : argsT laws_szIntA2S_ps) : laws_szIntA2S N x.1 x.2.1 = funF (laws_szIntA2S_G N) tab [] Try.f71 laws_szIntA2S_ps laws_szIntA2S_rs x := by kernel_rfl
theorem laws_szIntA2S_pc (N : Nat) : PC Try.prog 71 (laws_szIntA2S_S N) := by
  have e : laws_szIntA2S_S N = ⟨laws_szIntA2S_ps, laws_szIntA2S_rs, funF (laws_szIntA2S_G N) tab [] Try.f71 laws_szIntA2S_ps laws_szIntA2S_rs⟩ := congrArg (FSum.mk laws_szIntA2S_ps laws_szIntA2S_rs) (funext (laws_szIntA2S_run N))
  rw [e]
  exact fun_ok (c := laws_szIntA2S_code) progOk (laws_szIntA2S_gok N) (draw_ok progOk (laws_szIntA2S_gok N)) Try.call71 Try.func71 (by kernel_rfl) (lsOk_at (L := []) trivial) (by kernel_rfl) (by kernel_rfl) (by kernel_rfl) (by kernel_rfl) (by kernel_rfl)

/-! ### laws_szGraph -/
abbrev laws_szGraph_ps : List (PV.Mode × Ty) := [(.ro, QILQII), (.ro, I)]
abbrev laws_szGraph_rs : List (Bool × Ty) := [(true, I)]
noncomputable def laws_szGraph_G (N : Nat) : GTab := gOf [(71, laws_szIntA2S_S N)]
theorem laws_szGraph_gok (N : Nat) : GOk Try.prog (laws_szGraph_G N) := gOf_ok ⟨laws_szIntA2S_pc N, trivial⟩
noncomputable def laws_szGraph_code : Code := (Try.f15.body).getD .skip
noncomputable def laws_szGraph (N : Nat) (a : (Int × (List (Int × Int)))) (left : Int) : Option ((Int × Unit) × (Unit)) :=
  ((laws_szIntA2S N a.2 left).bind fun r =>
    (br (ilt r.1.1 0)
      (some (((-1), ()), ()))
      (some ((r.1.1, ()), ()))))
noncomputable def laws_szGraph_S (N : Nat) : FSum := ⟨laws_szGraph_ps, laws_szGraph_rs, fun x => laws_szGraph N x.1 x.2.1⟩
theorem laws_szGraph_run (N : Nat) (x : argsT laws_szGraph_ps) : laws_szGraph N x.1 x.2.1 = funF (laws_szGraph_G N) tab [] Try.f15 laws_szGraph_ps laws_szGraph_rs x := by kernel_rfl
theorem laws_szGraph_pc (N : Nat) : PC Try.prog 15 (laws_szGraph_S N) := by
  have e : laws_szGraph_S N = ⟨laws_szGraph_ps, laws_szGraph_rs, funF (laws_szGraph_G N) tab [] Try.f15 laws_szGraph_ps laws_szGraph_rs⟩ := congrArg (FSum.mk laws_szGraph_ps laws_szGraph_rs) (funext (laws_szGraph_run N))
  rw [e]
  exact fun_ok (c := laws_szGraph_code) progOk (laws_szGraph_gok N) (draw_ok progOk (laws_szGraph_gok N)) Try.call15 Try.func15 (by kernel_rfl) (lsOk_at (L := []) trivial) (by kernel_rfl) (by kernel_rfl) (by kernel_rfl) (by kernel_rfl) (by kernel_rfl)

/-! ### laws_toIntA2 -/
abbrev laws_toIntA2_ps : List (PV.Mode × Ty) := [(.ro, QII)]
abbrev laws_toIntA2_rs : List (Bool × Ty) := [(true, QII)]
noncomputable def laws_toIntA2_G (N : Nat) : GTab := gOf []
theorem laws_toIntA2_gok (N : Nat) : GOk Try.prog (laws_toIntA2_G N) := gOf_ok trivial
noncomputable def laws_toIntA2_code : Code := (Try.f140.body).getD .skip
noncomputable def laws_toIntA2_l0_sh : Sh := ⟨[(1, .one (.adr 0 0)), (2, .one (.adr 1 0)), (3, .one (.adr 2 0)), (4, .one (.num .i64 0))], [.box [.ro I, .ro I], .box [.ro I, .ro I], .box [.ro I, .ro I]]⟩
noncomputable def laws_toIntA2_l0_ex : List (Ex × Sh) := [(.exit 0, ⟨[(2, .one (.adr 0 0)), (3, .one (.adr 1 0))], [.box [.ro I, .ro I], .box [.ro I, .ro I]]⟩)]
noncomputable def laws_toIntA2_l0 {R : Type} (N : Nat) (k0 : Int → Int → Int → Int → Option R) (_ : Nat) (o6 : Int) (o7 : Int) (o8 : Int) (o9 : Int) (o10 : Int) (o11 : Int) : Option R :=
  k0 o8 o9 o6 o7
noncomputable def laws_toIntA2_l0_again {R : Type} (N : Nat) (ks : (j : Nat) → ((laws_toIntA2_l0_ex.getD j (.ret, Sh.none)).2).T → Option R) (x : laws_toIntA2_l0_sh.T) : Option R :=
  laws_toIntA2_l0 N (fun y0 y1 y2 y3 => ks 0 (((), (), ()), ((y0, y1, ()), (y2, y3, ()), ()))) N x.2.1.1 x.2.1.2.1 x.2.2.1.1 x.2.2.1.2.1 x.2.2.2.1.1 x.2.2.2.1.2.1
noncomputable def laws_toIntA2_l0_s (N : Nat) : LSum := ⟨laws_toIntA2_l0_sh, laws_toIntA2_l0_ex, fun x ks => laws_toIntA2_l0_again N ks x⟩
theorem laws_toIntA2_l0_unr (N : Nat) (R : Type) (x : laws_toIntA2_l0_sh.T) (ks : (j : Nat) → ((laws_toIntA2_l0_ex.getD j (.ret, Sh.none)).2).T → Option R) : laws_toIntA2_l0_again N ks x = unrF (laws_toIntA2_G N) tab (loopAt laws_toIntA2_code 0) laws_toIntA2_l0_ex ks 3 (fill laws_toIntA2_l0_sh x) := by kernel_rfl
theorem laws_toIntA2_l0_ok (N : Nat) : LoopOk Try.prog Try.f140.ntmps (laws_toIntA2_l0_s N) (loopAt laws_toIntA2_code 0) :=
  unroll_ok (l := laws_toIntA2_l0_s N) progOk (laws_toIntA2_gok N) (draw_ok progOk (laws_toIntA2_gok N)) (fun R x ks r h => ⟨3, (laws_toIntA2_l0_unr N R x ks).symm.trans h⟩) (by kernel_rfl) (by kernel_rfl)
noncomputable def laws_toIntA2 (N : Nat) (a : (Int × Int)) : Option (((Int × Int) × Unit) × (Unit)) :=
  laws_toIntA2_l0 N (fun o6 o7 o8 o9 => some (((o8, o9), ()), ())) N a.1 a.2 0 0 0 0
noncomputable def laws_toIntA2_S (N : Nat) : FSum := ⟨laws_toIntA2_ps, laws_toIntA2_rs, fun x => laws_toIntA2 N x.1⟩
theorem laws_toIntA2_run (N : Nat) (x : argsT laws_toIntA2_ps) : laws_toIntA2 N x.1 = funF (laws_toIntA2_G N) tab [laws_toIntA2_l0_s N] Try.f140 laws_toIntA2_ps laws_toIntA2_rs x := by kernel_rfl
theorem laws_toIntA2_pc (N : Nat) : PC Try.prog 140 (laws_toIntA2_S N) := by
  have e : laws_toIntA2_S N = ⟨laws_toIntA2_ps, laws_toIntA2_rs, funF (laws_toIntA2_G N) tab [laws_toIntA2_l0_s N] Try.f140 laws_toIntA2_ps laws_toIntA2_rs⟩ := congrArg (FSum.mk laws_toIntA2_ps laws_toIntA2_rs) (funext (laws_toIntA2_run N))
  rw [e]
  exact fun_ok (c := laws_toIntA2_code) progOk (laws_toIntA2_gok N) (draw_ok progOk (laws_toIntA2_gok N)) Try.call140 Try.func140 (by kernel_rfl) (lsOk_at (L := [laws_toIntA2_l0_s N]) ⟨laws_toIntA2_l0_ok N, trivial⟩) (by kernel_rfl) (by kernel_rfl) (by kernel_rfl) (by kernel_rfl) (by kernel_rfl)

/-! ### laws_toIntA2S -/
abbrev laws_toIntA2S_ps : List (PV.Mode × Ty) := [(.ro, LQII)]
abbrev laws_toIntA2S_rs : List (Bool × Ty) := [(true, LQII)]
noncomputable def laws_toIntA2S_G (N : Nat) : GTab := gOf [(140, laws_toIntA2_S N)]
theorem laws_toIntA2S_gok (N : Nat) : GOk Try.prog (laws_toIntA2S_G N) := gOf_ok ⟨laws_toIntA2_pc N, trivial⟩
noncomputable def laws_toIntA2S_code : Code := (Try.f73.body).getD .skip
noncomputable def laws_toIntA2S_l0_sh : Sh := ⟨[(0, .one (.ro LQII)), (3, .one (.ref 0)), (4, .one (.ro I))], [.sl 137 QII .own]⟩
noncomputable def laws_toIntA2S_l0_ex : List (Ex × Sh) := [(.exit 0, ⟨[(3, .one (.ref 0))], [.sl 137 QII .own]⟩)]
noncomputable def laws_toIntA2S_l0 {R : Type} (N : Nat) (k0 : (List (Int × Int)) → Option R) : Nat → (List (Int × Int)) → Int → (List (Int × Int)) → Option R
  | 0, _, _, _ => none
  | K + 1, a1, i, o =>
    (br (ilt i (tLen a1))
      ((chk (inb a1 i)
        ((laws_toIntA2 N (rdP a1 i)).bind fun r =>
        (chk (inb o i)
          (laws_toIntA2S_l0 N k0 K a1 (IntKind.i64.wrap (i + 1)) (tSet o i (r.1.1.1, r.1.1.2)))))))
      (k0 o))
noncomputable def laws_toIntA2S_l0_again {R : Type} (N : Nat) (ks : (j : Nat) → ((laws_toIntA2S_l0_ex.getD j (.ret, Sh.none)).2).T → Option R) (k : Nat) (x : laws_toIntA2S_l0_sh.T) : Option R :=
  laws_toIntA2S_l0 N (fun y0 => ks 0 (((), ()), (y0, ()))) k x.1.1 x.1.2.2.1 x.2.1
noncomputable def laws_toIntA2S_l0_s (N : Nat) : LSum := ⟨laws_toIntA2S_l0_sh, laws_toIntA2S_l0_ex, fun x ks => laws_toIntA2S_l0_again N ks N x⟩
theorem laws_toIntA2S_l0_step (N : Nat) (R : Type) (k : Nat) (x : laws_toIntA2S_l0_sh.T) (ks : (j : Nat) → ((laws_toIntA2S_l0_ex.getD j (.ret, Sh.none)).2).T → Option R) : laws_toIntA2S_l0_again N ks (k + 1) x = roundF (laws_toIntA2S_G N) tab [] (loopAt laws_toIntA2S_code 0) laws_toIntA2S_l0_sh laws_toIntA2S_l0_ex (fun y => laws_toIntA2S_l0_again N ks k y) ks x := by kernel_rfl
theorem laws_toIntA2S_l0_ok (N : Nat) : LoopOk Try.prog Try.f73.ntmps (laws_toIntA2S_l0_s N) (loopAt laws_toIntA2S_code 0) :=
  loop_ok (l := laws_toIntA2S_l0_s N) progOk (laws_toIntA2S_gok N) (draw_ok progOk (laws_toIntA2S_gok N)) (fun R k x ks => laws_toIntA2S_l0_again N ks k x) (fun _ _ _ => rfl) (fun R k x ks => laws_toIntA2S_l0_step N R k x ks) (fun R x ks r h => ⟨N, h⟩) (lsOk_at (L := []) trivial) (by kernel_rfl) (by kernel_rfl)
noncomputable def laws_toIntA2S (N : Nat) (a : (List (Int × Int))) : Option (((List (Int × Int)) × Unit) × (Unit)) :=
  (chk (ile 0 (tLen a) && ile (tLen a) (tLen a) && fits (tLen a))
    (laws_toIntA2S_l0 N (fun o => some ((o, ()), ())) N a 0 (tRep (tLen a) (0, 0))))
noncomputable def laws_toIntA2S_S (N : Nat) : FSum := ⟨laws_toIntA2S_ps, laws_toIntA2S_rs, fun x => laws_toIntA2S N x.1⟩
theorem laws_toIntA2S_run (N : Nat) (x : argsT laws_toIntA2S_ps) : laws_toIntA2S N x.1 = funF (laws_toIntA2S_G N) tab [laws_toIntA2S_l0_s N] Try.f73 laws_toIntA2S_ps laws_toIntA2S_rs x := by kernel_rfl
theorem laws_toIntA2S_pc (N : Nat) : PC Try.prog 73 (laws_toIntA2S_S N) := by
  have e : laws_toIntA2S_S N = ⟨laws_toIntA2S_ps, laws_toIntA2S_rs, funF (laws_toIntA2S_G N) tab [laws_toIntA2S_l0_s N] Try.f73 laws_toIntA2S_ps laws_toIntA2S_rs⟩ := congrArg (FSum.mk laws_toIntA2S_ps laws_toIntA2S_rs) (funext (laws_toIntA2S_run N))
  rw [e]
  exact fun_ok (c := laws_toIntA2S_code) progOk (laws_toIntA2S_gok N) (draw_ok progOk (laws_toIntA2S_gok N)) Try.call73 Try.func73 (by kernel_rfl) (lsOk_at (L := [laws_toIntA2S_l0_s N]) ⟨laws_toIntA2S_l0_ok N, trivial⟩) (by kernel_rfl) (by kernel_rfl) (by kernel_rfl) (by kernel_rfl) (by kernel_rfl)

/-! ### laws_toGraph -/
abbrev laws_toGraph_ps : List (PV.Mode × Ty) := [(.ro, QILQII)]
abbrev laws_toGraph_rs : List (Bool × Ty) := [(true, QILQII)]
noncomputable def laws_toGraph_G (N : Nat) : GTab := gOf [(73, laws_toIntA2S_S N)]
theorem laws_toGraph_gok (N : Nat) : GOk Try.prog (laws_toGraph_G N) := gOf_ok ⟨laws_toIntA2S_pc N, trivial⟩
noncomputable def laws_toGraph_code : Code := (Try.f17.body).getD .skip
noncomputable def laws_toGraph (N : Nat) (a : (Int × (List (Int × Int)))) : Option (((Int × (List (Int × Int))) × Unit) × (Unit)) :=
  ((laws_toIntA2S N a.2).bind fun r =>
    some (((a.1, r.1.1), ()), ()))
noncomputable def laws_toGraph_S (N : Nat) : FSum := ⟨laws_toGraph_ps, laws_toGraph_rs, fun x => laws_toGraph N x.1⟩
theorem laws_toGraph_run (N : Nat) (x : argsT laws_toGraph_ps) : laws_toGraph N x.1 = funF (laws_toGraph_G N) tab [] Try.f17 laws_toGraph_ps laws_toGraph_rs x := by kernel_rfl
theorem laws_toGraph_pc (N : Nat) : PC Try.prog 17 (laws_toGraph_S N) := by
  have e : laws_toGraph_S N = ⟨laws_toGraph_ps, laws_toGraph_rs, funF (laws_toGraph_G N) tab [] Try.f17 laws_toGraph_ps laws_toGraph_rs⟩ := congrArg (FSum.mk laws_toGraph_ps laws_toGraph_rs) (funext (laws_toGraph_run N))
  rw [e]
  exact fun_ok (c := laws_toGraph_code) progOk (laws_toGraph_gok N) (draw_ok progOk (laws_toGraph_gok N)) Try.call17 Try.func17 (by kernel_rfl) (lsOk_at (L := []) trivial) (by kernel_rfl) (by kernel_rfl) (by kernel_rfl) (by kernel_rfl) (by kernel_rfl)

/-! ### spec_l1In -/
abbrev spec_l1In_ps : List (PV.Mode × Ty) := [(.ro, I), (.ro, I), (.ro, I)]
abbrev spec_l1In_rs : List (Bool × Ty) := [(true, .bool)]
noncomputable def spec_l1In_G (N : Nat) : GTab := gOf []
theorem spec_l1In_gok (N : Nat) : GOk Try.prog (spec_l1In_G N) := gOf_ok trivial
noncomputable def spec_l1In_code : Code := (Try.f145.body).getD .skip
noncomputable def spec_l1In (N : Nat) (x : Int) (a : Int) (b : Int) : Option ((Bool × Unit) × (Unit)) :=
  (br (ile a x)
    (some (((ile x b), ()), ()))
    (some ((false, ()), ())))
noncomputable def spec_l1In_S (N : Nat) : FSum := ⟨spec_l1In_ps, spec_l1In_rs, fun x => spec_l1In N x.1 x.2.1 x.2.2.1⟩
theorem spec_l1In_run (N : Nat) (x : argsT spec_l1In_ps) : spec_l1In N x.1 x.2.1 x.2.2.1 = funF (spec_l1In_G N) tab [] Try.f145 spec_l1In_ps spec_l1In_rs x := by kernel_rfl
theorem spec_l1In_pc (N : Nat) : PC Try.prog 145 (spec_l1In_S N) := by
  have e : spec_l1In_S N = ⟨spec_l1In_ps, spec_l1In_rs, funF (spec_l1In_G N) tab [] Try.f145 spec_l1In_ps spec_l1In_rs⟩ := congrArg (FSum.mk spec_l1In_ps spec_l1In_rs) (funext (spec_l1In_run N))
  rw [e]
  exact fun_ok (c := spec_l1In_code) progOk (spec_l1In_gok N) (draw_ok progOk (spec_l1In_gok N)) Try.call145 Try.func145 (by kernel_rfl) (lsOk_at (L := []) trivial) (by kernel_rfl) (by kernel_rfl) (by kernel_rfl) (by kernel_rfl) (by kernel_rfl)

/-! ### spec_l2Edge -/
abbrev spec_l2Edge_ps : List (PV.Mode × Ty) := [(.ro, QII), (.ro, QII)]
abbrev spec_l2Edge_rs : List (Bool × Ty) := [(true, .bool)]
noncomputable def spec_l2Edge_G (N : Nat) : GTab := gOf []
theorem spec_l2Edge_gok (N : Nat) : GOk Try.prog (spec_l2Edge_G N) := gOf_ok trivial
noncomputable def spec_l2Edge_code : Code := (Try.f210.body).getD .skip
noncomputable def spec_l2Edge (N : Nat) (a : (Int × Int)) (b : (Int × Int)) : Option ((Bool × Unit) × (Unit)) :=
  (br (ilt a.1 b.1)
    (some ((true, ()), ()))
    ((br (ieq a.1 b.1)
      (some (((ilt a.2 b.2), ()), ()))
      (some ((false, ()), ())))))
noncomputable def spec_l2Edge_S (N : Nat) : FSum := ⟨spec_l2Edge_ps, spec_l2Edge_rs, fun x => spec_l2Edge N x.1 x.2.1⟩
theorem spec_l2Edge_run (N : Nat) (x : argsT spec_l2Edge_ps) : spec_l2Edge N x.1 x.2.1 = funF (spec_l2Edge_G N) tab [] Try.f210 spec_l2Edge_ps spec_l2Edge_rs x := by kernel_rfl
theorem spec_l2Edge_pc (N : Nat) : PC Try.prog 210 (spec_l2Edge_S N) := by
  have e : spec_l2Edge_S N = ⟨spec_l2Edge_ps, spec_l2Edge_rs, funF (spec_l2Edge_G N) tab [] Try.f210 spec_l2Edge_ps spec_l2Edge_rs⟩ := congrArg (FSum.mk spec_l2Edge_ps spec_l2Edge_rs) (funext (spec_l2Edge_run N))
  rw [e]
  exact fun_ok (c := spec_l2Edge_code) progOk (spec_l2Edge_gok N) (draw_ok progOk (spec_l2Edge_gok N)) Try.call210 Try.func210 (by kernel_rfl) (lsOk_at (L := []) trivial) (by kernel_rfl) (by kernel_rfl) (by kernel_rfl) (by kernel_rfl) (by kernel_rfl)

/-! ### spec_l2Pairs -/
abbrev spec_l2Pairs_ps : List (PV.Mode × Ty) := [(.ro, LQII), (.ro, I)]
abbrev spec_l2Pairs_rs : List (Bool × Ty) := [(true, .bool)]
noncomputable def spec_l2Pairs_G (N : Nat) : GTab := gOf [(145, spec_l1In_S N), (210, spec_l2Edge_S N)]
theorem spec_l2Pairs_gok (N : Nat) : GOk Try.prog (spec_l2Pairs_G N) := gOf_ok ⟨spec_l1In_pc N, spec_l2Edge_pc N, trivial⟩
noncomputable def spec_l2Pairs_code : Code := (Try.f163.body).getD .skip
noncomputable def spec_l2Pairs_l0_sh : Sh := ⟨[(0, .one (.ro LQII)), (1, .one (.ro I)), (5, .one (.ro I))], []⟩
noncomputable def spec_l2Pairs_l0_ex : List (Ex × Sh) := [(.ret, ⟨[(4, .one (.ro .bool))], []⟩), (.exit 0, ⟨[], []⟩)]
noncomputable def spec_l2Pairs_l0 {R : Type} (N : Nat) (k0 : Bool → Option R) (k1 : Unit → Option R) : Nat → (List (Int × Int)) → Int → Int → Option R
  | 0, _, _, _ => none
  | K + 1, pairs1, n1, i =>
    (br (ilt i (tLen pairs1))
      ((chk (inb pairs1 i)
        ((spec_l1In N ((rdP pairs1 i).1) 0 (IntKind.i64.wrap (n1 - 1))).bind fun r =>
        (br (!r.1.1)
          (k0 false)
          (((spec_l1In N ((rdP pairs1 i).2) 0 (IntKind.i64.wrap (n1 - 1))).bind fun r1 =>
            (br (!r1.1.1)
              (k0 false)
              ((br (ile ((rdP pairs1 i).2) ((rdP pairs1 i).1))
                (k0 false)
                ((br (ilt 0 i)
                  ((chk (inb pairs1 (IntKind.i64.wrap (i - 1)))
                    ((spec_l2Edge N (rdP pairs1 (IntKind.i64.wrap (i - 1))) ((rdP pairs1 i).1, (rdP pairs1 i).2)).bind fun r2 =>
                    (br (!r2.1.1)
                      (k0 false)
                      (spec_l2Pairs_l0 N k0 k1 K pairs1 n1 (IntKind.i64.wrap (i + 1)))))))
                  (spec_l2Pairs_l0 N k0 k1 K pairs1 n1 (IntKind.i64.wrap (i + 1))))))))))))))
      (k1 ()))
noncomputable def spec_l2Pairs_l0_again {R : Type} (N : Nat) (ks : (j : Nat) → ((spec_l2Pairs_l0_ex.getD j (.ret, Sh.none)).2).T → Option R) (k : Nat) (x : spec_l2Pairs_l0_sh.T) : Option R :=
  spec_l2Pairs_l0 N (fun y0 => ks 0 ((y0, ()), ())) (fun (_ : Unit) => ks 1 ((), ())) k x.1.1 x.1.2.1 x.1.2.2.1
noncomputable def spec_l2Pairs_l0_s (N : Nat) : LSum := ⟨spec_l2Pairs_l0_sh, spec_l2Pairs_l0_ex, fun x ks => spec_l2Pairs_l0_again N ks N x⟩
theorem spec_l2Pairs_l0_step (N : Nat) (R : Type) (k : Nat) (x : spec_l2Pairs_l0_sh.T) (ks : (j : Nat) → ((spec_l2Pairs_l0_ex.getD j (.ret, Sh.none)).2).T → Option R) : spec_l2Pairs_l0_again N ks (k + 1) x = roundF (spec_l2Pairs_G N) tab [] (loopAt spec_l2Pairs_code 0) spec_l2Pairs_l0_sh spec_l2Pairs_l0_ex (fun y => spec_l2Pairs_l0_again N ks k y) ks x := by kernel_rfl
theorem spec_l2Pairs_l0_ok (N : Nat) : LoopOk Try.prog Try.f163.ntmps (spec_l2Pairs_l0_s N) (loopAt spec_l2Pairs_code 0) :=
  loop_ok (l := spec_l2Pairs_l0_s N) progOk (spec_l2Pairs_gok N) (draw_ok progOk (spec_l2Pairs_gok N)) (fun R k x ks => spec_l2Pairs_l0_again N ks k x) (fun _ _ _ => rfl) (fun R k x ks => spec_l2Pairs_l0_step N R k x ks) (fun R x ks r h => ⟨N, h⟩) (lsOk_at (L := []) trivial) (by kernel_rfl) (by kernel_rfl)
noncomputable def spec_l2Pairs (N : Nat) (pairs : (List (Int × Int))) (n : Int) : Option ((Bool × Unit) × (Unit)) :=
  spec_l2Pairs_l0 N (fun x => some ((x, ()), ())) (fun (_ : Unit) => some ((true, ()), ())) N pairs n 0
noncomputable def spec_l2Pairs_S (N : Nat) : FSum := ⟨spec_l2Pairs_ps, spec_l2Pairs_rs, fun x => spec_l2Pairs N x.1 x.2.1⟩
theorem spec_l2Pairs_run (N : Nat) (x : argsT spec_l2Pairs_ps) : spec_l2Pairs N x.1 x.2.1 = funF (spec_l2Pairs_G N) tab [spec_l2Pairs_l0_s N] Try.f163 spec_l2Pairs_ps spec_l2Pairs_rs x := by kernel_rfl
theorem spec_l2Pairs_pc (N : Nat) : PC Try.prog 163 (spec_l2Pairs_S N) := by
  have e : spec_l2Pairs_S N = ⟨spec_l2Pairs_ps, spec_l2Pairs_rs, funF (spec_l2Pairs_G N) tab [spec_l2Pairs_l0_s N] Try.f163 spec_l2Pairs_ps spec_l2Pairs_rs⟩ := congrArg (FSum.mk spec_l2Pairs_ps spec_l2Pairs_rs) (funext (spec_l2Pairs_run N))
  rw [e]
  exact fun_ok (c := spec_l2Pairs_code) progOk (spec_l2Pairs_gok N) (draw_ok progOk (spec_l2Pairs_gok N)) Try.call163 Try.func163 (by kernel_rfl) (lsOk_at (L := [spec_l2Pairs_l0_s N]) ⟨spec_l2Pairs_l0_ok N, trivial⟩) (by kernel_rfl) (by kernel_rfl) (by kernel_rfl) (by kernel_rfl) (by kernel_rfl)

/-! ### spec_l2Good -/
abbrev spec_l2Good_ps : List (PV.Mode × Ty) := [(.ro, QILQII)]
abbrev spec_l2Good_rs : List (Bool × Ty) := [(true, .bool)]
noncomputable def spec_l2Good_G (N : Nat) : GTab := gOf [(145, spec_l1In_S N), (163, spec_l2Pairs_S N)]
theorem spec_l2Good_gok (N : Nat) : GOk Try.prog (spec_l2Good_G N) := gOf_ok ⟨spec_l1In_pc N, spec_l2Pairs_pc N, trivial⟩
noncomputable def spec_l2Good_code : Code := (Try.f95.body).getD .skip
noncomputable def spec_l2Good (N : Nat) (g : (Int × (List (Int × Int)))) : Option ((Bool × Unit) × (Unit)) :=
  ((spec_l1In N g.1 0 8).bind fun r =>
    (br r.1.1
      (((spec_l2Pairs N g.2 g.1).bind fun r1 =>
        some ((r1.1.1, ()), ())))
      (some ((false, ()), ()))))
noncomputable def spec_l2Good_S (N : Nat) : FSum := ⟨spec_l2Good_ps, spec_l2Good_rs, fun x => spec_l2Good N x.1⟩
theorem spec_l2Good_run (N : Nat) (x : argsT spec_l2Good_ps) : spec_l2Good N x.1 = funF (spec_l2Good_G N) tab [] Try.f95 spec_l2Good_ps spec_l2Good_rs x := by kernel_rfl
theorem spec_l2Good_pc (N : Nat) : PC Try.prog 95 (spec_l2Good_S N) := by
  have e : spec_l2Good_S N = ⟨spec_l2Good_ps, spec_l2Good_rs, funF (spec_l2Good_G N) tab [] Try.f95 spec_l2Good_ps spec_l2Good_rs⟩ := congrArg (FSum.mk spec_l2Good_ps spec_l2Good_rs) (funext (spec_l2Good_run N))
  rw [e]
  exact fun_ok (c := spec_l2Good_code) progOk (spec_l2Good_gok N) (draw_ok progOk (spec_l2Good_gok N)) Try.call95 Try.func95 (by kernel_rfl) (lsOk_at (L := []) trivial) (by kernel_rfl) (by kernel_rfl) (by kernel_rfl) (by kernel_rfl) (by kernel_rfl)

/-! ### spec_l7Ends -/
abbrev spec_l7Ends_ps : List (PV.Mode × Ty) := [(.ro, QILQII), (.ro, I), (.ro, I)]
abbrev spec_l7Ends_rs : List (Bool × Ty) := [(true, .bool)]
noncomputable def spec_l7Ends_G (N : Nat) : GTab := gOf [(95, spec_l2Good_S N), (145, spec_l1In_S N)]
theorem spec_l7Ends_gok (N : Nat) : GOk Try.prog (spec_l7Ends_G N) := gOf_ok ⟨spec_l2Good_pc N, spec_l1In_pc N, trivial⟩
noncomputable def spec_l7Ends_code : Code := (Try.f78.body).getD .skip
noncomputable def spec_l7Ends (N : Nat) (g : (Int × (List (Int × Int)))) (s : Int) (t : Int) : Option ((Bool × Unit) × (Unit)) :=
  ((spec_l2Good N (g.1, g.2)).bind fun r =>
    (br r.1.1
      (((spec_l1In N s 0 (IntKind.i64.wrap (g.1 - 1))).bind fun r1 =>
        (br r1.1.1
          (((spec_l1In N t 0 (IntKind.i64.wrap (g.1 - 1))).bind fun r2 =>
            some ((r2.1.1, ()), ())))
          (some ((false, ()), ())))))
      (some ((false, ()), ()))))
noncomputable def spec_l7Ends_S (N : Nat) : FSum := ⟨spec_l7Ends_ps, spec_l7Ends_rs, fun x => spec_l7Ends N x.1 x.2.1 x.2.2.1⟩
theorem spec_l7Ends_run (N : Nat) (x : argsT spec_l7Ends_ps) : spec_l7Ends N x.1 x.2.1 x.2.2.1 = funF (spec_l7Ends_G N) tab [] Try.f78 spec_l7Ends_ps spec_l7Ends_rs x := by kernel_rfl
theorem spec_l7Ends_pc (N : Nat) : PC Try.prog 78 (spec_l7Ends_S N) := by
  have e : spec_l7Ends_S N = ⟨spec_l7Ends_ps, spec_l7Ends_rs, funF (spec_l7Ends_G N) tab [] Try.f78 spec_l7Ends_ps spec_l7Ends_rs⟩ := congrArg (FSum.mk spec_l7Ends_ps spec_l7Ends_rs) (funext (spec_l7Ends_run N))
  rw [e]
  exact fun_ok (c := spec_l7Ends_code) progOk (spec_l7Ends_gok N) (draw_ok progOk (spec_l7Ends_gok N)) Try.call78 Try.func78 (by kernel_rfl) (lsOk_at (L := []) trivial) (by kernel_rfl) (by kernel_rfl) (by kernel_rfl) (by kernel_rfl) (by kernel_rfl)

/-! ### spec_l2Near -/
abbrev spec_l2Near_ps : List (PV.Mode × Ty) := [(.ro, QILQII), (.ro, I), (.ro, I)]
abbrev spec_l2Near_rs : List (Bool × Ty) := [(true, .bool)]
noncomputable def spec_l2Near_G (N : Nat) : GTab := gOf []
theorem spec_l2Near_gok (N : Nat) : GOk Try.prog (spec_l2Near_G N) := gOf_ok trivial
noncomputable def spec_l2Near_code : Code := (Try.f97.body).getD .skip
noncomputable def spec_l2Near_l0_sh : Sh := ⟨[(1, .one (.ro I)), (2, .one (.ro I)), (3, .one (.adr 0 0)), (7, .one (.ro I))], [.box [.ro I, .ro LQII]]⟩
noncomputable def spec_l2Near_l0_ex : List (Ex × Sh) := [(.ret, ⟨[(6, .one (.ro .bool))], []⟩), (.exit 0, ⟨[], []⟩)]
noncomputable def spec_l2Near_l0 {R : Type} (N : Nat) (k0 : Bool → Option R) (k1 : Unit → Option R) : Nat → Int → Int → Int → Int → (List (Int × Int)) → Option R
  | 0, _, _, _, _, _ => none
  | K + 1, a1, b1, i, o, o1 =>
    (br (ilt i (tLen o1))
      ((chk (inb o1 i)
        (br (ieq ((rdP o1 i).1) a1)
        ((br (ieq ((rdP o1 i).2) b1)
          (k0 true)
          ((br (ieq ((rdP o1 i).1) b1)
            ((br (ieq ((rdP o1 i).2) a1)
              (k0 true)
              (spec_l2Near_l0 N k0 k1 K a1 b1 (IntKind.i64.wrap (i + 1)) o o1)))
            (spec_l2Near_l0 N k0 k1 K a1 b1 (IntKind.i64.wrap (i + 1)) o o1)))))
        ((br (ieq ((rdP o1 i).1) b1)
          ((br (ieq ((rdP o1 i).2) a1)
            (k0 true)
            (spec_l2Near_l0 N k0 k1 K a1 b1 (IntKind.i64.wrap (i + 1)) o o1)))
          (spec_l2Near_l0 N k0 k1 K a1 b1 (IntKind.i64.wrap (i + 1)) o o1))))))
      (k1 ()))
noncomputable def spec_l2Near_l0_again {R : Type} (N : Nat) (ks : (j : Nat) → ((spec_l2Near_l0_ex.getD j (.ret, Sh.none)).2).T → Option R) (k : Nat) (x : spec_l2Near_l0_sh.T) : Option R :=
  spec_l2Near_l0 N (fun y0 => ks 0 ((y0, ()), ())) (fun (_ : Unit) => ks 1 ((), ())) k x.1.1 x.1.2.1 x.1.2.2.2.1 x.2.1.1 x.2.1.2.1
noncomputable def spec_l2Near_l0_s (N : Nat) : LSum := ⟨spec_l2Near_l0_sh, spec_l2Near_l0_ex, fun x ks => spec_l2Near_l0_again N ks N x⟩
theorem spec_l2Near_l0_step (N : Nat) (R : Type) (k : Nat) (x : spec_l2Near_l0_sh.T) (ks : (j : Nat) → ((spec_l2Near_l0_ex.getD j (.ret, Sh.none)).2).T → Option R) : spec_l2Near_l0_again N ks (k + 1) x = roundF (spec_l2Near_G N) tab [] (loopAt spec_l2Near_code 0) spec_l2Near_l0_sh spec_l2Near_l0_ex (fun y => spec_l2Near_l0_again N ks k y) ks x := by kernel_rfl
theorem spec_l2Near_l0_ok (N : Nat) : LoopOk Try.prog Try.f97.ntmps (spec_l2Near_l0_s N) (loopAt spec_l2Near_code 0) :=
  loop_ok (l := spec_l2Near_l0_s N) progOk (spec_l2Near_gok N) (draw_ok progOk (spec_l2Near_gok N)) (fun R k x ks => spec_l2Near_l0_again N ks k x) (fun _ _ _ => rfl) (fun R k x ks => spec_l2Near_l0_step N R k x ks) (fun R x ks r h => ⟨N, h⟩) (lsOk_at (L := []) trivial) (by kernel_rfl) (by kernel_rfl)
noncomputable def spec_l2Near (N : Nat) (g : (Int × (List (Int × Int)))) (a : Int) (b : Int) : Option ((Bool × Unit) × (Unit)) :=
  spec_l2Near_l0 N (fun x => some ((x, ()), ())) (fun (_ : Unit) => some ((false, ()), ())) N a b 0 g.1 g.2
noncomputable def spec_l2Near_S (N : Nat) : FSum := ⟨spec_l2Near_ps, spec_l2Near_rs, fun x => spec_l2Near N x.1 x.2.1 x.2.2.1⟩
theorem spec_l2Near_run (N : Nat) (x : argsT spec_l2Near_ps) : spec_l2Near N x.1 x.2.1 x.2.2.1 = funF (spec_l2Near_G N) tab [spec_l2Near_l0_s N] Try.f97 spec_l2Near_ps spec_l2Near_rs x := by kernel_rfl
theorem spec_l2Near_pc (N : Nat) : PC Try.prog 97 (spec_l2Near_S N) := by
  have e : spec_l2Near_S N = ⟨spec_l2Near_ps, spec_l2Near_rs, funF (spec_l2Near_G N) tab [spec_l2Near_l0_s N] Try.f97 spec_l2Near_ps spec_l2Near_rs⟩ := congrArg (FSum.mk spec_l2Near_ps spec_l2Near_rs) (funext (spec_l2Near_run N))
  rw [e]
  exact fun_ok (c := spec_l2Near_code) progOk (spec_l2Near_gok N) (draw_ok progOk (spec_l2Near_gok N)) Try.call97 Try.func97 (by kernel_rfl) (lsOk_at (L := [spec_l2Near_l0_s N]) ⟨spec_l2Near_l0_ok N, trivial⟩) (by kernel_rfl) (by kernel_rfl) (by kernel_rfl) (by kernel_rfl) (by kernel_rfl)

/-! ### spec_l2Neighbors -/
abbrev spec_l2Neighbors_ps : List (PV.Mode × Ty) := [(.ro, QILQII), (.ro, I)]
abbrev spec_l2Neighbors_rs : List (Bool × Ty) := [(true, LI)]
noncomputable def spec_l2Neighbors_G (N : Nat) : GTab := gOf [(97, spec_l2Near_S N)]
theorem spec_l2Neighbors_gok (N : Nat) : GOk Try.prog (spec_l2Neighbors_G N) := gOf_ok ⟨spec_l2Near_pc N, trivial⟩
noncomputable def spec_l2Neighbors_code : Code := (Try.f146.body).getD .skip
noncomputable def spec_l2Neighbors_l0_sh : Sh := ⟨[(1, .one (.ro I)), (2, .one (.adr 0 0)), (5, .one (.ref 1)), (6, .one (.ro I))], [.box [.ro I, .ro LQII], .sl 3 I .own]⟩
noncomputable def spec_l2Neighbors_l0_ex : List (Ex × Sh) := [(.exit 0, ⟨[(5, .one (.ref 0))], [.sl 3 I .own]⟩)]
noncomputable def spec_l2Neighbors_l0 {R : Type} (N : Nat) (k0 : (List Int) → Option R) : Nat → Int → Int → Int → (List (Int × Int)) → (List Int) → Option R
  | 0, _, _, _, _, _ => none
  | K + 1, x1, y, o, o1, o2 =>
    (br (ilt y o)
      (((spec_l2Near N (o, o1) x1 y).bind fun r =>
        (br r.1.1
          ((chk (room o2 [y])
            (spec_l2Neighbors_l0 N k0 K x1 (IntKind.i64.wrap (y + 1)) o o1 (tApp o2 [y]))))
          (spec_l2Neighbors_l0 N k0 K x1 (IntKind.i64.wrap (y + 1)) o o1 o2))))
      (k0 o2))
noncomputable def spec_l2Neighbors_l0_again {R : Type} (N : Nat) (ks : (j : Nat) → ((spec_l2Neighbors_l0_ex.getD j (.ret, Sh.none)).2).T → Option R) (k : Nat) (x : spec_l2Neighbors_l0_sh.T) : Option R :=
  spec_l2Neighbors_l0 N (fun y0 => ks 0 (((), ()), (y0, ()))) k x.1.1 x.1.2.2.2.1 x.2.1.1 x.2.1.2.1 x.2.2.1
noncomputable def spec_l2Neighbors_l0_s (N : Nat) : LSum := ⟨spec_l2Neighbors_l0_sh, spec_l2Neighbors_l0_ex, fun x ks => spec_l2Neighbors_l0_again N ks N x⟩
theorem spec_l2Neighbors_l0_step (N : Nat) (R : Type) (k : Nat) (x : spec_l2Neighbors_l0_sh.T) (ks : (j : Nat) → ((spec_l2Neighbors_l0_ex.getD j (.ret, Sh.none)).2).T → Option R) : spec_l2Neighbors_l0_again N ks (k + 1) x = roundF (spec_l2Neighbors_G N) tab [] (loopAt spec_l2Neighbors_code 0) spec_l2Neighbors_l0_sh spec_l2Neighbors_l0_ex (fun y => spec_l2Neighbors_l0_again N ks k y) ks x := by kernel_rfl
theorem spec_l2Neighbors_l0_ok (N : Nat) : LoopOk Try.prog Try.f146.ntmps (spec_l2Neighbors_l0_s N) (loopAt spec_l2Neighbors_code 0) :=
  loop_ok (l := spec_l2Neighbors_l0_s N) progOk (spec_l2Neighbors_gok N) (draw_ok progOk (spec_l2Neighbors_gok N)) (fun R k x ks => spec_l2Neighbors_l0_again N ks k x) (fun _ _ _ => rfl) (fun R k x ks => spec_l2Neighbors_l0_step N R k x ks) (fun R x ks r h => ⟨N, h⟩) (lsOk_at (L := []) trivial) (by kernel_rfl) (by kernel_rfl)
noncomputable def spec_l2Neighbors (N : Nat) (g : (Int × (List (Int × Int)))) (x : Int) : Option (((List Int) × Unit) × (Unit)) :=
  spec_l2Neighbors_l0 N (fun o => some ((o, ()), ())) N x 0 g.1 g.2 []
noncomputable def spec_l2Neighbors_S (N : Nat) : FSum := ⟨spec_l2Neighbors_ps, spec_l2Neighbors_rs, fun x => spec_l2Neighbors N x.1 x.2.1⟩
theorem spec_l2Neighbors_run (N : Nat) (x : argsT spec_l2Neighbors_ps) : spec_l2Neighbors N x.1 x.2.1 = funF (spec_l2Neighbors_G N) tab [spec_l2Neighbors_l0_s N] Try.f146 spec_l2Neighbors_ps spec_l2Neighbors_rs x := by kernel_rfl
theorem spec_l2Neighbors_pc (N : Nat) : PC Try.prog 146 (spec_l2Neighbors_S N) := by
  have e : spec_l2Neighbors_S N = ⟨spec_l2Neighbors_ps, spec_l2Neighbors_rs, funF (spec_l2Neighbors_G N) tab [spec_l2Neighbors_l0_s N] Try.f146 spec_l2Neighbors_ps spec_l2Neighbors_rs⟩ := congrArg (FSum.mk spec_l2Neighbors_ps spec_l2Neighbors_rs) (funext (spec_l2Neighbors_run N))
  rw [e]
  exact fun_ok (c := spec_l2Neighbors_code) progOk (spec_l2Neighbors_gok N) (draw_ok progOk (spec_l2Neighbors_gok N)) Try.call146 Try.func146 (by kernel_rfl) (lsOk_at (L := [spec_l2Neighbors_l0_s N]) ⟨spec_l2Neighbors_l0_ok N, trivial⟩) (by kernel_rfl) (by kernel_rfl) (by kernel_rfl) (by kernel_rfl) (by kernel_rfl)

/-! ### spec_l2Spread -/
abbrev spec_l2Spread_ps : List (PV.Mode × Ty) := [(.ro, LLI), (.ro, I)]
abbrev spec_l2Spread_rs : List (Bool × Ty) := [(true, LI)]
noncomputable def spec_l2Spread_G (N : Nat) : GTab := gOf []
theorem spec_l2Spread_gok (N : Nat) : GOk Try.prog (spec_l2Spread_G N) := gOf_ok trivial
noncomputable def spec_l2Spread_code : Code := (Try.f147.body).getD .skip
noncomputable def spec_l2Spread_l0_sh : Sh := ⟨[(0, .one (.ro LLI)), (1, .one (.ro I)), (5, .one (.ref 0)), (6, .one (.ro I))], [.sl 3 I .own]⟩
noncomputable def spec_l2Spread_l0_ex : List (Ex × Sh) := [(.exit 0, ⟨[(0, .one (.ro LLI)), (1, .one (.ro I)), (5, .one (.ref 0))], [.sl 3 I .own]⟩)]
noncomputable def spec_l2Spread_l0 {R : Type} (N : Nat) (k0 : (List (List Int)) → Int → (List Int) → Option R) : Nat → (List (List Int)) → Int → Int → (List Int) → Option R
  | 0, _, _, _, _ => none
  | K + 1, x, x1, x2, o =>
    (br (ilt x2 (tLen o))
      ((chk (inb o x2)
        (spec_l2Spread_l0 N k0 K x x1 (IntKind.i64.wrap (x2 + 1)) (tSet o x2 (-1)))))
      (k0 x x1 o))
noncomputable def spec_l2Spread_l0_again {R : Type} (N : Nat) (ks : (j : Nat) → ((spec_l2Spread_l0_ex.getD j (.ret, Sh.none)).2).T → Option R) (k : Nat) (x : spec_l2Spread_l0_sh.T) : Option R :=
  spec_l2Spread_l0 N (fun y0 y1 y2 => ks 0 ((y0, y1, (), ()), (y2, ()))) k x.1.1 x.1.2.1 x.1.2.2.2.1 x.2.1
noncomputable def spec_l2Spread_l0_s (N : Nat) : LSum := ⟨spec_l2Spread_l0_sh, spec_l2Spread_l0_ex, fun x ks => spec_l2Spread_l0_again N ks N x⟩
theorem spec_l2Spread_l0_step (N : Nat) (R : Type) (k : Nat) (x : spec_l2Spread_l0_sh.T) (ks : (j : Nat) → ((spec_l2Spread_l0_ex.getD j (.ret, Sh.none)).2).T → Option R) : spec_l2Spread_l0_again N ks (k + 1) x = roundF (spec_l2Spread_G N) tab [] (loopAt spec_l2Spread_code 0) spec_l2Spread_l0_sh spec_l2Spread_l0_ex (fun y => spec_l2Spread_l0_again N ks k y) ks x := by kernel_rfl
theorem spec_l2Spread_l0_ok (N : Nat) : LoopOk Try.prog Try.f147.ntmps (spec_l2Spread_l0_s N) (loopAt spec_l2Spread_code 0) :=
  loop_ok (l := spec_l2Spread_l0_s N) progOk (spec_l2Spread_gok N) (draw_ok progOk (spec_l2Spread_gok N)) (fun R k x ks => spec_l2Spread_l0_again N ks k x) (fun _ _ _ => rfl) (fun R k x ks => spec_l2Spread_l0_step N R k x ks) (fun R x ks r h => ⟨N, h⟩) (lsOk_at (L := []) trivial) (by kernel_rfl) (by kernel_rfl)
noncomputable def spec_l2Spread_l1_0_sh : Sh := ⟨[(0, .one (.ro LLI)), (5, .one (.ref 0)), (7, .one (.ref 1)), (8, .one (.ro I)), (9, .one (.ro LI)), (10, .one (.ro I))], [.sl 3 I .own, .sl 3 I .own]⟩
noncomputable def spec_l2Spread_l1_0_ex : List (Ex × Sh) := [(.exit 4, ⟨[(0, .one (.ro LLI)), (5, .one (.ref 0)), (7, .one (.ref 1)), (8, .one (.ro I))], [.sl 3 I .own, .sl 3 I .own]⟩)]
noncomputable def spec_l2Spread_l1_0 {R : Type} (N : Nat) (k0 : (List (List Int)) → Int → (List Int) → (List Int) → Option R) : Nat → (List (List Int)) → Int → (List Int) → Int → (List Int) → (List Int) → Option R
  | 0, _, _, _, _, _, _ => none
  | K + 1, x4, x5, x6, x7, o3, o4 =>
    (br (ilt x7 (tLen x6))
      ((chk (inb x6 x7)
        (chk (inb o3 (rdI x6 x7))
        (br (ilt (rdI o3 (rdI x6 x7)) 0)
        ((chk (inb x6 x7)
          (chk (inb o4 x5)
          (chk (inb o3 (rdI o4 x5))
          (chk (inb o3 (rdI x6 x7))
          (chk (inb x6 x7)
          (chk (room o4 [(rdI x6 x7)])
          (spec_l2Spread_l1_0 N k0 K x4 x5 x6 (IntKind.i64.wrap (x7 + 1)) (tSet o3 (rdI x6 x7) (IntKind.i64.wrap ((rdI o3 (rdI o4 x5)) + 1))) (tApp o4 [(rdI x6 x7)])))))))))
        (spec_l2Spread_l1_0 N k0 K x4 x5 x6 (IntKind.i64.wrap (x7 + 1)) o3 o4)))))
      (k0 x4 x5 o3 o4))
noncomputable def spec_l2Spread_l1_0_again {R : Type} (N : Nat) (ks : (j : Nat) → ((spec_l2Spread_l1_0_ex.getD j (.ret, Sh.none)).2).T → Option R) (k : Nat) (x : spec_l2Spread_l1_0_sh.T) : Option R :=
  spec_l2Spread_l1_0 N (fun y0 y1 y2 y3 => ks 0 ((y0, (), (), y1, ()), (y2, y3, ()))) k x.1.1 x.1.2.2.2.1 x.1.2.2.2.2.1 x.1.2.2.2.2.2.1 x.2.1 x.2.2.1
noncomputable def spec_l2Spread_l1_0_s (N : Nat) : LSum := ⟨spec_l2Spread_l1_0_sh, spec_l2Spread_l1_0_ex, fun x ks => spec_l2Spread_l1_0_again N ks N x⟩
theorem spec_l2Spread_l1_0_step (N : Nat) (R : Type) (k : Nat) (x : spec_l2Spread_l1_0_sh.T) (ks : (j : Nat) → ((spec_l2Spread_l1_0_ex.getD j (.ret, Sh.none)).2).T → Option R) : spec_l2Spread_l1_0_again N ks (k + 1) x = roundF (spec_l2Spread_G N) tab [] (loopAt (loopAt spec_l2Spread_code 1) 0) spec_l2Spread_l1_0_sh spec_l2Spread_l1_0_ex (fun y => spec_l2Spread_l1_0_again N ks k y) ks x := by kernel_rfl
theorem spec_l2Spread_l1_0_ok (N : Nat) : LoopOk Try.prog Try.f147.ntmps (spec_l2Spread_l1_0_s N) (loopAt (loopAt spec_l2Spread_code 1) 0) :=
  loop_ok (l := spec_l2Spread_l1_0_s N) progOk (spec_l2Spread_gok N) (draw_ok progOk (spec_l2Spread_gok N)) (fun R k x ks => spec_l2Spread_l1_0_again N ks k x) (fun _ _ _ => rfl) (fun R k x ks => spec_l2Spread_l1_0_step N R k x ks) (fun R x ks r h => ⟨N, h⟩) (lsOk_at (L := []) trivial) (by kernel_rfl) (by kernel_rfl)
noncomputable def spec_l2Spread_l1_sh : Sh := ⟨[(0, .one (.ro LLI)), (5, .one (.ref 0)), (7, .one (.ref 1)), (8, .one (.ro I))], [.sl 3 I .own, .sl 3 I .own]⟩
noncomputable def spec_l2Spread_l1_ex : List (Ex × Sh) := [(.exit 2, ⟨[(5, .one (.ref 0))], [.sl 3 I .own]⟩)]
noncomputable def spec_l2Spread_l1 {R : Type} (N : Nat) (k0 : (List Int) → Option R) : Nat → (List (List Int)) → Int → (List Int) → (List Int) → Option R
  | 0, _, _, _, _ => none
  | K + 1, x2, x3, o1, o2 =>
    (br (ilt x3 (tLen o2))
      ((chk (inb o2 x3)
        (chk (inb x2 (rdI o2 x3))
        (spec_l2Spread_l1_0 N (fun x4 x5 o3 o4 => spec_l2Spread_l1 N k0 K x4 (IntKind.i64.wrap (x5 + 1)) o3 o4) N x2 x3 (rdL x2 (rdI o2 x3)) 0 o1 o2))))
      (k0 o1))
noncomputable def spec_l2Spread_l1_again {R : Type} (N : Nat) (ks : (j : Nat) → ((spec_l2Spread_l1_ex.getD j (.ret, Sh.none)).2).T → Option R) (k : Nat) (x : spec_l2Spread_l1_sh.T) : Option R :=
  spec_l2Spread_l1 N (fun y0 => ks 0 (((), ()), (y0, ()))) k x.1.1 x.1.2.2.2.1 x.2.1 x.2.2.1
noncomputable def spec_l2Spread_l1_s (N : Nat) : LSum := ⟨spec_l2Spread_l1_sh, spec_l2Spread_l1_ex, fun x ks => spec_l2Spread_l1_again N ks N x⟩
theorem spec_l2Spread_l1_step (N : Nat) (R : Type) (k : Nat) (x : spec_l2Spread_l1_sh.T) (ks : (j : Nat) → ((spec_l2Spread_l1_ex.getD j (.ret, Sh.none)).2).T → Option R) : spec_l2Spread_l1_again N ks (k + 1) x = roundF (spec_l2Spread_G N) tab [spec_l2Spread_l1_0_s N] (loopAt spec_l2Spread_code 1) spec_l2Spread_l1_sh spec_l2Spread_l1_ex (fun y => spec_l2Spread_l1_again N ks k y) ks x := by kernel_rfl
theorem spec_l2Spread_l1_ok (N : Nat) : LoopOk Try.prog Try.f147.ntmps (spec_l2Spread_l1_s N) (loopAt spec_l2Spread_code 1) :=
  loop_ok (l := spec_l2Spread_l1_s N) progOk (spec_l2Spread_gok N) (draw_ok progOk (spec_l2Spread_gok N)) (fun R k x ks => spec_l2Spread_l1_again N ks k x) (fun _ _ _ => rfl) (fun R k x ks => spec_l2Spread_l1_step N R k x ks) (fun R x ks r h => ⟨N, h⟩) (lsOk_at (L := [spec_l2Spread_l1_0_s N]) ⟨spec_l2Spread_l1_0_ok N, trivial⟩) (by kernel_rfl) (by kernel_rfl)
noncomputable def spec_l2Spread (N : Nat) (c : (List (List Int))) (c1 : Int) : Option (((List Int) × Unit) × (Unit)) :=
  (chk (ile 0 (tLen c) && ile (tLen c) (tLen c) && fits (tLen c))
    (spec_l2Spread_l0 N (fun x x1 o => (chk (inb o x1)
    (spec_l2Spread_l1 N (fun o1 => some ((o1, ()), ())) N x 0 (tSet o x1 0) [x1]))) N c c1 0 (tRep (tLen c) (0 : Int))))
noncomputable def spec_l2Spread_S (N : Nat) : FSum := ⟨spec_l2Spread_ps, spec_l2Spread_rs, fun x => spec_l2Spread N x.1 x.2.1⟩
theorem spec_l2Spread_run (N : Nat) (x : argsT spec_l2Spread_ps) : spec_l2Spread N x.1 x.2.1 = funF (spec_l2Spread_G N) tab [spec_l2Spread_l0_s N, spec_l2Spread_l1_s N] Try.f147 spec_l2Spread_ps spec_l2Spread_rs x := by kernel_rfl
theorem spec_l2Spread_pc (N : Nat) : PC Try.prog 147 (spec_l2Spread_S N) := by
  have e : spec_l2Spread_S N = ⟨spec_l2Spread_ps, spec_l2Spread_rs, funF (spec_l2Spread_G N) tab [spec_l2Spread_l0_s N, spec_l2Spread_l1_s N] Try.f147 spec_l2Spread_ps spec_l2Spread_rs⟩ := congrArg (FSum.mk spec_l2Spread_ps spec_l2Spread_rs) (funext (spec_l2Spread_run N))
  rw [e]
  exact fun_ok (c := spec_l2Spread_code) progOk (spec_l2Spread_gok N) (draw_ok progOk (spec_l2Spread_gok N)) Try.call147 Try.func147 (by kernel_rfl) (lsOk_at (L := [spec_l2Spread_l0_s N, spec_l2Spread_l1_s N]) ⟨spec_l2Spread_l0_ok N, spec_l2Spread_l1_ok N, trivial⟩) (by kernel_rfl) (by kernel_rfl) (by kernel_rfl) (by kernel_rfl) (by kernel_rfl)

/-! ### spec_l3Far -/
abbrev spec_l3Far_ps : List (PV.Mode × Ty) := [(.ro, QILQII), (.ro, I)]
abbrev spec_l3Far_rs : List (Bool × Ty) := [(true, LI)]
noncomputable def spec_l3Far_G (N : Nat) : GTab := gOf [(146, spec_l2Neighbors_S N), (147, spec_l2Spread_S N)]
theorem spec_l3Far_gok (N : Nat) : GOk Try.prog (spec_l3Far_G N) := gOf_ok ⟨spec_l2Neighbors_pc N, spec_l2Spread_pc N, trivial⟩
noncomputable def spec_l3Far_code : Code := (Try.f80.body).getD .skip
noncomputable def spec_l3Far_l0_sh : Sh := ⟨[(1, .one (.ro I)), (2, .one (.adr 0 0)), (5, .one (.ref 1)), (6, .one (.ro I))], [.box [.ro I, .ro LQII], .sl 42 LI .deep]⟩
noncomputable def spec_l3Far_l0_ex : List (Ex × Sh) := [(.exit 0, ⟨[(1, .one (.ro I)), (5, .one (.ref 0))], [.sl 42 LI .deep]⟩)]
noncomputable def spec_l3Far_l0 {R : Type} (N : Nat) (k0 : Int → (List (List Int)) → Option R) : Nat → Int → Int → Int → (List (Int × Int)) → (List (List Int)) → Option R
  | 0, _, _, _, _, _ => none
  | K + 1, x1, y, o, o1, o2 =>
    (br (ilt y o)
      (((spec_l2Neighbors N (o, o1) y).bind fun r =>
        (chk (inb o2 y)
          (spec_l3Far_l0 N k0 K x1 (IntKind.i64.wrap (y + 1)) o o1 (tSet o2 y r.1.1)))))
      (k0 x1 o2))
noncomputable def spec_l3Far_l0_again {R : Type} (N : Nat) (ks : (j : Nat) → ((spec_l3Far_l0_ex.getD j (.ret, Sh.none)).2).T → Option R) (k : Nat) (x : spec_l3Far_l0_sh.T) : Option R :=
  spec_l3Far_l0 N (fun y0 y1 => ks 0 ((y0, (), ()), (y1, ()))) k x.1.1 x.1.2.2.2.1 x.2.1.1 x.2.1.2.1 x.2.2.1
noncomputable def spec_l3Far_l0_s (N : Nat) : LSum := ⟨spec_l3Far_l0_sh, spec_l3Far_l0_ex, fun x ks => spec_l3Far_l0_again N ks N x⟩
theorem spec_l3Far_l0_step (N : Nat) (R : Type) (k : Nat) (x : spec_l3Far_l0_sh.T) (ks : (j : Nat) → ((spec_l3Far_l0_ex.getD j (.ret, Sh.none)).2).T → Option R) : spec_l3Far_l0_again N ks (k + 1) x = roundF (spec_l3Far_G N) tab [] (loopAt spec_l3Far_code 0) spec_l3Far_l0_sh spec_l3Far_l0_ex (fun y => spec_l3Far_l0_again N ks k y) ks x := by kernel_rfl
theorem spec_l3Far_l0_ok (N : Nat) : LoopOk Try.prog Try.f80.ntmps (spec_l3Far_l0_s N) (loopAt spec_l3Far_code 0) :=
  loop_ok (l := spec_l3Far_l0_s N) progOk (spec_l3Far_gok N) (draw_ok progOk (spec_l3Far_gok N)) (fun R k x ks => spec_l3Far_l0_again N ks k x) (fun _ _ _ => rfl) (fun R k x ks => spec_l3Far_l0_step N R k x ks) (fun R x ks r h => ⟨N, h⟩) (lsOk_at (L := []) trivial) (by kernel_rfl) (by kernel_rfl)
noncomputable def spec_l3Far (N : Nat) (g : (Int × (List (Int × Int)))) (x : Int) : Option (((List Int) × Unit) × (Unit)) :=
  (chk (ile 0 g.1 && ile g.1 g.1 && fits g.1)
    (spec_l3Far_l0 N (fun x1 o => ((spec_l2Spread N o x1).bind fun r =>
    some ((r.1.1, ()), ()))) N x 0 g.1 g.2 (tRep g.1 [])))
noncomputable def spec_l3Far_S (N : Nat) : FSum := ⟨spec_l3Far_ps, spec_l3Far_rs, fun x => spec_l3Far N x.1 x.2.1⟩
theorem spec_l3Far_run (N : Nat) (x : argsT spec_l3Far_ps) : spec_l3Far N x.1 x.2.1 = funF (spec_l3Far_G N) tab [spec_l3Far_l0_s N] Try.f80 spec_l3Far_ps spec_l3Far_rs x := by kernel_rfl
theorem spec_l3Far_pc (N : Nat) : PC Try.prog 80 (spec_l3Far_S N) := by
  have e : spec_l3Far_S N = ⟨spec_l3Far_ps, spec_l3Far_rs, funF (spec_l3Far_G N) tab [spec_l3Far_l0_s N] Try.f80 spec_l3Far_ps spec_l3Far_rs⟩ := congrArg (FSum.mk spec_l3Far_ps spec_l3Far_rs) (funext (spec_l3Far_run N))
  rw [e]
  exact fun_ok (c := spec_l3Far_code) progOk (spec_l3Far_gok N) (draw_ok progOk (spec_l3Far_gok N)) Try.call80 Try.func80 (by kernel_rfl) (lsOk_at (L := [spec_l3Far_l0_s N]) ⟨spec_l3Far_l0_ok N, trivial⟩) (by kernel_rfl) (by kernel_rfl) (by kernel_rfl) (by kernel_rfl) (by kernel_rfl)

/-! ### spec_LayersOf -/
abbrev spec_LayersOf_ps : List (PV.Mode × Ty) := [(.ro, QILQII), (.ro, I), (.ro, I)]
abbrev spec_LayersOf_rs : List (Bool × Ty) := [(true, LLI), (true, .bool)]
noncomputable def spec_LayersOf_G (N : Nat) : GTab := gOf [(78, spec_l7Ends_S N), (80, spec_l3Far_S N)]
theorem spec_LayersOf_gok (N : Nat) : GOk Try.prog (spec_LayersOf_G N) := gOf_ok ⟨spec_l7Ends_pc N, spec_l3Far_pc N, trivial⟩
noncomputable def spec_LayersOf_code : Code := (Try.f28.body).getD .skip
noncomputable def spec_LayersOf_l0_0_sh : Sh := ⟨[(2, .one (.ro I)), (3, .one (.adr 0 0)), (8, .one (.ref 1)), (9, .one (.ref 2)), (10, .one (.ref 3)), (11, .one (.ro I)), (12, .one (.ref 4)), (13, .one (.ro I))], [.box [.ro I, .ro LQII], .sl 42 LI .deep, .sl 3 I .own, .sl 3 I .own, .sl 3 I .own]⟩
noncomputable def spec_LayersOf_l0_0_ex : List (Ex × Sh) := [(.exit 2, ⟨[(2, .one (.ro I)), (3, .one (.adr 0 0)), (8, .one (.ref 1)), (9, .one (.ref 2)), (10, .one (.ref 3)), (11, .one (.ro I)), (12, .one (.ref 4))], [.box [.ro I, .ro LQII], .sl 42 LI .deep, .sl 3 I .own, .sl 3 I .own, .sl 3 I .own]⟩)]
noncomputable def spec_LayersOf_l0_0 {R : Type} (N : Nat) (k0 : Int → Int → Int → (List (Int × Int)) → (List (List Int)) → (List Int) → (List Int) → (List Int) → Option R) : Nat → Int → Int → Int → Int → (List (Int × Int)) → (List (List Int)) → (List Int) → (List Int) → (List Int) → Option R
  | 0, _, _, _, _, _, _, _, _, _ => none
  | K + 1, x2, x3, x4, o5, o6, o7, o8, o9, o10 =>
    (br (ilt x4 o5)
      ((chk (inb o8 x4)
        (br (ieq (rdI o8 x4) x3)
        ((chk (inb o9 x4)
          (chk (inb o8 x2)
          (br (ieq (rdI o9 x4) (IntKind.i64.wrap ((rdI o8 x2) - x3)))
          ((chk (room o10 [x4])
            (spec_LayersOf_l0_0 N k0 K x2 x3 (IntKind.i64.wrap (x4 + 1)) o5 o6 o7 o8 o9 (tApp o10 [x4]))))
          (spec_LayersOf_l0_0 N k0 K x2 x3 (IntKind.i64.wrap (x4 + 1)) o5 o6 o7 o8 o9 o10)))))
        (spec_LayersOf_l0_0 N k0 K x2 x3 (IntKind.i64.wrap (x4 + 1)) o5 o6 o7 o8 o9 o10))))
      (k0 x2 x3 o5 o6 o7 o8 o9 o10))
noncomputable def spec_LayersOf_l0_0_again {R : Type} (N : Nat) (ks : (j : Nat) → ((spec_LayersOf_l0_0_ex.getD j (.ret, Sh.none)).2).T → Option R) (k : Nat) (x : spec_LayersOf_l0_0_sh.T) : Option R :=
  spec_LayersOf_l0_0 N (fun y0 y1 y2 y3 y4 y5 y6 y7 => ks 0 ((y0, (), (), (), (), y1, (), ()), ((y2, y3, ()), y4, y5, y6, y7, ()))) k x.1.1 x.1.2.2.2.2.2.1 x.1.2.2.2.2.2.2.2.1 x.2.1.1 x.2.1.2.1 x.2.2.1 x.2.2.2.1 x.2.2.2.2.1 x.2.2.2.2.2.1
noncomputable def spec_LayersOf_l0_0_s (N : Nat) : LSum := ⟨spec_LayersOf_l0_0_sh, spec_LayersOf_l0_0_ex, fun x ks => spec_LayersOf_l0_0_again N ks N x⟩
theorem spec_LayersOf_l0_0_step (N : Nat) (R : Type) (k : Nat) (x : spec_LayersOf_l0_0_sh.T) (ks : (j : Nat) → ((spec_LayersOf_l0_0_ex.getD j (.ret, Sh.none)).2).T → Option R) : spec_LayersOf_l0_0_again N ks (k + 1) x = roundF (spec_LayersOf_G N) tab [] (loopAt (loopAt spec_LayersOf_code 0) 0) spec_LayersOf_l0_0_sh spec_LayersOf_l0_0_ex (fun y => spec_LayersOf_l0_0_again N ks k y) ks x := by kernel_rfl
theorem spec_LayersOf_l0_0_ok (N : Nat) : LoopOk Try.prog Try.f28.ntmps (spec_LayersOf_l0_0_s N) (loopAt (loopAt spec_LayersOf_code 0) 0) :=
  loop_ok (l := spec_LayersOf_l0_0_s N) progOk (spec_LayersOf_gok N) (draw_ok progOk (spec_LayersOf_gok N)) (fun R k x ks => spec_LayersOf_l0_0_again N ks k x) (fun _ _ _ => rfl) (fun R k x ks => spec_LayersOf_l0_0_step N R k x ks) (fun R x ks r h => ⟨N, h⟩) (lsOk_at (L := []) trivial) (by kernel_rfl) (by kernel_rfl)
noncomputable def spec_LayersOf_l0_sh : Sh := ⟨[(2, .one (.ro I)), (3, .one (.adr 0 0)), (8, .one (.ref 1)), (9, .one (.ref 2)), (10, .one (.ref 3)), (11, .one (.ro I))], [.box [.ro I, .ro LQII], .sl 42 LI .deep, .sl 3 I .own, .sl 3 I .own]⟩
noncomputable def spec_LayersOf_l0_ex : List (Ex × Sh) := [(.exit 0, ⟨[(8, .one (.ref 0))], [.sl 42 LI .deep]⟩)]
noncomputable def spec_LayersOf_l0 {R : Type} (N : Nat) (k0 : (List (List Int)) → Option R) : Nat → Int → Int → Int → (List (Int × Int)) → (List (List Int)) → (List Int) → (List Int) → Option R
  | 0, _, _, _, _, _, _, _ => none
  | K + 1, x, x1, o, o1, o2, o3, o4 =>
    (chk (inb o3 x)
      (br (ile x1 (rdI o3 x))
      (spec_LayersOf_l0_0 N (fun x2 x3 o5 o6 o7 o8 o9 o10 => (chk (room o7 [o10])
        (spec_LayersOf_l0 N k0 K x2 (IntKind.i64.wrap (x3 + 1)) o5 o6 (tApp o7 [o10]) o8 o9))) N x x1 0 o o1 o2 o3 o4 [])
      (k0 o2)))
noncomputable def spec_LayersOf_l0_again {R : Type} (N : Nat) (ks : (j : Nat) → ((spec_LayersOf_l0_ex.getD j (.ret, Sh.none)).2).T → Option R) (k : Nat) (x : spec_LayersOf_l0_sh.T) : Option R :=
  spec_LayersOf_l0 N (fun y0 => ks 0 (((), ()), (y0, ()))) k x.1.1 x.1.2.2.2.2.2.1 x.2.1.1 x.2.1.2.1 x.2.2.1 x.2.2.2.1 x.2.2.2.2.1
noncomputable def spec_LayersOf_l0_s (N : Nat) : LSum := ⟨spec_LayersOf_l0_sh, spec_LayersOf_l0_ex, fun x ks => spec_LayersOf_l0_again N ks N x⟩
theorem spec_LayersOf_l0_step (N : Nat) (R : Type) (k : Nat) (x : spec_LayersOf_l0_sh.T) (ks : (j : Nat) → ((spec_LayersOf_l0_ex.getD j (.ret, Sh.none)).2).T → Option R) : spec_LayersOf_l0_again N ks (k + 1) x = roundF (spec_LayersOf_G N) tab [spec_LayersOf_l0_0_s N] (loopAt spec_LayersOf_code 0) spec_LayersOf_l0_sh spec_LayersOf_l0_ex (fun y => spec_LayersOf_l0_again N ks k y) ks x := by kernel_rfl
theorem spec_LayersOf_l0_ok (N : Nat) : LoopOk Try.prog Try.f28.ntmps (spec_LayersOf_l0_s N) (loopAt spec_LayersOf_code 0) :=
  loop_ok (l := spec_LayersOf_l0_s N) progOk (spec_LayersOf_gok N) (draw_ok progOk (spec_LayersOf_gok N)) (fun R k x ks => spec_LayersOf_l0_again N ks k x) (fun _ _ _ => rfl) (fun R k x ks => spec_LayersOf_l0_step N R k x ks) (fun R x ks r h => ⟨N, h⟩) (lsOk_at (L := [spec_LayersOf_l0_0_s N]) ⟨spec_LayersOf_l0_0_ok N, trivial⟩) (by kernel_rfl) (by kernel_rfl)
noncomputable def spec_LayersOf (N : Nat) (c : (Int × (List (Int × Int)))) (c1 : Int) (c2 : Int) : Option (((List (List Int)) × Bool × Unit) × (Unit)) :=
  ((spec_l7Ends N (c.1, c.2) c1 c2).bind fun r =>
    (br (!r.1.1)
      (some (([], false, ()), ()))
      (((spec_l3Far N (c.1, c.2) c1).bind fun r1 =>
        ((spec_l3Far N (c.1, c.2) c2).bind fun r2 =>
          spec_LayersOf_l0 N (fun o => some ((o, true, ()), ())) N c2 0 c.1 c.2 [] r1.1.1 r2.1.1)))))
noncomputable def spec_LayersOf_S (N : Nat) : FSum := ⟨spec_LayersOf_ps, spec_LayersOf_rs, fun x => spec_LayersOf N x.1 x.2.1 x.2.2.1⟩
theorem spec_LayersOf_run (N : Nat) (x : argsT spec_LayersOf_ps) : spec_LayersOf N x.1 x.2.1 x.2.2.1 = funF (spec_LayersOf_G N) tab [spec_LayersOf_l0_s N] Try.f28 spec_LayersOf_ps spec_LayersOf_rs x := by kernel_rfl
theorem spec_LayersOf_pc (N : Nat) : PC Try.prog 28 (spec_LayersOf_S N) := by
  have e : spec_LayersOf_S N = ⟨spec_LayersOf_ps, spec_LayersOf_rs, funF (spec_LayersOf_G N) tab [spec_LayersOf_l0_s N] Try.f28 spec_LayersOf_ps spec_LayersOf_rs⟩ := congrArg (FSum.mk spec_LayersOf_ps spec_LayersOf_rs) (funext (spec_LayersOf_run N))
  rw [e]
  exact fun_ok (c := spec_LayersOf_code) progOk (spec_LayersOf_gok N) (draw_ok progOk (spec_LayersOf_gok N)) Try.call28 Try.func28 (by kernel_rfl) (lsOk_at (L := [spec_LayersOf_l0_s N]) ⟨spec_LayersOf_l0_ok N, trivial⟩) (by kernel_rfl) (by kernel_rfl) (by kernel_rfl) (by kernel_rfl) (by kernel_rfl)

/-! ### impl_between -/
abbrev impl_between_ps : List (PV.Mode × Ty) := [(.ro, I), (.ro, I), (.ro, I)]
abbrev impl_between_rs : List (Bool × Ty) := [(true, .bool)]
noncomputable def impl_between_G (N : Nat) : GTab := gOf []
theorem impl_between_gok (N : Nat) : GOk Try.prog (impl_between_G N) := gOf_ok trivial
noncomputable def impl_between_code : Code := (Try.f90.body).getD .skip
noncomputable def impl_between (N : Nat) (n : Int) (low : Int) (high : Int) : Option ((Bool × Unit) × (Unit)) :=
  (br (ile low n)
    (some (((ile n high), ()), ()))
    (some ((false, ()), ())))
noncomputable def impl_between_S (N : Nat) : FSum := ⟨impl_between_ps, impl_between_rs, fun x => impl_between N x.1 x.2.1 x.2.2.1⟩
theorem impl_between_run (N : Nat) (x : argsT impl_between_ps) : impl_between N x.1 x.2.1 x.2.2.1 = funF (impl_between_G N) tab [] Try.f90 impl_between_ps impl_between_rs x := by kernel_rfl
theorem impl_between_pc (N : Nat) : PC Try.prog 90 (impl_between_S N) := by
  have e : impl_between_S N = ⟨impl_between_ps, impl_between_rs, funF (impl_between_G N) tab [] Try.f90 impl_between_ps impl_between_rs⟩ := congrArg (FSum.mk impl_between_ps impl_between_rs) (funext (impl_between_run N))
  rw [e]
  exact fun_ok (c := impl_between_code) progOk (impl_between_gok N) (draw_ok progOk (impl_between_gok N)) Try.call90 Try.func90 (by kernel_rfl) (lsOk_at (L := []) trivial) (by kernel_rfl) (by kernel_rfl) (by kernel_rfl) (by kernel_rfl) (by kernel_rfl)

/-! ### cmp_isNaN_int -/
abbrev cmp_isNaN_int_ps : List (PV.Mode × Ty) := [(.ro, I)]
abbrev cmp_isNaN_int_rs : List (Bool × Ty) := [(true, .bool)]
noncomputable def cmp_isNaN_int_G (N : Nat) : GTab := gOf []
theorem cmp_isNaN_int_gok (N : Nat) : GOk Try.prog (cmp_isNaN_int_G N) := gOf_ok trivial
noncomputable def cmp_isNaN_int_code : Code := (Try.f252.body).getD .skip
noncomputable def cmp_isNaN_int (N : Nat) (x : Int) : Option ((Bool × Unit) × (Unit)) :=
  some (((ine x x), ()), ())
noncomputable def cmp_isNaN_int_S (N : Nat) : FSum := ⟨cmp_isNaN_int_ps, cmp_isNaN_int_rs, fun x => cmp_isNaN_int N x.1⟩
theorem cmp_isNaN_int_run (N : Nat) (x : argsT cmp_isNaN_int_ps) : cmp_isNaN_int N x.1 = funF (cmp_isNaN_int_G N) tab [] Try.f252 cmp_isNaN_int_ps cmp_isNaN_int_rs x := by kernel_rfl
theorem cmp_isNaN_int_pc (N : Nat) : PC Try.prog 252 (cmp_isNaN_int_S N) := by
  have e : cmp_isNaN_int_S N = ⟨cmp_isNaN_int_ps, cmp_isNaN_int_rs, funF (cmp_isNaN_int_G N) tab [] Try.f252 cmp_isNaN_int_ps cmp_isNaN_int_rs⟩ := congrArg (FSum.mk cmp_isNaN_int_ps cmp_isNaN_int_rs) (funext (cmp_isNaN_int_run N))
  rw [e]
  exact fun_ok (c := cmp_isNaN_int_code) progOk (cmp_isNaN_int_gok N) (draw_ok progOk (cmp_isNaN_int_gok N)) Try.call252 Try.func252 (by kernel_rfl) (lsOk_at (L := []) trivial) (by kernel_rfl) (by kernel_rfl) (by kernel_rfl) (by kernel_rfl) (by kernel_rfl)

/-! ### cmp_Compare_int -/
abbrev cmp_Compare_int_ps : List (PV.Mode × Ty) := [(.ro, I), (.ro, I)]
abbrev cmp_Compare_int_rs : List (Bool × Ty) := [(true, I)]
noncomputable def cmp_Compare_int_G (N : Nat) : GTab := gOf [(252, cmp_isNaN_int_S N)]
theorem cmp_Compare_int_gok (N : Nat) : GOk Try.prog (cmp_Compare_int_G N) := gOf_ok ⟨cmp_isNaN_int_pc N, trivial⟩
noncomputable def cmp_Compare_int_code : Code := (Try.f220.body).getD .skip
noncomputable def cmp_Compare_int (N : Nat) (x : Int) (y : Int) : Option ((Int × Unit) × (Unit)) :=
  ((cmp_isNaN_int N x).bind fun r =>
    ((cmp_isNaN_int N y).bind fun r1 =>
      (br r.1.1
        ((br r1.1.1
          (some ((0, ()), ()))
          (some (((-1), ()), ()))))
        ((br r1.1.1
          (some ((1, ()), ()))
          ((br (ilt x y)
            (some (((-1), ()), ()))
            ((br (ilt y x)
              (some ((1, ()), ()))
              (some ((0, ()), ())))))))))))
noncomputable def cmp_Compare_int_S (N : Nat) : FSum := ⟨cmp_Compare_int_ps, cmp_Compare_int_rs, fun x => cmp_Compare_int N x.1 x.2.1⟩
theorem cmp_Compare_int_run (N : Nat) (x : argsT cmp_Compare_int_ps) : cmp_Compare_int N x.1 x.2.1 = funF (cmp_Compare_int_G N) tab [] Try.f220 cmp_Compare_int_ps cmp_Compare_int_rs x := by kernel_rfl
theorem cmp_Compare_int_pc (N : Nat) : PC Try.prog 220 (cmp_Compare_int_S N) := by
  have e : cmp_Compare_int_S N = ⟨cmp_Compare_int_ps, cmp_Compare_int_rs, funF (cmp_Compare_int_G N) tab [] Try.f220 cmp_Compare_int_ps cmp_Compare_int_rs⟩ := congrArg (FSum.mk cmp_Compare_int_ps cmp_Compare_int_rs) (funext (cmp_Compare_int_run N))
  rw [e]
  exact fun_ok (c := cmp_Compare_int_code) progOk (cmp_Compare_int_gok N) (draw_ok progOk (cmp_Compare_int_gok N)) Try.call220 Try.func220 (by kernel_rfl) (lsOk_at (L := []) trivial) (by kernel_rfl) (by kernel_rfl) (by kernel_rfl) (by kernel_rfl) (by kernel_rfl)

/-! ### cmp_Or_int -/
abbrev cmp_Or_int_ps : List (PV.Mode × Ty) := [(.ro, LI)]
abbrev cmp_Or_int_rs : List (Bool × Ty) := [(true, I)]
noncomputable def cmp_Or_int_G (N : Nat) : GTab := gOf []
theorem cmp_Or_int_gok (N : Nat) : GOk Try.prog (cmp_Or_int_G N) := gOf_ok trivial
noncomputable def cmp_Or_int_code : Code := (Try.f236.body).getD .skip
noncomputable def cmp_Or_int_l0_sh : Sh := ⟨[(3, .one (.ro I)), (6, .one (.ro LI)), (7, .one (.ro I)), (8, .one (.ro I))], []⟩
noncomputable def cmp_Or_int_l0_ex : List (Ex × Sh) := [(.ret, ⟨[(2, .one (.ro I))], []⟩), (.exit 0, ⟨[(3, .one (.ro I))], []⟩)]
noncomputable def cmp_Or_int_l0 {R : Type} (N : Nat) (k0 : Int → Option R) (k1 : Int → Option R) : Nat → Int → (List Int) → Int → Int → Option R
  | 0, _, _, _, _ => none
  | K + 1, zero, x, x1, x2 =>
    (br (ilt x2 x1)
      ((chk (inb x x2)
        (br (ine (rdI x x2) zero)
        (k0 (rdI x x2))
        (cmp_Or_int_l0 N k0 k1 K zero x x1 (IntKind.i64.wrap (x2 + 1))))))
      (k1 zero))
noncomputable def cmp_Or_int_l0_again {R : Type} (N : Nat) (ks : (j : Nat) → ((cmp_Or_int_l0_ex.getD j (.ret, Sh.none)).2).T → Option R) (k : Nat) (x : cmp_Or_int_l0_sh.T) : Option R :=
  cmp_Or_int_l0 N (fun y0 => ks 0 ((y0, ()), ())) (fun y0 => ks 1 ((y0, ()), ())) k x.1.1 x.1.2.1 x.1.2.2.1 x.1.2.2.2.1
noncomputable def cmp_Or_int_l0_s (N : Nat) : LSum := ⟨cmp_Or_int_l0_sh, cmp_Or_int_l0_ex, fun x ks => cmp_Or_int_l0_again N ks N x⟩
theorem cmp_Or_int_l0_step (N : Nat) (R : Type) (k : Nat) (x : cmp_Or_int_l0_sh.T) (ks : (j : Nat) → ((cmp_Or_int_l0_ex.getD j (.ret, Sh.none)).2).T → Option R) : cmp_Or_int_l0_again N ks (k + 1) x = roundF (cmp_Or_int_G N) tab [] (loopAt cmp_Or_int_code 0) cmp_Or_int_l0_sh cmp_Or_int_l0_ex (fun y => cmp_Or_int_l0_again N ks k y) ks x := by kernel_rfl
theorem cmp_Or_int_l0_ok (N : Nat) : LoopOk Try.prog Try.f236.ntmps (cmp_Or_int_l0_s N) (loopAt cmp_Or_int_code 0) :=
  loop_ok (l := cmp_Or_int_l0_s N) progOk (cmp_Or_int_gok N) (draw_ok progOk (cmp_Or_int_gok N)) (fun R k x ks => cmp_Or_int_l0_again N ks k x) (fun _ _ _ => rfl) (fun R k x ks => cmp_Or_int_l0_step N R k x ks) (fun R x ks r h => ⟨N, h⟩) (lsOk_at (L := []) trivial) (by kernel_rfl) (by kernel_rfl)
noncomputable def cmp_Or_int (N : Nat) (vals : (List Int)) : Option ((Int × Unit) × (Unit)) :=
  cmp_Or_int_l0 N (fun x => some ((x, ()), ())) (fun zero => some ((zero, ()), ())) N 0 vals (tLen vals) 0
noncomputable def cmp_Or_int_S (N : Nat) : FSum := ⟨cmp_Or_int_ps, cmp_Or_int_rs, fun x => cmp_Or_int N x.1⟩
theorem cmp_Or_int_run (N : Nat) (x : argsT cmp_Or_int_ps) : cmp_Or_int N x.1 = funF (cmp_Or_int_G N) tab [cmp_Or_int_l0_s N] Try.f236 cmp_Or_int_ps cmp_Or_int_rs x := by kernel_rfl
theorem cmp_Or_int_pc (N : Nat) : PC Try.prog 236 (cmp_Or_int_S N) := by
  have e : cmp_Or_int_S N = ⟨cmp_Or_int_ps, cmp_Or_int_rs, funF (cmp_Or_int_G N) tab [cmp_Or_int_l0_s N] Try.f236 cmp_Or_int_ps cmp_Or_int_rs⟩ := congrArg (FSum.mk cmp_Or_int_ps cmp_Or_int_rs) (funext (cmp_Or_int_run N))
  rw [e]
  exact fun_ok (c := cmp_Or_int_code) progOk (cmp_Or_int_gok N) (draw_ok progOk (cmp_Or_int_gok N)) Try.call236 Try.func236 (by kernel_rfl) (lsOk_at (L := [cmp_Or_int_l0_s N]) ⟨cmp_Or_int_l0_ok N, trivial⟩) (by kernel_rfl) (by kernel_rfl) (by kernel_rfl) (by kernel_rfl) (by kernel_rfl)

/-! ### impl_comparePairs -/
abbrev impl_comparePairs_ps : List (PV.Mode × Ty) := [(.ro, QII), (.ro, QII)]
abbrev impl_comparePairs_rs : List (Bool × Ty) := [(true, I)]
noncomputable def impl_comparePairs_G (N : Nat) : GTab := gOf [(220, cmp_Compare_int_S N), (236, cmp_Or_int_S N)]
theorem impl_comparePairs_gok (N : Nat) : GOk Try.prog (impl_comparePairs_G N) := gOf_ok ⟨cmp_Compare_int_pc N, cmp_Or_int_pc N, trivial⟩
noncomputable def impl_comparePairs_code : Code := (Try.f205.body).getD .skip
noncomputable def impl_comparePairs (N : Nat) (a : (Int × Int)) (b : (Int × Int)) : Option ((Int × Unit) × (Unit)) :=
  ((cmp_Compare_int N a.1 b.1).bind fun r =>
    ((cmp_Compare_int N a.2 b.2).bind fun r1 =>
      ((cmp_Or_int N [r.1.1, r1.1.1]).bind fun r2 =>
        some ((r2.1.1, ()), ()))))
noncomputable def impl_comparePairs_S (N : Nat) : FSum := ⟨impl_comparePairs_ps, impl_comparePairs_rs, fun x => impl_comparePairs N x.1 x.2.1⟩
theorem impl_comparePairs_run (N : Nat) (x : argsT impl_comparePairs_ps) : impl_comparePairs N x.1 x.2.1 = funF (impl_comparePairs_G N) tab [] Try.f205 impl_comparePairs_ps impl_comparePairs_rs x := by kernel_rfl
theorem impl_comparePairs_pc (N : Nat) : PC Try.prog 205 (impl_comparePairs_S N) := by
  have e : impl_comparePairs_S N = ⟨impl_comparePairs_ps, impl_comparePairs_rs, funF (impl_comparePairs_G N) tab [] Try.f205 impl_comparePairs_ps impl_comparePairs_rs⟩ := congrArg (FSum.mk impl_comparePairs_ps impl_comparePairs_rs) (funext (impl_comparePairs_run N))
  rw [e]
  exact fun_ok (c := impl_comparePairs_code) progOk (impl_comparePairs_gok N) (draw_ok progOk (impl_comparePairs_gok N)) Try.call205 Try.func205 (by kernel_rfl) (lsOk_at (L := []) trivial) (by kernel_rfl) (by kernel_rfl) (by kernel_rfl) (by kernel_rfl) (by kernel_rfl)

/-! ### impl_isPairs -/
abbrev impl_isPairs_ps : List (PV.Mode × Ty) := [(.ro, LQII), (.ro, I)]
abbrev impl_isPairs_rs : List (Bool × Ty) := [(true, .bool)]
noncomputable def impl_isPairs_G (N : Nat) : GTab := gOf [(205, impl_comparePairs_S N)]
theorem impl_isPairs_gok (N : Nat) : GOk Try.prog (impl_isPairs_G N) := gOf_ok ⟨impl_comparePairs_pc N, trivial⟩
noncomputable def impl_isPairs_code : Code := (Try.f152.body).getD .skip
noncomputable def impl_isPairs_l0_sh : Sh := ⟨[(0, .one (.ro LQII)), (1, .one (.ro I)), (7, .one (.ro LQII)), (8, .one (.ro I)), (9, .one (.ro I))], []⟩
noncomputable def impl_isPairs_l0_ex : List (Ex × Sh) := [(.ret, ⟨[(4, .one (.ro .bool))], []⟩), (.exit 0, ⟨[], []⟩)]
noncomputable def impl_isPairs_l0 {R : Type} (N : Nat) (k0 : Bool → Option R) (k1 : Unit → Option R) : Nat → (List (Int × Int)) → Int → (List (Int × Int)) → Int → Int → Option R
  | 0, _, _, _, _, _ => none
  | K + 1, list1, below1, x, x1, x2 =>
    (br (ilt x2 x1)
      ((chk (inb x x2)
        (br (ilt ((rdP x x2).1) 0)
        (k0 false)
        ((br (ile ((rdP x x2).2) ((rdP x x2).1))
          (k0 false)
          ((br (ile below1 ((rdP x x2).2))
            (k0 false)
            ((br (ilt 0 x2)
              ((chk (inb list1 (IntKind.i64.wrap (x2 - 1)))
                ((impl_comparePairs N (rdP list1 (IntKind.i64.wrap (x2 - 1))) ((rdP x x2).1, (rdP x x2).2)).bind fun r =>
                (br (ile 0 r.1.1)
                  (k0 false)
                  (impl_isPairs_l0 N k0 k1 K list1 below1 x x1 (IntKind.i64.wrap (x2 + 1)))))))
              (impl_isPairs_l0 N k0 k1 K list1 below1 x x1 (IntKind.i64.wrap (x2 + 1))))))))))))
      (k1 ()))
noncomputable def impl_isPairs_l0_again {R : Type} (N : Nat) (ks : (j : Nat) → ((impl_isPairs_l0_ex.getD j (.ret, Sh.none)).2).T → Option R) (k : Nat) (x : impl_isPairs_l0_sh.T) : Option R :=
  impl_isPairs_l0 N (fun y0 => ks 0 ((y0, ()), ())) (fun (_ : Unit) => ks 1 ((), ())) k x.1.1 x.1.2.1 x.1.2.2.1 x.1.2.2.2.1 x.1.2.2.2.2.1
noncomputable def impl_isPairs_l0_s (N : Nat) : LSum := ⟨impl_isPairs_l0_sh, impl_isPairs_l0_ex, fun x ks => impl_isPairs_l0_again N ks N x⟩
theorem impl_isPairs_l0_step (N : Nat) (R : Type) (k : Nat) (x : impl_isPairs_l0_sh.T) (ks : (j : Nat) → ((impl_isPairs_l0_ex.getD j (.ret, Sh.none)).2).T → Option R) : impl_isPairs_l0_again N ks (k + 1) x = roundF (impl_isPairs_G N) tab [] (loopAt impl_isPairs_code 0) impl_isPairs_l0_sh impl_isPairs_l0_ex (fun y => impl_isPairs_l0_again N ks k y) ks x := by kernel_rfl
theorem impl_isPairs_l0_ok (N : Nat) : LoopOk Try.prog Try.f152.ntmps (impl_isPairs_l0_s N) (loopAt impl_isPairs_code 0) :=
  loop_ok (l := impl_isPairs_l0_s N) progOk (impl_isPairs_gok N) (draw_ok progOk (impl_isPairs_gok N)) (fun R k x ks => impl_isPairs_l0_again N ks k x) (fun _ _ _ => rfl) (fun R k x ks => impl_isPairs_l0_step N R k x ks) (fun R x ks r h => ⟨N, h⟩) (lsOk_at (L := []) trivial) (by kernel_rfl) (by kernel_rfl)
noncomputable def impl_isPairs (N : Nat) (list : (List (Int × Int))) (below : Int) : Option ((Bool × Unit) × (Unit)) :=
  impl_isPairs_l0 N (fun x => some ((x, ()), ())) (fun (_ : Unit) => some ((true, ()), ())) N list below list (tLen list) 0
noncomputable def impl_isPairs_S (N : Nat) : FSum := ⟨impl_isPairs_ps, impl_isPairs_rs, fun x => impl_isPairs N x.1 x.2.1⟩
theorem impl_isPairs_run (N : Nat) (x : argsT impl_isPairs_ps) : impl_isPairs N x.1 x.2.1 = funF (impl_isPairs_G N) tab [impl_isPairs_l0_s N] Try.f152 impl_isPairs_ps impl_isPairs_rs x := by kernel_rfl
theorem impl_isPairs_pc (N : Nat) : PC Try.prog 152 (impl_isPairs_S N) := by
  have e : impl_isPairs_S N = ⟨impl_isPairs_ps, impl_isPairs_rs, funF (impl_isPairs_G N) tab [impl_isPairs_l0_s N] Try.f152 impl_isPairs_ps impl_isPairs_rs⟩ := congrArg (FSum.mk impl_isPairs_ps impl_isPairs_rs) (funext (impl_isPairs_run N))
  rw [e]
  exact fun_ok (c := impl_isPairs_code) progOk (impl_isPairs_gok N) (draw_ok progOk (impl_isPairs_gok N)) Try.call152 Try.func152 (by kernel_rfl) (lsOk_at (L := [impl_isPairs_l0_s N]) ⟨impl_isPairs_l0_ok N, trivial⟩) (by kernel_rfl) (by kernel_rfl) (by kernel_rfl) (by kernel_rfl) (by kernel_rfl)

/-! ### impl_IsGraph -/
abbrev impl_IsGraph_ps : List (PV.Mode × Ty) := [(.ro, QILQII)]
abbrev impl_IsGraph_rs : List (Bool × Ty) := [(true, .bool)]
noncomputable def impl_IsGraph_G (N : Nat) : GTab := gOf [(90, impl_between_S N), (152, impl_isPairs_S N)]
theorem impl_IsGraph_gok (N : Nat) : GOk Try.prog (impl_IsGraph_G N) := gOf_ok ⟨impl_between_pc N, impl_isPairs_pc N, trivial⟩
noncomputable def impl_IsGraph_code : Code := (Try.f86.body).getD .skip
noncomputable def impl_IsGraph (N : Nat) (g : (Int × (List (Int × Int)))) : Option ((Bool × Unit) × (Unit)) :=
  ((impl_between N g.1 0 8).bind fun r =>
    (br r.1.1
      (((impl_isPairs N g.2 g.1).bind fun r1 =>
        some ((r1.1.1, ()), ())))
      (some ((false, ()), ()))))
noncomputable def impl_IsGraph_S (N : Nat) : FSum := ⟨impl_IsGraph_ps, impl_IsGraph_rs, fun x => impl_IsGraph N x.1⟩
theorem impl_IsGraph_run (N : Nat) (x : argsT impl_IsGraph_ps) : impl_IsGraph N x.1 = funF (impl_IsGraph_G N) tab [] Try.f86 impl_IsGraph_ps impl_IsGraph_rs x := by kernel_rfl
theorem impl_IsGraph_pc (N : Nat) : PC Try.prog 86 (impl_IsGraph_S N) := by
  have e : impl_IsGraph_S N = ⟨impl_IsGraph_ps, impl_IsGraph_rs, funF (impl_IsGraph_G N) tab [] Try.f86 impl_IsGraph_ps impl_IsGraph_rs⟩ := congrArg (FSum.mk impl_IsGraph_ps impl_IsGraph_rs) (funext (impl_IsGraph_run N))
  rw [e]
  exact fun_ok (c := impl_IsGraph_code) progOk (impl_IsGraph_gok N) (draw_ok progOk (impl_IsGraph_gok N)) Try.call86 Try.func86 (by kernel_rfl) (lsOk_at (L := []) trivial) (by kernel_rfl) (by kernel_rfl) (by kernel_rfl) (by kernel_rfl) (by kernel_rfl)

/-! ### impl_isTwoNodes -/
abbrev impl_isTwoNodes_ps : List (PV.Mode × Ty) := [(.ro, QILQII), (.ro, I), (.ro, I)]
abbrev impl_isTwoNodes_rs : List (Bool × Ty) := [(true, .bool)]
noncomputable def impl_isTwoNodes_G (N : Nat) : GTab := gOf [(86, impl_IsGraph_S N), (90, impl_between_S N)]
theorem impl_isTwoNodes_gok (N : Nat) : GOk Try.prog (impl_isTwoNodes_G N) := gOf_ok ⟨impl_IsGraph_pc N, impl_between_pc N, trivial⟩
noncomputable def impl_isTwoNodes_code : Code := (Try.f81.body).getD .skip
noncomputable def impl_isTwoNodes (N : Nat) (g : (Int × (List (Int × Int)))) (s : Int) (t : Int) : Option ((Bool × Unit) × (Unit)) :=
  ((impl_IsGraph N (g.1, g.2)).bind fun r =>
    (br r.1.1
      (((impl_between N s 0 (IntKind.i64.wrap (g.1 - 1))).bind fun r1 =>
        (br r1.1.1
          (((impl_between N t 0 (IntKind.i64.wrap (g.1 - 1))).bind fun r2 =>
            some ((r2.1.1, ()), ())))
          (some ((false, ()), ())))))
      (some ((false, ()), ()))))
noncomputable def impl_isTwoNodes_S (N : Nat) : FSum := ⟨impl_isTwoNodes_ps, impl_isTwoNodes_rs, fun x => impl_isTwoNodes N x.1 x.2.1 x.2.2.1⟩
theorem impl_isTwoNodes_run (N : Nat) (x : argsT impl_isTwoNodes_ps) : impl_isTwoNodes N x.1 x.2.1 x.2.2.1 = funF (impl_isTwoNodes_G N) tab [] Try.f81 impl_isTwoNodes_ps impl_isTwoNodes_rs x := by kernel_rfl
theorem impl_isTwoNodes_pc (N : Nat) : PC Try.prog 81 (impl_isTwoNodes_S N) := by
  have e : impl_isTwoNodes_S N = ⟨impl_isTwoNodes_ps, impl_isTwoNodes_rs, funF (impl_isTwoNodes_G N) tab [] Try.f81 impl_isTwoNodes_ps impl_isTwoNodes_rs⟩ := congrArg (FSum.mk impl_isTwoNodes_ps impl_isTwoNodes_rs) (funext (impl_isTwoNodes_run N))
  rw [e]
  exact fun_ok (c := impl_isTwoNodes_code) progOk (impl_isTwoNodes_gok N) (draw_ok progOk (impl_isTwoNodes_gok N)) Try.call81 Try.func81 (by kernel_rfl) (lsOk_at (L := []) trivial) (by kernel_rfl) (by kernel_rfl) (by kernel_rfl) (by kernel_rfl) (by kernel_rfl)

/-! ### impl_pair -/
abbrev impl_pair_ps : List (PV.Mode × Ty) := [(.ro, I), (.ro, I)]
abbrev impl_pair_rs : List (Bool × Ty) := [(true, QII)]
noncomputable def impl_pair_G (N : Nat) : GTab := gOf []
theorem impl_pair_gok (N : Nat) : GOk Try.prog (impl_pair_G N) := gOf_ok trivial
noncomputable def impl_pair_code : Code := (Try.f214.body).getD .skip
noncomputable def impl_pair (N : Nat) (a : Int) (b : Int) : Option (((Int × Int) × Unit) × (Unit)) :=
  some ((((if b < a then b else a), (if b > a then b else a)), ()), ())
noncomputable def impl_pair_S (N : Nat) : FSum := ⟨impl_pair_ps, impl_pair_rs, fun x => impl_pair N x.1 x.2.1⟩
theorem impl_pair_run (N : Nat) (x : argsT impl_pair_ps) : impl_pair N x.1 x.2.1 = funF (impl_pair_G N) tab [] Try.f214 impl_pair_ps impl_pair_rs x := by kernel_rfl
theorem impl_pair_pc (N : Nat) : PC Try.prog 214 (impl_pair_S N) := by
  have e : impl_pair_S N = ⟨impl_pair_ps, impl_pair_rs, funF (impl_pair_G N) tab [] Try.f214 impl_pair_ps impl_pair_rs⟩ := congrArg (FSum.mk impl_pair_ps impl_pair_rs) (funext (impl_pair_run N))
  rw [e]
  exact fun_ok (c := impl_pair_code) progOk (impl_pair_gok N) (draw_ok progOk (impl_pair_gok N)) Try.call214 Try.func214 (by kernel_rfl) (lsOk_at (L := []) trivial) (by kernel_rfl) (by kernel_rfl) (by kernel_rfl) (by kernel_rfl) (by kernel_rfl)

/-! ### slices_Index_LP_P2 -/
abbrev slices_Index_LP_P2_ps : List (PV.Mode × Ty) := [(.ro, LQII), (.ro, QII)]
abbrev slices_Index_LP_P2_rs : List (Bool × Ty) := [(true, I)]
noncomputable def slices_Index_LP_P2_G (N : Nat) : GTab := gOf []
theorem slices_Index_LP_P2_gok (N : Nat) : GOk Try.prog (slices_Index_LP_P2_G N) := gOf_ok trivial
noncomputable def slices_Index_LP_P2_code : Code := (Try.f238.body).getD .skip
noncomputable def slices_Index_LP_P2_l0_sh : Sh := ⟨[(0, .one (.ro LQII)), (3, .one (.adr 0 0)), (7, .one (.ro I)), (8, .one (.ro I))], [.box [.ro I, .ro I]]⟩
noncomputable def slices_Index_LP_P2_l0_ex : List (Ex × Sh) := [(.ret, ⟨[(4, .one (.ro I))], []⟩), (.exit 0, ⟨[], []⟩)]
noncomputable def slices_Index_LP_P2_l0 {R : Type} (N : Nat) (k0 : Int → Option R) (k1 : Unit → Option R) : Nat → (List (Int × Int)) → Int → Int → Int → Int → Option R
  | 0, _, _, _, _, _ => none
  | K + 1, s1, x, x1, o, o1 =>
    (br (ilt x1 x)
      ((chk (inb s1 x1)
        (br (ieq o ((rdP s1 x1).1) && ieq o1 ((rdP s1 x1).2))
        (k0 x1)
        (slices_Index_LP_P2_l0 N k0 k1 K s1 x (IntKind.i64.wrap (x1 + 1)) o o1))))
      (k1 ()))
noncomputable def slices_Index_LP_P2_l0_again {R : Type} (N : Nat) (ks : (j : Nat) → ((slices_Index_LP_P2_l0_ex.getD j (.ret, Sh.none)).2).T → Option R) (k : Nat) (x : slices_Index_LP_P2_l0_sh.T) : Option R :=
  slices_Index_LP_P2_l0 N (fun y0 => ks 0 ((y0, ()), ())) (fun (_ : Unit) => ks 1 ((), ())) k x.1.1 x.1.2.2.1 x.1.2.2.2.1 x.2.1.1 x.2.1.2.1
noncomputable def slices_Index_LP_P2_l0_s (N : Nat) : LSum := ⟨slices_Index_LP_P2_l0_sh, slices_Index_LP_P2_l0_ex, fun x ks => slices_Index_LP_P2_l0_again N ks N x⟩
theorem slices_Index_LP_P2_l0_step (N : Nat) (R : Type) (k : Nat) (x : slices_Index_LP_P2_l0_sh.T) (ks : (j : Nat) → ((slices_Index_LP_P2_l0_ex.getD j (.ret, Sh.none)).2).T → Option R) : slices_Index_LP_P2_l0_again N ks (k + 1) x = roundF (slices_Index_LP_P2_G N) tab [] (loopAt slices_Index_LP_P2_code 0) slices_Index_LP_P2_l0_sh slices_Index_LP_P2_l0_ex (fun y => slices_Index_LP_P2_l0_again N ks k y) ks x := by kernel_rfl
theorem slices_Index_LP_P2_l0_ok (N : Nat) : LoopOk Try.prog Try.f238.ntmps (slices_Index_LP_P2_l0_s N) (loopAt slices_Index_LP_P2_code 0) :=
  loop_ok (l := slices_Index_LP_P2_l0_s N) progOk (slices_Index_LP_P2_gok N) (draw_ok progOk (slices_Index_LP_P2_gok N)) (fun R k x ks => slices_Index_LP_P2_l0_again N ks k x) (fun _ _ _ => rfl) (fun R k x ks => slices_Index_LP_P2_l0_step N R k x ks) (fun R x ks r h => ⟨N, h⟩) (lsOk_at (L := []) trivial) (by kernel_rfl) (by kernel_rfl)
noncomputable def slices_Index_LP_P2 (N : Nat) (s : (List (Int × Int))) (v : (Int × Int)) : Option ((Int × Unit) × (Unit)) :=
  slices_Index_LP_P2_l0 N (fun x => some ((x, ()), ())) (fun (_ : Unit) => some (((-1), ()), ())) N s (tLen s) 0 v.1 v.2
noncomputable def slices_Index_LP_P2_S (N : Nat) : FSum := ⟨slices_Index_LP_P2_ps, slices_Index_LP_P2_rs, fun x => slices_Index_LP_P2 N x.1 x.2.1⟩
theorem slices_Index_LP_P2_run (N : Nat) (x : argsT slices_Index_LP_P2_ps) : slices_Index_LP_P2 N x.1 x.2.1 = funF (slices_Index_LP_P2_G N) tab [slices_Index_LP_P2_l0_s N] Try.f238 slices_Index_LP_P2_ps slices_Index_LP_P2_rs x := by kernel_rfl
theorem slices_Index_LP_P2_pc (N : Nat) : PC Try.prog 238 (slices_Index_LP_P2_S N) := by
  have e : slices_Index_LP_P2_S N = ⟨slices_Index_LP_P2_ps, slices_Index_LP_P2_rs, funF (slices_Index_LP_P2_G N) tab [slices_Index_LP_P2_l0_s N] Try.f238 slices_Index_LP_P2_ps slices_Index_LP_P2_rs⟩ := congrArg (FSum.mk slices_Index_LP_P2_ps slices_Index_LP_P2_rs) (funext (slices_Index_LP_P2_run N))
  rw [e]
  exact fun_ok (c := slices_Index_LP_P2_code) progOk (slices_Index_LP_P2_gok N) (draw_ok progOk (slices_Index_LP_P2_gok N)) Try.call238 Try.func238 (by kernel_rfl) (lsOk_at (L := [slices_Index_LP_P2_l0_s N]) ⟨slices_Index_LP_P2_l0_ok N, trivial⟩) (by kernel_rfl) (by kernel_rfl) (by kernel_rfl) (by kernel_rfl) (by kernel_rfl)
end Go.Proofs.Ytfbkjgeaoafejaa
