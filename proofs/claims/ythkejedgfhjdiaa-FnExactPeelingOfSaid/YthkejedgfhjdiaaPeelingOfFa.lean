/- Functions of the program as functions on data. -/
import Derived.Test.YthkejedgfhjdiaaPeelingOfTa
set_option linter.all false
namespace Go.Proofs.Ythkejedgfhjdiaa
open Go Go.PV
/-! ### laws_szIntA2S -/
noncomputable def laws_szIntA2S_G (N : Nat) : GTab := gOf []
theorem laws_szIntA2S_gok (N : Nat) : GOk Try.prog (laws_szIntA2S_G N) := gOf_ok trivial
noncomputable def laws_szIntA2S_code : Code := (Try.f74.body).getD .skip
noncomputable def laws_szIntA2S (N : Nat) (a : (List (Int × Int))) (left : Int) : Option ((Int × Unit) × (Unit)) :=
  (br (ilt (IntKind.i64.wrap (left - (tLen a))) 0)
    (some (((-1), ()), ()))
    (some (((IntKind.i64.wrap (left - (tLen a))), ()), ())))
abbrev laws_szIntA2S_ps : List (PV.Mode × Ty) := [(.ro, LQII), (.ro, I)]
abbrev laws_szIntA2S_rs : List (Bool × Ty) := [(true, I)]
noncomputable def laws_szIntA2S_S (N : Nat) : FSum := ⟨laws_szIntA2S_ps, laws_szIntA2S_rs, fun x => laws_szIntA2S N x.1 x.2.1⟩
theorem laws_szIntA2S_run (N : Nat) (x : argsT laws_szIntA2S_ps) : laws_szIntA2S N x.1 x.2.1 = funF (laws_szIntA2S_G N) tab [] Try.f74 laws_szIntA2S_ps laws_szIntA2S_rs x := by kernel_rfl
theorem laws_szIntA2S_pc (N : Nat) : PC Try.prog 74 (laws_szIntA2S_S N) := by
  have e : laws_szIntA2S_S N = ⟨laws_szIntA2S_ps, laws_szIntA2S_rs, funF (laws_szIntA2S_G N) tab [] Try.f74 laws_szIntA2S_ps laws_szIntA2S_rs⟩ := congrArg (FSum.mk laws_szIntA2S_ps laws_szIntA2S_rs) (funext (laws_szIntA2S_run N))
  rw [e]
  exact fun_ok (c := laws_szIntA2S_code) progOk (laws_szIntA2S_gok N) (draw_ok progOk (laws_szIntA2S_gok N)) Try.call74 Try.func74 (by kernel_rfl) (lsOk_at (L := []) trivial) (by kernel_rfl) (by kernel_rfl) (by kernel_rfl) (by kernel_rfl) (by kernel_rfl)

/-! ### laws_szGraph -/
noncomputable def laws_szGraph_G (N : Nat) : GTab := gOf [(74, laws_szIntA2S_S N)]
theorem laws_szGraph_gok (N : Nat) : GOk Try.prog (laws_szGraph_G N) := gOf_ok ⟨laws_szIntA2S_pc N, trivial⟩
noncomputable def laws_szGraph_code : Code := (Try.f30.body).getD .skip
noncomputable def laws_szGraph (N : Nat) (a : (Int × (List (Int × Int)))) (left : Int) : Option ((Int × Unit) × (Unit)) :=
  ((laws_szIntA2S N a.2 left).bind fun r =>
    (br (ilt r.1.1 0)
      (some (((-1), ()), ()))
      (some ((r.1.1, ()), ()))))
abbrev laws_szGraph_ps : List (PV.Mode × Ty) := [(.ro, QILQII), (.ro, I)]
abbrev laws_szGraph_rs : List (Bool × Ty) := [(true, I)]
noncomputable def laws_szGraph_S (N : Nat) : FSum := ⟨laws_szGraph_ps, laws_szGraph_rs, fun x => laws_szGraph N x.1 x.2.1⟩
theorem laws_szGraph_run (N : Nat) (x : argsT laws_szGraph_ps) : laws_szGraph N x.1 x.2.1 = funF (laws_szGraph_G N) tab [] Try.f30 laws_szGraph_ps laws_szGraph_rs x := by kernel_rfl
theorem laws_szGraph_pc (N : Nat) : PC Try.prog 30 (laws_szGraph_S N) := by
  have e : laws_szGraph_S N = ⟨laws_szGraph_ps, laws_szGraph_rs, funF (laws_szGraph_G N) tab [] Try.f30 laws_szGraph_ps laws_szGraph_rs⟩ := congrArg (FSum.mk laws_szGraph_ps laws_szGraph_rs) (funext (laws_szGraph_run N))
  rw [e]
  exact fun_ok (c := laws_szGraph_code) progOk (laws_szGraph_gok N) (draw_ok progOk (laws_szGraph_gok N)) Try.call30 Try.func30 (by kernel_rfl) (lsOk_at (L := []) trivial) (by kernel_rfl) (by kernel_rfl) (by kernel_rfl) (by kernel_rfl) (by kernel_rfl)

/-! ### laws_toIntA2 -/
noncomputable def laws_toIntA2_G (N : Nat) : GTab := gOf []
theorem laws_toIntA2_gok (N : Nat) : GOk Try.prog (laws_toIntA2_G N) := gOf_ok trivial
noncomputable def laws_toIntA2_code : Code := (Try.f139.body).getD .skip
noncomputable def laws_toIntA2_l0_sh : Sh := ⟨[(1, .one (.adr 0 0)), (2, .one (.adr 1 0)), (3, .one (.adr 2 0)), (4, .one (.num .i64 0))], [.box [.ro I, .ro I], .box [.ro I, .ro I], .box [.ro I, .ro I]]⟩
noncomputable def laws_toIntA2_l0_ex : List (Ex × Sh) := [(.exit 0, ⟨[(2, .one (.adr 0 0)), (3, .one (.adr 1 0))], [.box [.ro I, .ro I], .box [.ro I, .ro I]]⟩)]
noncomputable def laws_toIntA2_l0 {R : Type} (N : Nat) (k0 : Int → Int → Int → Int → Option R) (_ : Nat) (o6 : Int) (o7 : Int) (o8 : Int) (o9 : Int) (o10 : Int) (o11 : Int) : Option R :=
  k0 o8 o9 o6 o7
noncomputable def laws_toIntA2_l0_again {R : Type} (N : Nat) (ks : (j : Nat) → ((laws_toIntA2_l0_ex.getD j (.ret, Sh.none)).2).T → Option R) (x : laws_toIntA2_l0_sh.T) : Option R :=
  laws_toIntA2_l0 N (fun y0 y1 y2 y3 => ks 0 (((), (), ()), ((y0, y1, ()), (y2, y3, ()), ()))) N x.2.1.1 x.2.1.2.1 x.2.2.1.1 x.2.2.1.2.1 x.2.2.2.1.1 x.2.2.2.1.2.1
noncomputable def laws_toIntA2_l0_s (N : Nat) : LSum := ⟨laws_toIntA2_l0_sh, laws_toIntA2_l0_ex, fun x ks => laws_toIntA2_l0_again N ks x⟩
theorem laws_toIntA2_l0_unr (N : Nat) (R : Type) (x : laws_toIntA2_l0_sh.T) (ks : (j : Nat) → ((laws_toIntA2_l0_ex.getD j (.ret, Sh.none)).2).T → Option R) : laws_toIntA2_l0_again N ks x = unrF (laws_toIntA2_G N) tab (loopAt laws_toIntA2_code 0) laws_toIntA2_l0_ex ks 3 (fill laws_toIntA2_l0_sh x) := by kernel_rfl
theorem laws_toIntA2_l0_ok (N : Nat) : LoopOk Try.prog Try.f139.ntmps (laws_toIntA2_l0_s N) (loopAt laws_toIntA2_code 0) :=
  unroll_ok (l := laws_toIntA2_l0_s N) progOk (laws_toIntA2_gok N) (draw_ok progOk (laws_toIntA2_gok N)) (fun R x ks r h => ⟨3, (laws_toIntA2_l0_unr N R x ks).symm.trans h⟩) (by kernel_rfl) (by kernel_rfl)
noncomputable def laws_toIntA2 (N : Nat) (a : (Int × Int)) : Option (((Int × Int) × Unit) × (Unit)) :=
  laws_toIntA2_l0 N (fun o6 o7 o8 o9 => some (((o8, o9), ()), ())) N a.1 a.2 0 0 0 0
abbrev laws_toIntA2_ps : List (PV.Mode × Ty) := [(.ro, QII)]
abbrev laws_toIntA2_rs : List (Bool × Ty) := [(true, QII)]
noncomputable def laws_toIntA2_S (N : Nat) : FSum := ⟨laws_toIntA2_ps, laws_toIntA2_rs, fun x => laws_toIntA2 N x.1⟩
theorem laws_toIntA2_run (N : Nat) (x : argsT laws_toIntA2_ps) : laws_toIntA2 N x.1 = funF (laws_toIntA2_G N) tab [laws_toIntA2_l0_s N] Try.f139 laws_toIntA2_ps laws_toIntA2_rs x := by kernel_rfl
theorem laws_toIntA2_pc (N : Nat) : PC Try.prog 139 (laws_toIntA2_S N) := by
  have e : laws_toIntA2_S N = ⟨laws_toIntA2_ps, laws_toIntA2_rs, funF (laws_toIntA2_G N) tab [laws_toIntA2_l0_s N] Try.f139 laws_toIntA2_ps laws_toIntA2_rs⟩ := congrArg (FSum.mk laws_toIntA2_ps laws_toIntA2_rs) (funext (laws_toIntA2_run N))
  rw [e]
  exact fun_ok (c := laws_toIntA2_code) progOk (laws_toIntA2_gok N) (draw_ok progOk (laws_toIntA2_gok N)) Try.call139 Try.func139 (by kernel_rfl) (lsOk_at (L := [laws_toIntA2_l0_s N]) ⟨laws_toIntA2_l0_ok N, trivial⟩) (by kernel_rfl) (by kernel_rfl) (by kernel_rfl) (by kernel_rfl) (by kernel_rfl)

/-! ### laws_toIntA2S -/
noncomputable def laws_toIntA2S_G (N : Nat) : GTab := gOf [(139, laws_toIntA2_S N)]
theorem laws_toIntA2S_gok (N : Nat) : GOk Try.prog (laws_toIntA2S_G N) := gOf_ok ⟨laws_toIntA2_pc N, trivial⟩
noncomputable def laws_toIntA2S_code : Code := (Try.f77.body).getD .skip
noncomputable def laws_toIntA2S_l0_sh : Sh := ⟨[(0, .one (.ro LQII)), (3, .one (.ref 0)), (4, .one (.ro I))], [.sl 97 QII .own]⟩
noncomputable def laws_toIntA2S_l0_ex : List (Ex × Sh) := [(.exit 0, ⟨[(3, .one (.ref 0))], [.sl 97 QII .own]⟩)]
noncomputable def laws_toIntA2S_l0 {R : Type} (N : Nat) (k0 : (List (Int × Int)) → Option R) : Nat → (List (Int × Int)) → Int → (List (Int × Int)) → Option R
  | 0, _, _, _ => none
  | K + 1, a1, i, o =>
    (br (ilt i (tLen a1))
      ((chk (inb a1 i)
        ((laws_toIntA2 N (rdP a1 i)).bind fun r =>
        (chk (inb o i)
          (laws_toIntA2S_l0 N k0 K a1 (IntKind.i64.wrap (i + 1)) (tSet o i (r.1.1.1, r.1.1.2)))))))
      (k0 o))
noncomputable def laws_toIntA2S_l0_again {R : Type} (N : Nat) (ks : (j : Nat) → ((laws_toIntA2S_l0_ex.getD j (.ret, Sh.none)).2).T → Option R) (k : Nat) (x : laws_toIntA2S_l0_sh.T) : Option R :=
  laws_toIntA2S_l0 N (fun y0 => ks 0 (((), ()), (y0, ()))) k x.1.1 x.1.2.2.1 x.2.1
noncomputable def laws_toIntA2S_l0_s (N : Nat) : LSum := ⟨laws_toIntA2S_l0_sh, laws_toIntA2S_l0_ex, fun x ks => laws_toIntA2S_l0_again N ks N x⟩
theorem laws_toIntA2S_l0_step (N : Nat) (R : Type) (k : Nat) (x : laws_toIntA2S_l0_sh.T) (ks : (j : Nat) → ((laws_toIntA2S_l0_ex.getD j (.ret, Sh.none)).2).T → Option R) : laws_toIntA2S_l0_again N ks (k + 1) x = roundF (laws_toIntA2S_G N) tab [] (loopAt laws_toIntA2S_code 0) laws_toIntA2S_l0_sh laws_toIntA2S_l0_ex (fun y => laws_toIntA2S_l0_again N ks k y) ks x := by kernel_rfl
theorem laws_toIntA2S_l0_ok (N : Nat) : LoopOk Try.prog Try.f77.ntmps (laws_toIntA2S_l0_s N) (loopAt laws_toIntA2S_code 0) :=
  loop_ok (l := laws_toIntA2S_l0_s N) progOk (laws_toIntA2S_gok N) (draw_ok progOk (laws_toIntA2S_gok N)) (fun R k x ks => laws_toIntA2S_l0_again N ks k x) (fun _ _ _ => rfl) (fun R k x ks => laws_toIntA2S_l0_step N R k x ks) (fun R x ks r h => ⟨N, h⟩) (lsOk_at (L := []) trivial) (by kernel_rfl) (by kernel_rfl)
noncomputable def laws_toIntA2S (N : Nat) (a : (List (Int × Int))) : Option (((List (Int × Int)) × Unit) × (Unit)) :=
  (chk (ile 0 (tLen a) && ile (tLen a) (tLen a) && fits (tLen a))
    (laws_toIntA2S_l0 N (fun o => some ((o, ()), ())) N a 0 (tRep (tLen a) (0, 0))))
abbrev laws_toIntA2S_ps : List (PV.Mode × Ty) := [(.ro, LQII)]
abbrev laws_toIntA2S_rs : List (Bool × Ty) := [(true, LQII)]
noncomputable def laws_toIntA2S_S (N : Nat) : FSum := ⟨laws_toIntA2S_ps, laws_toIntA2S_rs, fun x => laws_toIntA2S N x.1⟩
theorem laws_toIntA2S_run (N : Nat) (x : argsT laws_toIntA2S_ps) : laws_toIntA2S N x.1 = funF (laws_toIntA2S_G N) tab [laws_toIntA2S_l0_s N] Try.f77 laws_toIntA2S_ps laws_toIntA2S_rs x := by kernel_rfl
theorem laws_toIntA2S_pc (N : Nat) : PC Try.prog 77 (laws_toIntA2S_S N) := by
  have e : laws_toIntA2S_S N = ⟨laws_toIntA2S_ps, laws_toIntA2S_rs, funF (laws_toIntA2S_G N) tab [laws_toIntA2S_l0_s N] Try.f77 laws_toIntA2S_ps laws_toIntA2S_rs⟩ := congrArg (FSum.mk laws_toIntA2S_ps laws_toIntA2S_rs) (funext (laws_toIntA2S_run N))
  rw [e]
  exact fun_ok (c := laws_toIntA2S_code) progOk (laws_toIntA2S_gok N) (draw_ok progOk (laws_toIntA2S_gok N)) Try.call77 Try.func77 (by kernel_rfl) (lsOk_at (L := [laws_toIntA2S_l0_s N]) ⟨laws_toIntA2S_l0_ok N, trivial⟩) (by kernel_rfl) (by kernel_rfl) (by kernel_rfl) (by kernel_rfl) (by kernel_rfl)

/-! ### laws_toGraph -/
noncomputable def laws_toGraph_G (N : Nat) : GTab := gOf [(77, laws_toIntA2S_S N)]
theorem laws_toGraph_gok (N : Nat) : GOk Try.prog (laws_toGraph_G N) := gOf_ok ⟨laws_toIntA2S_pc N, trivial⟩
noncomputable def laws_toGraph_code : Code := (Try.f32.body).getD .skip
noncomputable def laws_toGraph (N : Nat) (a : (Int × (List (Int × Int)))) : Option (((Int × (List (Int × Int))) × Unit) × (Unit)) :=
  ((laws_toIntA2S N a.2).bind fun r =>
    some (((a.1, r.1.1), ()), ()))
abbrev laws_toGraph_ps : List (PV.Mode × Ty) := [(.ro, QILQII)]
abbrev laws_toGraph_rs : List (Bool × Ty) := [(true, QILQII)]
noncomputable def laws_toGraph_S (N : Nat) : FSum := ⟨laws_toGraph_ps, laws_toGraph_rs, fun x => laws_toGraph N x.1⟩
theorem laws_toGraph_run (N : Nat) (x : argsT laws_toGraph_ps) : laws_toGraph N x.1 = funF (laws_toGraph_G N) tab [] Try.f32 laws_toGraph_ps laws_toGraph_rs x := by kernel_rfl
theorem laws_toGraph_pc (N : Nat) : PC Try.prog 32 (laws_toGraph_S N) := by
  have e : laws_toGraph_S N = ⟨laws_toGraph_ps, laws_toGraph_rs, funF (laws_toGraph_G N) tab [] Try.f32 laws_toGraph_ps laws_toGraph_rs⟩ := congrArg (FSum.mk laws_toGraph_ps laws_toGraph_rs) (funext (laws_toGraph_run N))
  rw [e]
  exact fun_ok (c := laws_toGraph_code) progOk (laws_toGraph_gok N) (draw_ok progOk (laws_toGraph_gok N)) Try.call32 Try.func32 (by kernel_rfl) (lsOk_at (L := []) trivial) (by kernel_rfl) (by kernel_rfl) (by kernel_rfl) (by kernel_rfl) (by kernel_rfl)

/-! ### spec_l1In -/
noncomputable def spec_l1In_G (N : Nat) : GTab := gOf []
theorem spec_l1In_gok (N : Nat) : GOk Try.prog (spec_l1In_G N) := gOf_ok trivial
noncomputable def spec_l1In_code : Code := (Try.f61.body).getD .skip
noncomputable def spec_l1In (N : Nat) (x : Int) (a : Int) (b : Int) : Option ((Bool × Unit) × (Unit)) :=
  (br (ile a x)
    (some (((ile x b), ()), ()))
    (some ((false, ()), ())))
abbrev spec_l1In_ps : List (PV.Mode × Ty) := [(.ro, I), (.ro, I), (.ro, I)]
abbrev spec_l1In_rs : List (Bool × Ty) := [(true, .bool)]
noncomputable def spec_l1In_S (N : Nat) : FSum := ⟨spec_l1In_ps, spec_l1In_rs, fun x => spec_l1In N x.1 x.2.1 x.2.2.1⟩
theorem spec_l1In_run (N : Nat) (x : argsT spec_l1In_ps) : spec_l1In N x.1 x.2.1 x.2.2.1 = funF (spec_l1In_G N) tab [] Try.f61 spec_l1In_ps spec_l1In_rs x := by kernel_rfl
theorem spec_l1In_pc (N : Nat) : PC Try.prog 61 (spec_l1In_S N) := by
  have e : spec_l1In_S N = ⟨spec_l1In_ps, spec_l1In_rs, funF (spec_l1In_G N) tab [] Try.f61 spec_l1In_ps spec_l1In_rs⟩ := congrArg (FSum.mk spec_l1In_ps spec_l1In_rs) (funext (spec_l1In_run N))
  rw [e]
  exact fun_ok (c := spec_l1In_code) progOk (spec_l1In_gok N) (draw_ok progOk (spec_l1In_gok N)) Try.call61 Try.func61 (by kernel_rfl) (lsOk_at (L := []) trivial) (by kernel_rfl) (by kernel_rfl) (by kernel_rfl) (by kernel_rfl) (by kernel_rfl)

/-! ### spec_l2Edge -/
noncomputable def spec_l2Edge_G (N : Nat) : GTab := gOf []
theorem spec_l2Edge_gok (N : Nat) : GOk Try.prog (spec_l2Edge_G N) := gOf_ok trivial
noncomputable def spec_l2Edge_code : Code := (Try.f176.body).getD .skip
noncomputable def spec_l2Edge (N : Nat) (a : (Int × Int)) (b : (Int × Int)) : Option ((Bool × Unit) × (Unit)) :=
  (br (ilt a.1 b.1)
    (some ((true, ()), ()))
    ((br (ieq a.1 b.1)
      (some (((ilt a.2 b.2), ()), ()))
      (some ((false, ()), ())))))
abbrev spec_l2Edge_ps : List (PV.Mode × Ty) := [(.ro, QII), (.ro, QII)]
abbrev spec_l2Edge_rs : List (Bool × Ty) := [(true, .bool)]
noncomputable def spec_l2Edge_S (N : Nat) : FSum := ⟨spec_l2Edge_ps, spec_l2Edge_rs, fun x => spec_l2Edge N x.1 x.2.1⟩
theorem spec_l2Edge_run (N : Nat) (x : argsT spec_l2Edge_ps) : spec_l2Edge N x.1 x.2.1 = funF (spec_l2Edge_G N) tab [] Try.f176 spec_l2Edge_ps spec_l2Edge_rs x := by kernel_rfl
theorem spec_l2Edge_pc (N : Nat) : PC Try.prog 176 (spec_l2Edge_S N) := by
  have e : spec_l2Edge_S N = ⟨spec_l2Edge_ps, spec_l2Edge_rs, funF (spec_l2Edge_G N) tab [] Try.f176 spec_l2Edge_ps spec_l2Edge_rs⟩ := congrArg (FSum.mk spec_l2Edge_ps spec_l2Edge_rs) (funext (spec_l2Edge_run N))
  rw [e]
  exact fun_ok (c := spec_l2Edge_code) progOk (spec_l2Edge_gok N) (draw_ok progOk (spec_l2Edge_gok N)) Try.call176 Try.func176 (by kernel_rfl) (lsOk_at (L := []) trivial) (by kernel_rfl) (by kernel_rfl) (by kernel_rfl) (by kernel_rfl) (by kernel_rfl)

/-! ### spec_l2Pairs -/
noncomputable def spec_l2Pairs_G (N : Nat) : GTab := gOf [(61, spec_l1In_S N), (176, spec_l2Edge_S N)]
theorem spec_l2Pairs_gok (N : Nat) : GOk Try.prog (spec_l2Pairs_G N) := gOf_ok ⟨spec_l1In_pc N, spec_l2Edge_pc N, trivial⟩
noncomputable def spec_l2Pairs_code : Code := (Try.f155.body).getD .skip
noncomputable def spec_l2Pairs_l0_sh : Sh := ⟨[(0, .one (.ro LQII)), (1, .one (.ro I)), (5, .one (.ro I))], []⟩
noncomputable def spec_l2Pairs_l0_ex : List (Ex × Sh) := [(.ret, ⟨[(4, .one (.ro .bool))], []⟩), (.exit 0, ⟨[], []⟩)]
noncomputable def spec_l2Pairs_l0 {R : Type} (N : Nat) (k0 : Bool → Option R) (k1 : Unit → Option R) : Nat → (List (Int × Int)) → Int → Int → Option R
  | 0, _, _, _ => none
  | K + 1, pairs1, n1, i =>
    (br (ilt i (tLen pairs1))
      ((chk (inb pairs1 i)
        ((spec_l1In N ((rdP pairs1 i).1) 0 (IntKind.i64.wrap (n1 - 1))).bind fun r =>
        (br (!r.1.1)
          (k0 false)
          (((spec_l1In N ((rdP pairs1 i).2) 0 (IntKind.i64.wrap (n1 - 1))).bind fun r1 =>
            (br (!r1.1.1)
              (k0 false)
              ((br (ile ((rdP pairs1 i).2) ((rdP pairs1 i).1))
                (k0 false)
                ((br (ilt 0 i)
                  ((chk (inb pairs1 (IntKind.i64.wrap (i - 1)))
                    ((spec_l2Edge N (rdP pairs1 (IntKind.i64.wrap (i - 1))) ((rdP pairs1 i).1, (rdP pairs1 i).2)).bind fun r2 =>
                    (br (!r2.1.1)
                      (k0 false)
                      (spec_l2Pairs_l0 N k0 k1 K pairs1 n1 (IntKind.i64.wrap (i + 1)))))))
                  (spec_l2Pairs_l0 N k0 k1 K pairs1 n1 (IntKind.i64.wrap (i + 1))))))))))))))
      (k1 ()))
noncomputable def spec_l2Pairs_l0_again {R : Type} (N : Nat) (ks : (j : Nat) → ((spec_l2Pairs_l0_ex.getD j (.ret, Sh.none)).2).T → Option R) (k : Nat) (x : spec_l2Pairs_l0_sh.T) : Option R :=
  spec_l2Pairs_l0 N (fun y0 => ks 0 ((y0, ()), ())) (fun (_ : Unit) => ks 1 ((), ())) k x.1.1 x.1.2.1 x.1.2.2.1
noncomputable def spec_l2Pairs_l0_s (N : Nat) : LSum := ⟨spec_l2Pairs_l0_sh, spec_l2Pairs_l0_ex, fun x ks => spec_l2Pairs_l0_again N ks N x⟩
theorem spec_l2Pairs_l0_step (N : Nat) (R : Type) (k : Nat) (x : spec_l2Pairs_l0_sh.T) (ks : (j : Nat) → ((spec_l2Pairs_l0_ex.getD j (.ret, Sh.none)).2).T → Option R) : spec_l2Pairs_l0_again N ks (k + 1) x = roundF (spec_l2Pairs_G N) tab [] (loopAt spec_l2Pairs_code 0) spec_l2Pairs_l0_sh spec_l2Pairs_l0_ex (fun y => spec_l2Pairs_l0_again N ks k y) ks x := by kernel_rfl
theorem spec_l2Pairs_l0_ok (N : Nat) : LoopOk Try.prog Try.f155.ntmps (spec_l2Pairs_l0_s N) (loopAt spec_l2Pairs_code 0) :=
  loop_ok (l := spec_l2Pairs_l0_s N) progOk (spec_l2Pairs_gok N) (draw_ok progOk (spec_l2Pairs_gok N)) (fun R k x ks => spec_l2Pairs_l0_again N ks k x) (fun _ _ _ => rfl) (fun R k x ks => spec_l2Pairs_l0_step N R k x ks) (fun R x ks r h => ⟨N, h⟩) (lsOk_at (L := []) trivial) (by kernel_rfl) (by kernel_rfl)
noncomputable def spec_l2Pairs (N : Nat) (pairs : (List (Int × Int))) (n : Int) : Option ((Bool × Unit) × (Unit)) :=
  spec_l2Pairs_l0 N (fun x => some ((x, ()), ())) (fun (_ : Unit) => some ((true, ()), ())) N pairs n 0
abbrev spec_l2Pairs_ps : List (PV.Mode × Ty) := [(.ro, LQII), (.ro, I)]
abbrev spec_l2Pairs_rs : List (Bool × Ty) := [(true, .bool)]
noncomputable def spec_l2Pairs_S (N : Nat) : FSum := ⟨spec_l2Pairs_ps, spec_l2Pairs_rs, fun x => spec_l2Pairs N x.1 x.2.1⟩
theorem spec_l2Pairs_run (N : Nat) (x : argsT spec_l2Pairs_ps) : spec_l2Pairs N x.1 x.2.1 = funF (spec_l2Pairs_G N) tab [spec_l2Pairs_l0_s N] Try.f155 spec_l2Pairs_ps spec_l2Pairs_rs x := by kernel_rfl
theorem spec_l2Pairs_pc (N : Nat) : PC Try.prog 155 (spec_l2Pairs_S N) := by
  have e : spec_l2Pairs_S N = ⟨spec_l2Pairs_ps, spec_l2Pairs_rs, funF (spec_l2Pairs_G N) tab [spec_l2Pairs_l0_s N] Try.f155 spec_l2Pairs_ps spec_l2Pairs_rs⟩ := congrArg (FSum.mk spec_l2Pairs_ps spec_l2Pairs_rs) (funext (spec_l2Pairs_run N))
  rw [e]
  exact fun_ok (c := spec_l2Pairs_code) progOk (spec_l2Pairs_gok N) (draw_ok progOk (spec_l2Pairs_gok N)) Try.call155 Try.func155 (by kernel_rfl) (lsOk_at (L := [spec_l2Pairs_l0_s N]) ⟨spec_l2Pairs_l0_ok N, trivial⟩) (by kernel_rfl) (by kernel_rfl) (by kernel_rfl) (by kernel_rfl) (by kernel_rfl)

/-! ### spec_l2Good -/
noncomputable def spec_l2Good_G (N : Nat) : GTab := gOf [(61, spec_l1In_S N), (155, spec_l2Pairs_S N)]
theorem spec_l2Good_gok (N : Nat) : GOk Try.prog (spec_l2Good_G N) := gOf_ok ⟨spec_l1In_pc N, spec_l2Pairs_pc N, trivial⟩
noncomputable def spec_l2Good_code : Code := (Try.f102.body).getD .skip
noncomputable def spec_l2Good (N : Nat) (g : (Int × (List (Int × Int)))) : Option ((Bool × Unit) × (Unit)) :=
  ((spec_l1In N g.1 0 8).bind fun r =>
    (br r.1.1
      (((spec_l2Pairs N g.2 g.1).bind fun r1 =>
        some ((r1.1.1, ()), ())))
      (some ((false, ()), ()))))
abbrev spec_l2Good_ps : List (PV.Mode × Ty) := [(.ro, QILQII)]
abbrev spec_l2Good_rs : List (Bool × Ty) := [(true, .bool)]
noncomputable def spec_l2Good_S (N : Nat) : FSum := ⟨spec_l2Good_ps, spec_l2Good_rs, fun x => spec_l2Good N x.1⟩
theorem spec_l2Good_run (N : Nat) (x : argsT spec_l2Good_ps) : spec_l2Good N x.1 = funF (spec_l2Good_G N) tab [] Try.f102 spec_l2Good_ps spec_l2Good_rs x := by kernel_rfl
theorem spec_l2Good_pc (N : Nat) : PC Try.prog 102 (spec_l2Good_S N) := by
  have e : spec_l2Good_S N = ⟨spec_l2Good_ps, spec_l2Good_rs, funF (spec_l2Good_G N) tab [] Try.f102 spec_l2Good_ps spec_l2Good_rs⟩ := congrArg (FSum.mk spec_l2Good_ps spec_l2Good_rs) (funext (spec_l2Good_run N))
  rw [e]
  exact fun_ok (c := spec_l2Good_code) progOk (spec_l2Good_gok N) (draw_ok progOk (spec_l2Good_gok N)) Try.call102 Try.func102 (by kernel_rfl) (lsOk_at (L := []) trivial) (by kernel_rfl) (by kernel_rfl) (by kernel_rfl) (by kernel_rfl) (by kernel_rfl)

/-! ### spec_l2Near -/
noncomputable def spec_l2Near_G (N : Nat) : GTab := gOf []
theorem spec_l2Near_gok (N : Nat) : GOk Try.prog (spec_l2Near_G N) := gOf_ok trivial
noncomputable def spec_l2Near_code : Code := (Try.f166.body).getD .skip
noncomputable def spec_l2Near_l0_sh : Sh := ⟨[(1, .one (.ro I)), (2, .one (.ro I)), (3, .one (.adr 0 0)), (7, .one (.ro I))], [.box [.ro I, .ro LQII]]⟩
noncomputable def spec_l2Near_l0_ex : List (Ex × Sh) := [(.ret, ⟨[(6, .one (.ro .bool))], []⟩), (.exit 0, ⟨[], []⟩)]
noncomputable def spec_l2Near_l0 {R : Type} (N : Nat) (k0 : Bool → Option R) (k1 : Unit → Option R) : Nat → Int → Int → Int → Int → (List (Int × Int)) → Option R
  | 0, _, _, _, _, _ => none
  | K + 1, a1, b1, i, o, o1 =>
    (br (ilt i (tLen o1))
      ((chk (inb o1 i)
        (br (ieq ((rdP o1 i).1) a1)
        ((br (ieq ((rdP o1 i).2) b1)
          (k0 true)
          ((br (ieq ((rdP o1 i).1) b1)
            ((br (ieq ((rdP o1 i).2) a1)
              (k0 true)
              (spec_l2Near_l0 N k0 k1 K a1 b1 (IntKind.i64.wrap (i + 1)) o o1)))
            (spec_l2Near_l0 N k0 k1 K a1 b1 (IntKind.i64.wrap (i + 1)) o o1)))))
        ((br (ieq ((rdP o1 i).1) b1)
          ((br (ieq ((rdP o1 i).2) a1)
            (k0 true)
            (spec_l2Near_l0 N k0 k1 K a1 b1 (IntKind.i64.wrap (i + 1)) o o1)))
          (spec_l2Near_l0 N k0 k1 K a1 b1 (IntKind.i64.wrap (i + 1)) o o1))))))
      (k1 ()))
noncomputable def spec_l2Near_l0_again {R : Type} (N : Nat) (ks : (j : Nat) → ((spec_l2Near_l0_ex.getD j (.ret, Sh.none)).2).T → Option R) (k : Nat) (x : spec_l2Near_l0_sh.T) : Option R :=
  spec_l2Near_l0 N (fun y0 => ks 0 ((y0, ()), ())) (fun (_ : Unit) => ks 1 ((), ())) k x.1.1 x.1.2.1 x.1.2.2.2.1 x.2.1.1 x.2.1.2.1
noncomputable def spec_l2Near_l0_s (N : Nat) : LSum := ⟨spec_l2Near_l0_sh, spec_l2Near_l0_ex, fun x ks => spec_l2Near_l0_again N ks N x⟩
theorem spec_l2Near_l0_step (N : Nat) (R : Type) (k : Nat) (x : spec_l2Near_l0_sh.T) (ks : (j : Nat) → ((spec_l2Near_l0_ex.getD j (.ret, Sh.none)).2).T → Option R) : spec_l2Near_l0_again N ks (k + 1) x = roundF (spec_l2Near_G N) tab [] (loopAt spec_l2Near_code 0) spec_l2Near_l0_sh spec_l2Near_l0_ex (fun y => spec_l2Near_l0_again N ks k y) ks x := by kernel_rfl
theorem spec_l2Near_l0_ok (N : Nat) : LoopOk Try.prog Try.f166.ntmps (spec_l2Near_l0_s N) (loopAt spec_l2Near_code 0) :=
  loop_ok (l := spec_l2Near_l0_s N) progOk (spec_l2Near_gok N) (draw_ok progOk (spec_l2Near_gok N)) (fun R k x ks => spec_l2Near_l0_again N ks k x) (fun _ _ _ => rfl) (fun R k x ks => spec_l2Near_l0_step N R k x ks) (fun R x ks r h => ⟨N, h⟩) (lsOk_at (L := []) trivial) (by kernel_rfl) (by kernel_rfl)
noncomputable def spec_l2Near (N : Nat) (g : (Int × (List (Int × Int)))) (a : Int) (b : Int) : Option ((Bool × Unit) × (Unit)) :=
  spec_l2Near_l0 N (fun x => some ((x, ()), ())) (fun (_ : Unit) => some ((false, ()), ())) N a b 0 g.1 g.2
abbrev spec_l2Near_ps : List (PV.Mode × Ty) := [(.ro, QILQII), (.ro, I), (.ro, I)]
abbrev spec_l2Near_rs : List (Bool × Ty) := [(true, .bool)]
noncomputable def spec_l2Near_S (N : Nat) : FSum := ⟨spec_l2Near_ps, spec_l2Near_rs, fun x => spec_l2Near N x.1 x.2.1 x.2.2.1⟩
theorem spec_l2Near_run (N : Nat) (x : argsT spec_l2Near_ps) : spec_l2Near N x.1 x.2.1 x.2.2.1 = funF (spec_l2Near_G N) tab [spec_l2Near_l0_s N] Try.f166 spec_l2Near_ps spec_l2Near_rs x := by kernel_rfl
theorem spec_l2Near_pc (N : Nat) : PC Try.prog 166 (spec_l2Near_S N) := by
  have e : spec_l2Near_S N = ⟨spec_l2Near_ps, spec_l2Near_rs, funF (spec_l2Near_G N) tab [spec_l2Near_l0_s N] Try.f166 spec_l2Near_ps spec_l2Near_rs⟩ := congrArg (FSum.mk spec_l2Near_ps spec_l2Near_rs) (funext (spec_l2Near_run N))
  rw [e]
  exact fun_ok (c := spec_l2Near_code) progOk (spec_l2Near_gok N) (draw_ok progOk (spec_l2Near_gok N)) Try.call166 Try.func166 (by kernel_rfl) (lsOk_at (L := [spec_l2Near_l0_s N]) ⟨spec_l2Near_l0_ok N, trivial⟩) (by kernel_rfl) (by kernel_rfl) (by kernel_rfl) (by kernel_rfl) (by kernel_rfl)

/-! ### spec_l2Neighbors -/
noncomputable def spec_l2Neighbors_G (N : Nat) : GTab := gOf [(166, spec_l2Near_S N)]
theorem spec_l2Neighbors_gok (N : Nat) : GOk Try.prog (spec_l2Neighbors_G N) := gOf_ok ⟨spec_l2Near_pc N, trivial⟩
noncomputable def spec_l2Neighbors_code : Code := (Try.f156.body).getD .skip
noncomputable def spec_l2Neighbors_l0_sh : Sh := ⟨[(1, .one (.ro I)), (2, .one (.adr 0 0)), (5, .one (.ref 1)), (6, .one (.ro I))], [.box [.ro I, .ro LQII], .sl 3 I .own]⟩
noncomputable def spec_l2Neighbors_l0_ex : List (Ex × Sh) := [(.exit 0, ⟨[(5, .one (.ref 0))], [.sl 3 I .own]⟩)]
noncomputable def spec_l2Neighbors_l0 {R : Type} (N : Nat) (k0 : (List Int) → Option R) : Nat → Int → Int → Int → (List (Int × Int)) → (List Int) → Option R
  | 0, _, _, _, _, _ => none
  | K + 1, x1, y, o, o1, o2 =>
    (br (ilt y o)
      (((spec_l2Near N (o, o1) x1 y).bind fun r =>
        (br r.1.1
          ((chk (room o2 [y])
            (spec_l2Neighbors_l0 N k0 K x1 (IntKind.i64.wrap (y + 1)) o o1 (tApp o2 [y]))))
          (spec_l2Neighbors_l0 N k0 K x1 (IntKind.i64.wrap (y + 1)) o o1 o2))))
      (k0 o2))
noncomputable def spec_l2Neighbors_l0_again {R : Type} (N : Nat) (ks : (j : Nat) → ((spec_l2Neighbors_l0_ex.getD j (.ret, Sh.none)).2).T → Option R) (k : Nat) (x : spec_l2Neighbors_l0_sh.T) : Option R :=
  spec_l2Neighbors_l0 N (fun y0 => ks 0 (((), ()), (y0, ()))) k x.1.1 x.1.2.2.2.1 x.2.1.1 x.2.1.2.1 x.2.2.1
noncomputable def spec_l2Neighbors_l0_s (N : Nat) : LSum := ⟨spec_l2Neighbors_l0_sh, spec_l2Neighbors_l0_ex, fun x ks => spec_l2Neighbors_l0_again N ks N x⟩
theorem spec_l2Neighbors_l0_step (N : Nat) (R : Type) (k : Nat) (x : spec_l2Neighbors_l0_sh.T) (ks : (j : Nat) → ((spec_l2Neighbors_l0_ex.getD j (.ret, Sh.none)).2).T → Option R) : spec_l2Neighbors_l0_again N ks (k + 1) x = roundF (spec_l2Neighbors_G N) tab [] (loopAt spec_l2Neighbors_code 0) spec_l2Neighbors_l0_sh spec_l2Neighbors_l0_ex (fun y => spec_l2Neighbors_l0_again N ks k y) ks x := by kernel_rfl
theorem spec_l2Neighbors_l0_ok (N : Nat) : LoopOk Try.prog Try.f156.ntmps (spec_l2Neighbors_l0_s N) (loopAt spec_l2Neighbors_code 0) :=
  loop_ok (l := spec_l2Neighbors_l0_s N) progOk (spec_l2Neighbors_gok N) (draw_ok progOk (spec_l2Neighbors_gok N)) (fun R k x ks => spec_l2Neighbors_l0_again N ks k x) (fun _ _ _ => rfl) (fun R k x ks => spec_l2Neighbors_l0_step N R k x ks) (fun R x ks r h => ⟨N, h⟩) (lsOk_at (L := []) trivial) (by kernel_rfl) (by kernel_rfl)
noncomputable def spec_l2Neighbors (N : Nat) (g : (Int × (List (Int × Int)))) (x : Int) : Option (((List Int) × Unit) × (Unit)) :=
  spec_l2Neighbors_l0 N (fun o => some ((o, ()), ())) N x 0 g.1 g.2 []
abbrev spec_l2Neighbors_ps : List (PV.Mode × Ty) := [(.ro, QILQII), (.ro, I)]
abbrev spec_l2Neighbors_rs : List (Bool × Ty) := [(true, LI)]
noncomputable def spec_l2Neighbors_S (N : Nat) : FSum := ⟨spec_l2Neighbors_ps, spec_l2Neighbors_rs, fun x => spec_l2Neighbors N x.1 x.2.1⟩
theorem spec_l2Neighbors_run (N : Nat) (x : argsT spec_l2Neighbors_ps) : spec_l2Neighbors N x.1 x.2.1 = funF (spec_l2Neighbors_G N) tab [spec_l2Neighbors_l0_s N] Try.f156 spec_l2Neighbors_ps spec_l2Neighbors_rs x := by kernel_rfl
theorem spec_l2Neighbors_pc (N : Nat) : PC Try.prog 156 (spec_l2Neighbors_S N) := by
  have e : spec_l2Neighbors_S N = ⟨spec_l2Neighbors_ps, spec_l2Neighbors_rs, funF (spec_l2Neighbors_G N) tab [spec_l2Neighbors_l0_s N] Try.f156 spec_l2Neighbors_ps spec_l2Neighbors_rs⟩ := congrArg (FSum.mk spec_l2Neighbors_ps spec_l2Neighbors_rs) (funext (spec_l2Neighbors_run N))
  rw [e]
  exact fun_ok (c := spec_l2Neighbors_code) progOk (spec_l2Neighbors_gok N) (draw_ok progOk (spec_l2Neighbors_gok N)) Try.call156 Try.func156 (by kernel_rfl) (lsOk_at (L := [spec_l2Neighbors_l0_s N]) ⟨spec_l2Neighbors_l0_ok N, trivial⟩) (by kernel_rfl) (by kernel_rfl) (by kernel_rfl) (by kernel_rfl) (by kernel_rfl)

/-! ### spec_l1Has -/
noncomputable def spec_l1Has_G (N : Nat) : GTab := gOf []
theorem spec_l1Has_gok (N : Nat) : GOk Try.prog (spec_l1Has_G N) := gOf_ok trivial
noncomputable def spec_l1Has_code : Code := (Try.f89.body).getD .skip
noncomputable def spec_l1Has_l0_sh : Sh := ⟨[(0, .one (.ro LI)), (1, .one (.ro I)), (5, .one (.ro I))], []⟩
noncomputable def spec_l1Has_l0_ex : List (Ex × Sh) := [(.ret, ⟨[(4, .one (.ro .bool))], []⟩), (.exit 0, ⟨[], []⟩)]
noncomputable def spec_l1Has_l0 {R : Type} (N : Nat) (k0 : Bool → Option R) (k1 : Unit → Option R) : Nat → (List Int) → Int → Int → Option R
  | 0, _, _, _ => none
  | K + 1, l1, n1, i =>
    (br (ilt i (tLen l1))
      ((chk (inb l1 i)
        (br (ieq (rdI l1 i) n1)
        (k0 true)
        (spec_l1Has_l0 N k0 k1 K l1 n1 (IntKind.i64.wrap (i + 1))))))
      (k1 ()))
noncomputable def spec_l1Has_l0_again {R : Type} (N : Nat) (ks : (j : Nat) → ((spec_l1Has_l0_ex.getD j (.ret, Sh.none)).2).T → Option R) (k : Nat) (x : spec_l1Has_l0_sh.T) : Option R :=
  spec_l1Has_l0 N (fun y0 => ks 0 ((y0, ()), ())) (fun (_ : Unit) => ks 1 ((), ())) k x.1.1 x.1.2.1 x.1.2.2.1
noncomputable def spec_l1Has_l0_s (N : Nat) : LSum := ⟨spec_l1Has_l0_sh, spec_l1Has_l0_ex, fun x ks => spec_l1Has_l0_again N ks N x⟩
theorem spec_l1Has_l0_step (N : Nat) (R : Type) (k : Nat) (x : spec_l1Has_l0_sh.T) (ks : (j : Nat) → ((spec_l1Has_l0_ex.getD j (.ret, Sh.none)).2).T → Option R) : spec_l1Has_l0_again N ks (k + 1) x = roundF (spec_l1Has_G N) tab [] (loopAt spec_l1Has_code 0) spec_l1Has_l0_sh spec_l1Has_l0_ex (fun y => spec_l1Has_l0_again N ks k y) ks x := by kernel_rfl
theorem spec_l1Has_l0_ok (N : Nat) : LoopOk Try.prog Try.f89.ntmps (spec_l1Has_l0_s N) (loopAt spec_l1Has_code 0) :=
  loop_ok (l := spec_l1Has_l0_s N) progOk (spec_l1Has_gok N) (draw_ok progOk (spec_l1Has_gok N)) (fun R k x ks => spec_l1Has_l0_again N ks k x) (fun _ _ _ => rfl) (fun R k x ks => spec_l1Has_l0_step N R k x ks) (fun R x ks r h => ⟨N, h⟩) (lsOk_at (L := []) trivial) (by kernel_rfl) (by kernel_rfl)
noncomputable def spec_l1Has (N : Nat) (l : (List Int)) (n : Int) : Option ((Bool × Unit) × (Unit)) :=
  spec_l1Has_l0 N (fun x => some ((x, ()), ())) (fun (_ : Unit) => some ((false, ()), ())) N l n 0
abbrev spec_l1Has_ps : List (PV.Mode × Ty) := [(.ro, LI), (.ro, I)]
abbrev spec_l1Has_rs : List (Bool × Ty) := [(true, .bool)]
noncomputable def spec_l1Has_S (N : Nat) : FSum := ⟨spec_l1Has_ps, spec_l1Has_rs, fun x => spec_l1Has N x.1 x.2.1⟩
theorem spec_l1Has_run (N : Nat) (x : argsT spec_l1Has_ps) : spec_l1Has N x.1 x.2.1 = funF (spec_l1Has_G N) tab [spec_l1Has_l0_s N] Try.f89 spec_l1Has_ps spec_l1Has_rs x := by kernel_rfl
theorem spec_l1Has_pc (N : Nat) : PC Try.prog 89 (spec_l1Has_S N) := by
  have e : spec_l1Has_S N = ⟨spec_l1Has_ps, spec_l1Has_rs, funF (spec_l1Has_G N) tab [spec_l1Has_l0_s N] Try.f89 spec_l1Has_ps spec_l1Has_rs⟩ := congrArg (FSum.mk spec_l1Has_ps spec_l1Has_rs) (funext (spec_l1Has_run N))
  rw [e]
  exact fun_ok (c := spec_l1Has_code) progOk (spec_l1Has_gok N) (draw_ok progOk (spec_l1Has_gok N)) Try.call89 Try.func89 (by kernel_rfl) (lsOk_at (L := [spec_l1Has_l0_s N]) ⟨spec_l1Has_l0_ok N, trivial⟩) (by kernel_rfl) (by kernel_rfl) (by kernel_rfl) (by kernel_rfl) (by kernel_rfl)

/-! ### spec_l3Only -/
noncomputable def spec_l3Only_G (N : Nat) : GTab := gOf [(89, spec_l1Has_S N)]
theorem spec_l3Only_gok (N : Nat) : GOk Try.prog (spec_l3Only_G N) := gOf_ok ⟨spec_l1Has_pc N, trivial⟩
noncomputable def spec_l3Only_code : Code := (Try.f147.body).getD .skip
noncomputable def spec_l3Only_l0_sh : Sh := ⟨[(0, .one (.ro LI)), (1, .one (.ro LI)), (5, .one (.ref 0)), (6, .one (.ro I))], [.sl 3 I .own]⟩
noncomputable def spec_l3Only_l0_ex : List (Ex × Sh) := [(.exit 0, ⟨[(5, .one (.ref 0))], [.sl 3 I .own]⟩)]
noncomputable def spec_l3Only_l0 {R : Type} (N : Nat) (k0 : (List Int) → Option R) : Nat → (List Int) → (List Int) → Int → (List Int) → Option R
  | 0, _, _, _, _ => none
  | K + 1, a1, b1, i, o =>
    (br (ilt i (tLen a1))
      ((chk (inb a1 i)
        ((spec_l1Has N b1 (rdI a1 i)).bind fun r =>
        (br (!r.1.1)
          ((chk (inb a1 i)
            (chk (room o [(rdI a1 i)])
            (spec_l3Only_l0 N k0 K a1 b1 (IntKind.i64.wrap (i + 1)) (tApp o [(rdI a1 i)])))))
          (spec_l3Only_l0 N k0 K a1 b1 (IntKind.i64.wrap (i + 1)) o)))))
      (k0 o))
noncomputable def spec_l3Only_l0_again {R : Type} (N : Nat) (ks : (j : Nat) → ((spec_l3Only_l0_ex.getD j (.ret, Sh.none)).2).T → Option R) (k : Nat) (x : spec_l3Only_l0_sh.T) : Option R :=
  spec_l3Only_l0 N (fun y0 => ks 0 (((), ()), (y0, ()))) k x.1.1 x.1.2.1 x.1.2.2.2.1 x.2.1
noncomputable def spec_l3Only_l0_s (N : Nat) : LSum := ⟨spec_l3Only_l0_sh, spec_l3Only_l0_ex, fun x ks => spec_l3Only_l0_again N ks N x⟩
theorem spec_l3Only_l0_step (N : Nat) (R : Type) (k : Nat) (x : spec_l3Only_l0_sh.T) (ks : (j : Nat) → ((spec_l3Only_l0_ex.getD j (.ret, Sh.none)).2).T → Option R) : spec_l3Only_l0_again N ks (k + 1) x = roundF (spec_l3Only_G N) tab [] (loopAt spec_l3Only_code 0) spec_l3Only_l0_sh spec_l3Only_l0_ex (fun y => spec_l3Only_l0_again N ks k y) ks x := by kernel_rfl
theorem spec_l3Only_l0_ok (N : Nat) : LoopOk Try.prog Try.f147.ntmps (spec_l3Only_l0_s N) (loopAt spec_l3Only_code 0) :=
  loop_ok (l := spec_l3Only_l0_s N) progOk (spec_l3Only_gok N) (draw_ok progOk (spec_l3Only_gok N)) (fun R k x ks => spec_l3Only_l0_again N ks k x) (fun _ _ _ => rfl) (fun R k x ks => spec_l3Only_l0_step N R k x ks) (fun R x ks r h => ⟨N, h⟩) (lsOk_at (L := []) trivial) (by kernel_rfl) (by kernel_rfl)
noncomputable def spec_l3Only (N : Nat) (a : (List Int)) (b : (List Int)) : Option (((List Int) × Unit) × (Unit)) :=
  spec_l3Only_l0 N (fun o => some ((o, ()), ())) N a b 0 []
abbrev spec_l3Only_ps : List (PV.Mode × Ty) := [(.ro, LI), (.ro, LI)]
abbrev spec_l3Only_rs : List (Bool × Ty) := [(true, LI)]
noncomputable def spec_l3Only_S (N : Nat) : FSum := ⟨spec_l3Only_ps, spec_l3Only_rs, fun x => spec_l3Only N x.1 x.2.1⟩
theorem spec_l3Only_run (N : Nat) (x : argsT spec_l3Only_ps) : spec_l3Only N x.1 x.2.1 = funF (spec_l3Only_G N) tab [spec_l3Only_l0_s N] Try.f147 spec_l3Only_ps spec_l3Only_rs x := by kernel_rfl
theorem spec_l3Only_pc (N : Nat) : PC Try.prog 147 (spec_l3Only_S N) := by
  have e : spec_l3Only_S N = ⟨spec_l3Only_ps, spec_l3Only_rs, funF (spec_l3Only_G N) tab [spec_l3Only_l0_s N] Try.f147 spec_l3Only_ps spec_l3Only_rs⟩ := congrArg (FSum.mk spec_l3Only_ps spec_l3Only_rs) (funext (spec_l3Only_run N))
  rw [e]
  exact fun_ok (c := spec_l3Only_code) progOk (spec_l3Only_gok N) (draw_ok progOk (spec_l3Only_gok N)) Try.call147 Try.func147 (by kernel_rfl) (lsOk_at (L := [spec_l3Only_l0_s N]) ⟨spec_l3Only_l0_ok N, trivial⟩) (by kernel_rfl) (by kernel_rfl) (by kernel_rfl) (by kernel_rfl) (by kernel_rfl)

/-! ### spec_l1Most -/
noncomputable def spec_l1Most_G (N : Nat) : GTab := gOf []
theorem spec_l1Most_gok (N : Nat) : GOk Try.prog (spec_l1Most_G N) := gOf_ok trivial
noncomputable def spec_l1Most_code : Code := (Try.f114.body).getD .skip
noncomputable def spec_l1Most (N : Nat) (a : Int) (b : Int) : Option ((Int × Unit) × (Unit)) :=
  (br (ilt b a)
    (some ((a, ()), ()))
    (some ((b, ()), ())))
abbrev spec_l1Most_ps : List (PV.Mode × Ty) := [(.ro, I), (.ro, I)]
abbrev spec_l1Most_rs : List (Bool × Ty) := [(true, I)]
noncomputable def spec_l1Most_S (N : Nat) : FSum := ⟨spec_l1Most_ps, spec_l1Most_rs, fun x => spec_l1Most N x.1 x.2.1⟩
theorem spec_l1Most_run (N : Nat) (x : argsT spec_l1Most_ps) : spec_l1Most N x.1 x.2.1 = funF (spec_l1Most_G N) tab [] Try.f114 spec_l1Most_ps spec_l1Most_rs x := by kernel_rfl
theorem spec_l1Most_pc (N : Nat) : PC Try.prog 114 (spec_l1Most_S N) := by
  have e : spec_l1Most_S N = ⟨spec_l1Most_ps, spec_l1Most_rs, funF (spec_l1Most_G N) tab [] Try.f114 spec_l1Most_ps spec_l1Most_rs⟩ := congrArg (FSum.mk spec_l1Most_ps spec_l1Most_rs) (funext (spec_l1Most_run N))
  rw [e]
  exact fun_ok (c := spec_l1Most_code) progOk (spec_l1Most_gok N) (draw_ok progOk (spec_l1Most_gok N)) Try.call114 Try.func114 (by kernel_rfl) (lsOk_at (L := []) trivial) (by kernel_rfl) (by kernel_rfl) (by kernel_rfl) (by kernel_rfl) (by kernel_rfl)

/-! ### spec_l5Peeling -/
noncomputable def spec_l5Peeling_G (N : Nat) : GTab := gOf [(156, spec_l2Neighbors_S N), (147, spec_l3Only_S N), (89, spec_l1Has_S N), (114, spec_l1Most_S N)]
theorem spec_l5Peeling_gok (N : Nat) : GOk Try.prog (spec_l5Peeling_G N) := gOf_ok ⟨spec_l2Neighbors_pc N, spec_l3Only_pc N, spec_l1Has_pc N, spec_l1Most_pc N, trivial⟩
noncomputable def spec_l5Peeling_code : Code := (Try.f103.body).getD .skip
noncomputable def spec_l5Peeling_l0_0_sh : Sh := ⟨[(1, .one (.adr 0 0)), (4, .one (.ref 1)), (5, .one (.ro I)), (6, .one (.ro I)), (7, .one (.ro I)), (8, .one (.ro I))], [.box [.ro I, .ro LQII], .sl 3 I .own]⟩
noncomputable def spec_l5Peeling_l0_0_ex : List (Ex × Sh) := [(.exit 2, ⟨[(1, .one (.adr 0 0)), (4, .one (.ref 1)), (5, .one (.ro I)), (6, .one (.ro I)), (7, .one (.ro I))], [.box [.ro I, .ro LQII], .sl 3 I .own]⟩)]
noncomputable def spec_l5Peeling_l0_0 {R : Type} (N : Nat) (k0 : Int → Int → Int → Int → (List (Int × Int)) → (List Int) → Option R) : Nat → Int → Int → Int → Int → Int → (List (Int × Int)) → (List Int) → Option R
  | 0, _, _, _, _, _, _, _ => none
  | K + 1, most1, best, few, x, o3, o4, o5 =>
    (br (ilt x o3)
      (((spec_l2Neighbors N (o3, o4) x).bind fun r =>
        ((spec_l3Only N r.1.1 o5).bind fun r1 =>
          ((spec_l1Has N o5 x).bind fun r2 =>
            (br (!r2.1.1)
              ((br (ilt best 0)
                (spec_l5Peeling_l0_0 N k0 K most1 x (tLen r1.1.1) (IntKind.i64.wrap (x + 1)) o3 o4 o5)
                ((br (ilt (tLen r1.1.1) few)
                  (spec_l5Peeling_l0_0 N k0 K most1 x (tLen r1.1.1) (IntKind.i64.wrap (x + 1)) o3 o4 o5)
                  (spec_l5Peeling_l0_0 N k0 K most1 best few (IntKind.i64.wrap (x + 1)) o3 o4 o5)))))
              (spec_l5Peeling_l0_0 N k0 K most1 best few (IntKind.i64.wrap (x + 1)) o3 o4 o5))))))
      (k0 most1 best few o3 o4 o5))
noncomputable def spec_l5Peeling_l0_0_again {R : Type} (N : Nat) (ks : (j : Nat) → ((spec_l5Peeling_l0_0_ex.getD j (.ret, Sh.none)).2).T → Option R) (k : Nat) (x : spec_l5Peeling_l0_0_sh.T) : Option R :=
  spec_l5Peeling_l0_0 N (fun y0 y1 y2 y3 y4 y5 => ks 0 (((), (), y0, y1, y2, ()), ((y3, y4, ()), y5, ()))) k x.1.2.2.1 x.1.2.2.2.1 x.1.2.2.2.2.1 x.1.2.2.2.2.2.1 x.2.1.1 x.2.1.2.1 x.2.2.1
noncomputable def spec_l5Peeling_l0_0_s (N : Nat) : LSum := ⟨spec_l5Peeling_l0_0_sh, spec_l5Peeling_l0_0_ex, fun x ks => spec_l5Peeling_l0_0_again N ks N x⟩
theorem spec_l5Peeling_l0_0_step (N : Nat) (R : Type) (k : Nat) (x : spec_l5Peeling_l0_0_sh.T) (ks : (j : Nat) → ((spec_l5Peeling_l0_0_ex.getD j (.ret, Sh.none)).2).T → Option R) : spec_l5Peeling_l0_0_again N ks (k + 1) x = roundF (spec_l5Peeling_G N) tab [] (loopAt (loopAt spec_l5Peeling_code 0) 0) spec_l5Peeling_l0_0_sh spec_l5Peeling_l0_0_ex (fun y => spec_l5Peeling_l0_0_again N ks k y) ks x := by kernel_rfl
theorem spec_l5Peeling_l0_0_ok (N : Nat) : LoopOk Try.prog Try.f103.ntmps (spec_l5Peeling_l0_0_s N) (loopAt (loopAt spec_l5Peeling_code 0) 0) :=
  loop_ok (l := spec_l5Peeling_l0_0_s N) progOk (spec_l5Peeling_gok N) (draw_ok progOk (spec_l5Peeling_gok N)) (fun R k x ks => spec_l5Peeling_l0_0_again N ks k x) (fun _ _ _ => rfl) (fun R k x ks => spec_l5Peeling_l0_0_step N R k x ks) (fun R x ks r h => ⟨N, h⟩) (lsOk_at (L := []) trivial) (by kernel_rfl) (by kernel_rfl)
noncomputable def spec_l5Peeling_l0_sh : Sh := ⟨[(1, .one (.adr 0 0)), (4, .one (.ref 1)), (5, .one (.ro I))], [.box [.ro I, .ro LQII], .sl 3 I .own]⟩
noncomputable def spec_l5Peeling_l0_ex : List (Ex × Sh) := [(.exit 0, ⟨[(4, .one (.ref 0)), (5, .one (.ro I))], [.sl 3 I .own]⟩)]
noncomputable def spec_l5Peeling_l0 {R : Type} (N : Nat) (k0 : Int → (List Int) → Option R) : Nat → Int → Int → (List (Int × Int)) → (List Int) → Option R
  | 0, _, _, _, _ => none
  | K + 1, most, o, o1, o2 =>
    (br (ilt (tLen o2) o)
      (spec_l5Peeling_l0_0 N (fun most1 best few o3 o4 o5 => (chk (room o5 [best])
        ((spec_l1Most N most1 few).bind fun r =>
        spec_l5Peeling_l0 N k0 K r.1.1 o3 o4 (tApp o5 [best])))) N most (-1) 0 0 o o1 o2)
      (k0 most o2))
noncomputable def spec_l5Peeling_l0_again {R : Type} (N : Nat) (ks : (j : Nat) → ((spec_l5Peeling_l0_ex.getD j (.ret, Sh.none)).2).T → Option R) (k : Nat) (x : spec_l5Peeling_l0_sh.T) : Option R :=
  spec_l5Peeling_l0 N (fun y0 y1 => ks 0 (((), y0, ()), (y1, ()))) k x.1.2.2.1 x.2.1.1 x.2.1.2.1 x.2.2.1
noncomputable def spec_l5Peeling_l0_s (N : Nat) : LSum := ⟨spec_l5Peeling_l0_sh, spec_l5Peeling_l0_ex, fun x ks => spec_l5Peeling_l0_again N ks N x⟩
theorem spec_l5Peeling_l0_step (N : Nat) (R : Type) (k : Nat) (x : spec_l5Peeling_l0_sh.T) (ks : (j : Nat) → ((spec_l5Peeling_l0_ex.getD j (.ret, Sh.none)).2).T → Option R) : spec_l5Peeling_l0_again N ks (k + 1) x = roundF (spec_l5Peeling_G N) tab [spec_l5Peeling_l0_0_s N] (loopAt spec_l5Peeling_code 0) spec_l5Peeling_l0_sh spec_l5Peeling_l0_ex (fun y => spec_l5Peeling_l0_again N ks k y) ks x := by kernel_rfl
theorem spec_l5Peeling_l0_ok (N : Nat) : LoopOk Try.prog Try.f103.ntmps (spec_l5Peeling_l0_s N) (loopAt spec_l5Peeling_code 0) :=
  loop_ok (l := spec_l5Peeling_l0_s N) progOk (spec_l5Peeling_gok N) (draw_ok progOk (spec_l5Peeling_gok N)) (fun R k x ks => spec_l5Peeling_l0_again N ks k x) (fun _ _ _ => rfl) (fun R k x ks => spec_l5Peeling_l0_step N R k x ks) (fun R x ks r h => ⟨N, h⟩) (lsOk_at (L := [spec_l5Peeling_l0_0_s N]) ⟨spec_l5Peeling_l0_0_ok N, trivial⟩) (by kernel_rfl) (by kernel_rfl)
noncomputable def spec_l5Peeling (N : Nat) (g : (Int × (List (Int × Int)))) : Option (((List Int) × Int × Unit) × (Unit)) :=
  spec_l5Peeling_l0 N (fun most o => some ((o, most, ()), ())) N (-1) g.1 g.2 []
abbrev spec_l5Peeling_ps : List (PV.Mode × Ty) := [(.ro, QILQII)]
abbrev spec_l5Peeling_rs : List (Bool × Ty) := [(true, LI), (true, I)]
noncomputable def spec_l5Peeling_S (N : Nat) : FSum := ⟨spec_l5Peeling_ps, spec_l5Peeling_rs, fun x => spec_l5Peeling N x.1⟩
theorem spec_l5Peeling_run (N : Nat) (x : argsT spec_l5Peeling_ps) : spec_l5Peeling N x.1 = funF (spec_l5Peeling_G N) tab [spec_l5Peeling_l0_s N] Try.f103 spec_l5Peeling_ps spec_l5Peeling_rs x := by kernel_rfl
theorem spec_l5Peeling_pc (N : Nat) : PC Try.prog 103 (spec_l5Peeling_S N) := by
  have e : spec_l5Peeling_S N = ⟨spec_l5Peeling_ps, spec_l5Peeling_rs, funF (spec_l5Peeling_G N) tab [spec_l5Peeling_l0_s N] Try.f103 spec_l5Peeling_ps spec_l5Peeling_rs⟩ := congrArg (FSum.mk spec_l5Peeling_ps spec_l5Peeling_rs) (funext (spec_l5Peeling_run N))
  rw [e]
  exact fun_ok (c := spec_l5Peeling_code) progOk (spec_l5Peeling_gok N) (draw_ok progOk (spec_l5Peeling_gok N)) Try.call103 Try.func103 (by kernel_rfl) (lsOk_at (L := [spec_l5Peeling_l0_s N]) ⟨spec_l5Peeling_l0_ok N, trivial⟩) (by kernel_rfl) (by kernel_rfl) (by kernel_rfl) (by kernel_rfl) (by kernel_rfl)

/-! ### spec_PeelingOf -/
noncomputable def spec_PeelingOf_G (N : Nat) : GTab := gOf [(102, spec_l2Good_S N), (103, spec_l5Peeling_S N)]
theorem spec_PeelingOf_gok (N : Nat) : GOk Try.prog (spec_PeelingOf_G N) := gOf_ok ⟨spec_l2Good_pc N, spec_l5Peeling_pc N, trivial⟩
noncomputable def spec_PeelingOf_code : Code := (Try.f48.body).getD .skip
noncomputable def spec_PeelingOf (N : Nat) (g : (Int × (List (Int × Int)))) : Option (((List Int) × Int × Bool × Unit) × (Unit)) :=
  ((spec_l2Good N (g.1, g.2)).bind fun r =>
    (br (!r.1.1)
      (some (([], 0, false, ()), ()))
      (((spec_l5Peeling N (g.1, g.2)).bind fun r1 =>
        some ((r1.1.1, r1.1.2.1, true, ()), ())))))
abbrev spec_PeelingOf_ps : List (PV.Mode × Ty) := [(.ro, QILQII)]
abbrev spec_PeelingOf_rs : List (Bool × Ty) := [(true, LI), (true, I), (true, .bool)]
noncomputable def spec_PeelingOf_S (N : Nat) : FSum := ⟨spec_PeelingOf_ps, spec_PeelingOf_rs, fun x => spec_PeelingOf N x.1⟩
theorem spec_PeelingOf_run (N : Nat) (x : argsT spec_PeelingOf_ps) : spec_PeelingOf N x.1 = funF (spec_PeelingOf_G N) tab [] Try.f48 spec_PeelingOf_ps spec_PeelingOf_rs x := by kernel_rfl
theorem spec_PeelingOf_pc (N : Nat) : PC Try.prog 48 (spec_PeelingOf_S N) := by
  have e : spec_PeelingOf_S N = ⟨spec_PeelingOf_ps, spec_PeelingOf_rs, funF (spec_PeelingOf_G N) tab [] Try.f48 spec_PeelingOf_ps spec_PeelingOf_rs⟩ := congrArg (FSum.mk spec_PeelingOf_ps spec_PeelingOf_rs) (funext (spec_PeelingOf_run N))
  rw [e]
  exact fun_ok (c := spec_PeelingOf_code) progOk (spec_PeelingOf_gok N) (draw_ok progOk (spec_PeelingOf_gok N)) Try.call48 Try.func48 (by kernel_rfl) (lsOk_at (L := []) trivial) (by kernel_rfl) (by kernel_rfl) (by kernel_rfl) (by kernel_rfl) (by kernel_rfl)

/-! ### impl_between -/
noncomputable def impl_between_G (N : Nat) : GTab := gOf []
theorem impl_between_gok (N : Nat) : GOk Try.prog (impl_between_G N) := gOf_ok trivial
noncomputable def impl_between_code : Code := (Try.f64.body).getD .skip
noncomputable def impl_between (N : Nat) (n : Int) (low : Int) (high : Int) : Option ((Bool × Unit) × (Unit)) :=
  (br (ile low n)
    (some (((ile n high), ()), ()))
    (some ((false, ()), ())))
abbrev impl_between_ps : List (PV.Mode × Ty) := [(.ro, I), (.ro, I), (.ro, I)]
abbrev impl_between_rs : List (Bool × Ty) := [(true, .bool)]
noncomputable def impl_between_S (N : Nat) : FSum := ⟨impl_between_ps, impl_between_rs, fun x => impl_between N x.1 x.2.1 x.2.2.1⟩
theorem impl_between_run (N : Nat) (x : argsT impl_between_ps) : impl_between N x.1 x.2.1 x.2.2.1 = funF (impl_between_G N) tab [] Try.f64 impl_between_ps impl_between_rs x := by kernel_rfl
theorem impl_between_pc (N : Nat) : PC Try.prog 64 (impl_between_S N) := by
  have e : impl_between_S N = ⟨impl_between_ps, impl_between_rs, funF (impl_between_G N) tab [] Try.f64 impl_between_ps impl_between_rs⟩ := congrArg (FSum.mk impl_between_ps impl_between_rs) (funext (impl_between_run N))
  rw [e]
  exact fun_ok (c := impl_between_code) progOk (impl_between_gok N) (draw_ok progOk (impl_between_gok N)) Try.call64 Try.func64 (by kernel_rfl) (lsOk_at (L := []) trivial) (by kernel_rfl) (by kernel_rfl) (by kernel_rfl) (by kernel_rfl) (by kernel_rfl)

/-! ### cmp_isNaN_int -/
noncomputable def cmp_isNaN_int_G (N : Nat) : GTab := gOf []
theorem cmp_isNaN_int_gok (N : Nat) : GOk Try.prog (cmp_isNaN_int_G N) := gOf_ok trivial
noncomputable def cmp_isNaN_int_code : Code := (Try.f200.body).getD .skip
noncomputable def cmp_isNaN_int (N : Nat) (x : Int) : Option ((Bool × Unit) × (Unit)) :=
  some (((ine x x), ()), ())
abbrev cmp_isNaN_int_ps : List (PV.Mode × Ty) := [(.ro, I)]
abbrev cmp_isNaN_int_rs : List (Bool × Ty) := [(true, .bool)]
noncomputable def cmp_isNaN_int_S (N : Nat) : FSum := ⟨cmp_isNaN_int_ps, cmp_isNaN_int_rs, fun x => cmp_isNaN_int N x.1⟩
theorem cmp_isNaN_int_run (N : Nat) (x : argsT cmp_isNaN_int_ps) : cmp_isNaN_int N x.1 = funF (cmp_isNaN_int_G N) tab [] Try.f200 cmp_isNaN_int_ps cmp_isNaN_int_rs x := by kernel_rfl
theorem cmp_isNaN_int_pc (N : Nat) : PC Try.prog 200 (cmp_isNaN_int_S N) := by
  have e : cmp_isNaN_int_S N = ⟨cmp_isNaN_int_ps, cmp_isNaN_int_rs, funF (cmp_isNaN_int_G N) tab [] Try.f200 cmp_isNaN_int_ps cmp_isNaN_int_rs⟩ := congrArg (FSum.mk cmp_isNaN_int_ps cmp_isNaN_int_rs) (funext (cmp_isNaN_int_run N))
  rw [e]
  exact fun_ok (c := cmp_isNaN_int_code) progOk (cmp_isNaN_int_gok N) (draw_ok progOk (cmp_isNaN_int_gok N)) Try.call200 Try.func200 (by kernel_rfl) (lsOk_at (L := []) trivial) (by kernel_rfl) (by kernel_rfl) (by kernel_rfl) (by kernel_rfl) (by kernel_rfl)

/-! ### cmp_Compare_int -/
noncomputable def cmp_Compare_int_G (N : Nat) : GTab := gOf [(200, cmp_isNaN_int_S N)]
theorem cmp_Compare_int_gok (N : Nat) : GOk Try.prog (cmp_Compare_int_G N) := gOf_ok ⟨cmp_isNaN_int_pc N, trivial⟩
noncomputable def cmp_Compare_int_code : Code := (Try.f192.body).getD .skip
noncomputable def cmp_Compare_int (N : Nat) (x : Int) (y : Int) : Option ((Int × Unit) × (Unit)) :=
  ((cmp_isNaN_int N x).bind fun r =>
    ((cmp_isNaN_int N y).bind fun r1 =>
      (br r.1.1
        ((br r1.1.1
          (some ((0, ()), ()))
          (some (((-1), ()), ()))))
        ((br r1.1.1
          (some ((1, ()), ()))
          ((br (ilt x y)
            (some (((-1), ()), ()))
            ((br (ilt y x)
              (some ((1, ()), ()))
              (some ((0, ()), ())))))))))))
abbrev cmp_Compare_int_ps : List (PV.Mode × Ty) := [(.ro, I), (.ro, I)]
abbrev cmp_Compare_int_rs : List (Bool × Ty) := [(true, I)]
noncomputable def cmp_Compare_int_S (N : Nat) : FSum := ⟨cmp_Compare_int_ps, cmp_Compare_int_rs, fun x => cmp_Compare_int N x.1 x.2.1⟩
theorem cmp_Compare_int_run (N : Nat) (x : argsT cmp_Compare_int_ps) : cmp_Compare_int N x.1 x.2.1 = funF (cmp_Compare_int_G N) tab [] Try.f192 cmp_Compare_int_ps cmp_Compare_int_rs x := by kernel_rfl
theorem cmp_Compare_int_pc (N : Nat) : PC Try.prog 192 (cmp_Compare_int_S N) := by
  have e : cmp_Compare_int_S N = ⟨cmp_Compare_int_ps, cmp_Compare_int_rs, funF (cmp_Compare_int_G N) tab [] Try.f192 cmp_Compare_int_ps cmp_Compare_int_rs⟩ := congrArg (FSum.mk cmp_Compare_int_ps cmp_Compare_int_rs) (funext (cmp_Compare_int_run N))
  rw [e]
  exact fun_ok (c := cmp_Compare_int_code) progOk (cmp_Compare_int_gok N) (draw_ok progOk (cmp_Compare_int_gok N)) Try.call192 Try.func192 (by kernel_rfl) (lsOk_at (L := []) trivial) (by kernel_rfl) (by kernel_rfl) (by kernel_rfl) (by kernel_rfl) (by kernel_rfl)

/-! ### cmp_Or_int -/
noncomputable def cmp_Or_int_G (N : Nat) : GTab := gOf []
theorem cmp_Or_int_gok (N : Nat) : GOk Try.prog (cmp_Or_int_G N) := gOf_ok trivial
noncomputable def cmp_Or_int_code : Code := (Try.f191.body).getD .skip
noncomputable def cmp_Or_int_l0_sh : Sh := ⟨[(3, .one (.ro I)), (6, .one (.ro LI)), (7, .one (.ro I)), (8, .one (.ro I))], []⟩
noncomputable def cmp_Or_int_l0_ex : List (Ex × Sh) := [(.ret, ⟨[(2, .one (.ro I))], []⟩), (.exit 0, ⟨[(3, .one (.ro I))], []⟩)]
noncomputable def cmp_Or_int_l0 {R : Type} (N : Nat) (k0 : Int → Option R) (k1 : Int → Option R) : Nat → Int → (List Int) → Int → Int → Option R
  | 0, _, _, _, _ => none
  | K + 1, zero, x, x1, x2 =>
    (br (ilt x2 x1)
      ((chk (inb x x2)
        (br (ine (rdI x x2) zero)
        (k0 (rdI x x2))
        (cmp_Or_int_l0 N k0 k1 K zero x x1 (IntKind.i64.wrap (x2 + 1))))))
      (k1 zero))
noncomputable def cmp_Or_int_l0_again {R : Type} (N : Nat) (ks : (j : Nat) → ((cmp_Or_int_l0_ex.getD j (.ret, Sh.none)).2).T → Option R) (k : Nat) (x : cmp_Or_int_l0_sh.T) : Option R :=
  cmp_Or_int_l0 N (fun y0 => ks 0 ((y0, ()), ())) (fun y0 => ks 1 ((y0, ()), ())) k x.1.1 x.1.2.1 x.1.2.2.1 x.1.2.2.2.1
noncomputable def cmp_Or_int_l0_s (N : Nat) : LSum := ⟨cmp_Or_int_l0_sh, cmp_Or_int_l0_ex, fun x ks => cmp_Or_int_l0_again N ks N x⟩
theorem cmp_Or_int_l0_step (N : Nat) (R : Type) (k : Nat) (x : cmp_Or_int_l0_sh.T) (ks : (j : Nat) → ((cmp_Or_int_l0_ex.getD j (.ret, Sh.none)).2).T → Option R) : cmp_Or_int_l0_again N ks (k + 1) x = roundF (cmp_Or_int_G N) tab [] (loopAt cmp_Or_int_code 0) cmp_Or_int_l0_sh cmp_Or_int_l0_ex (fun y => cmp_Or_int_l0_again N ks k y) ks x := by kernel_rfl
theorem cmp_Or_int_l0_ok (N : Nat) : LoopOk Try.prog Try.f191.ntmps (cmp_Or_int_l0_s N) (loopAt cmp_Or_int_code 0) :=
  loop_ok (l := cmp_Or_int_l0_s N) progOk (cmp_Or_int_gok N) (draw_ok progOk (cmp_Or_int_gok N)) (fun R k x ks => cmp_Or_int_l0_again N ks k x) (fun _ _ _ => rfl) (fun R k x ks => cmp_Or_int_l0_step N R k x ks) (fun R x ks r h => ⟨N, h⟩) (lsOk_at (L := []) trivial) (by kernel_rfl) (by kernel_rfl)
noncomputable def cmp_Or_int (N : Nat) (vals : (List Int)) : Option ((Int × Unit) × (Unit)) :=
  cmp_Or_int_l0 N (fun x => some ((x, ()), ())) (fun zero => some ((zero, ()), ())) N 0 vals (tLen vals) 0
abbrev cmp_Or_int_ps : List (PV.Mode × Ty) := [(.ro, LI)]
abbrev cmp_Or_int_rs : List (Bool × Ty) := [(true, I)]
noncomputable def cmp_Or_int_S (N : Nat) : FSum := ⟨cmp_Or_int_ps, cmp_Or_int_rs, fun x => cmp_Or_int N x.1⟩
theorem cmp_Or_int_run (N : Nat) (x : argsT cmp_Or_int_ps) : cmp_Or_int N x.1 = funF (cmp_Or_int_G N) tab [cmp_Or_int_l0_s N] Try.f191 cmp_Or_int_ps cmp_Or_int_rs x := by kernel_rfl
theorem cmp_Or_int_pc (N : Nat) : PC Try.prog 191 (cmp_Or_int_S N) := by
  have e : cmp_Or_int_S N = ⟨cmp_Or_int_ps, cmp_Or_int_rs, funF (cmp_Or_int_G N) tab [cmp_Or_int_l0_s N] Try.f191 cmp_Or_int_ps cmp_Or_int_rs⟩ := congrArg (FSum.mk cmp_Or_int_ps cmp_Or_int_rs) (funext (cmp_Or_int_run N))
  rw [e]
  exact fun_ok (c := cmp_Or_int_code) progOk (cmp_Or_int_gok N) (draw_ok progOk (cmp_Or_int_gok N)) Try.call191 Try.func191 (by kernel_rfl) (lsOk_at (L := [cmp_Or_int_l0_s N]) ⟨cmp_Or_int_l0_ok N, trivial⟩) (by kernel_rfl) (by kernel_rfl) (by kernel_rfl) (by kernel_rfl) (by kernel_rfl)

/-! ### impl_comparePairs -/
noncomputable def impl_comparePairs_G (N : Nat) : GTab := gOf [(192, cmp_Compare_int_S N), (191, cmp_Or_int_S N)]
theorem impl_comparePairs_gok (N : Nat) : GOk Try.prog (impl_comparePairs_G N) := gOf_ok ⟨cmp_Compare_int_pc N, cmp_Or_int_pc N, trivial⟩
noncomputable def impl_comparePairs_code : Code := (Try.f167.body).getD .skip
noncomputable def impl_comparePairs (N : Nat) (a : (Int × Int)) (b : (Int × Int)) : Option ((Int × Unit) × (Unit)) :=
  ((cmp_Compare_int N a.1 b.1).bind fun r =>
    ((cmp_Compare_int N a.2 b.2).bind fun r1 =>
      ((cmp_Or_int N [r.1.1, r1.1.1]).bind fun r2 =>
        some ((r2.1.1, ()), ()))))
abbrev impl_comparePairs_ps : List (PV.Mode × Ty) := [(.ro, QII), (.ro, QII)]
abbrev impl_comparePairs_rs : List (Bool × Ty) := [(true, I)]
noncomputable def impl_comparePairs_S (N : Nat) : FSum := ⟨impl_comparePairs_ps, impl_comparePairs_rs, fun x => impl_comparePairs N x.1 x.2.1⟩
theorem impl_comparePairs_run (N : Nat) (x : argsT impl_comparePairs_ps) : impl_comparePairs N x.1 x.2.1 = funF (impl_comparePairs_G N) tab [] Try.f167 impl_comparePairs_ps impl_comparePairs_rs x := by kernel_rfl
theorem impl_comparePairs_pc (N : Nat) : PC Try.prog 167 (impl_comparePairs_S N) := by
  have e : impl_comparePairs_S N = ⟨impl_comparePairs_ps, impl_comparePairs_rs, funF (impl_comparePairs_G N) tab [] Try.f167 impl_comparePairs_ps impl_comparePairs_rs⟩ := congrArg (FSum.mk impl_comparePairs_ps impl_comparePairs_rs) (funext (impl_comparePairs_run N))
  rw [e]
  exact fun_ok (c := impl_comparePairs_code) progOk (impl_comparePairs_gok N) (draw_ok progOk (impl_comparePairs_gok N)) Try.call167 Try.func167 (by kernel_rfl) (lsOk_at (L := []) trivial) (by kernel_rfl) (by kernel_rfl) (by kernel_rfl) (by kernel_rfl) (by kernel_rfl)

/-! ### impl_isPairs -/
noncomputable def impl_isPairs_G (N : Nat) : GTab := gOf [(167, impl_comparePairs_S N)]
theorem impl_isPairs_gok (N : Nat) : GOk Try.prog (impl_isPairs_G N) := gOf_ok ⟨impl_comparePairs_pc N, trivial⟩
noncomputable def impl_isPairs_code : Code := (Try.f144.body).getD .skip
noncomputable def impl_isPairs_l0_sh : Sh := ⟨[(0, .one (.ro LQII)), (1, .one (.ro I)), (7, .one (.ro LQII)), (8, .one (.ro I)), (9, .one (.ro I))], []⟩
noncomputable def impl_isPairs_l0_ex : List (Ex × Sh) := [(.ret, ⟨[(4, .one (.ro .bool))], []⟩), (.exit 0, ⟨[], []⟩)]
noncomputable def impl_isPairs_l0 {R : Type} (N : Nat) (k0 : Bool → Option R) (k1 : Unit → Option R) : Nat → (List (Int × Int)) → Int → (List (Int × Int)) → Int → Int → Option R
  | 0, _, _, _, _, _ => none
  | K + 1, list1, below1, x, x1, x2 =>
    (br (ilt x2 x1)
      ((chk (inb x x2)
        (br (ilt ((rdP x x2).1) 0)
        (k0 false)
        ((br (ile ((rdP x x2).2) ((rdP x x2).1))
          (k0 false)
          ((br (ile below1 ((rdP x x2).2))
            (k0 false)
            ((br (ilt 0 x2)
              ((chk (inb list1 (IntKind.i64.wrap (x2 - 1)))
                ((impl_comparePairs N (rdP list1 (IntKind.i64.wrap (x2 - 1))) ((rdP x x2).1, (rdP x x2).2)).bind fun r =>
                (br (ile 0 r.1.1)
                  (k0 false)
                  (impl_isPairs_l0 N k0 k1 K list1 below1 x x1 (IntKind.i64.wrap (x2 + 1)))))))
              (impl_isPairs_l0 N k0 k1 K list1 below1 x x1 (IntKind.i64.wrap (x2 + 1))))))))))))
      (k1 ()))
noncomputable def impl_isPairs_l0_again {R : Type} (N : Nat) (ks : (j : Nat) → ((impl_isPairs_l0_ex.getD j (.ret, Sh.none)).2).T → Option R) (k : Nat) (x : impl_isPairs_l0_sh.T) : Option R :=
  impl_isPairs_l0 N (fun y0 => ks 0 ((y0, ()), ())) (fun (_ : Unit) => ks 1 ((), ())) k x.1.1 x.1.2.1 x.1.2.2.1 x.1.2.2.2.1 x.1.2.2.2.2.1
noncomputable def impl_isPairs_l0_s (N : Nat) : LSum := ⟨impl_isPairs_l0_sh, impl_isPairs_l0_ex, fun x ks => impl_isPairs_l0_again N ks N x⟩
theorem impl_isPairs_l0_step (N : Nat) (R : Type) (k : Nat) (x : impl_isPairs_l0_sh.T) (ks : (j : Nat) → ((impl_isPairs_l0_ex.getD j (.ret, Sh.none)).2).T → Option R) : impl_isPairs_l0_again N ks (k + 1) x = roundF (impl_isPairs_G N) tab [] (loopAt impl_isPairs_code 0) impl_isPairs_l0_sh impl_isPairs_l0_ex (fun y => impl_isPairs_l0_again N ks k y) ks x := by kernel_rfl
theorem impl_isPairs_l0_ok (N : Nat) : LoopOk Try.prog Try.f144.ntmps (impl_isPairs_l0_s N) (loopAt impl_isPairs_code 0) :=
  loop_ok (l := impl_isPairs_l0_s N) progOk (impl_isPairs_gok N) (draw_ok progOk (impl_isPairs_gok N)) (fun R k x ks => impl_isPairs_l0_again N ks k x) (fun _ _ _ => rfl) (fun R k x ks => impl_isPairs_l0_step N R k x ks) (fun R x ks r h => ⟨N, h⟩) (lsOk_at (L := []) trivial) (by kernel_rfl) (by kernel_rfl)
noncomputable def impl_isPairs (N : Nat) (list : (List (Int × Int))) (below : Int) : Option ((Bool × Unit) × (Unit)) :=
  impl_isPairs_l0 N (fun x => some ((x, ()), ())) (fun (_ : Unit) => some ((true, ()), ())) N list below list (tLen list) 0
abbrev impl_isPairs_ps : List (PV.Mode × Ty) := [(.ro, LQII), (.ro, I)]
abbrev impl_isPairs_rs : List (Bool × Ty) := [(true, .bool)]
noncomputable def impl_isPairs_S (N : Nat) : FSum := ⟨impl_isPairs_ps, impl_isPairs_rs, fun x => impl_isPairs N x.1 x.2.1⟩
theorem impl_isPairs_run (N : Nat) (x : argsT impl_isPairs_ps) : impl_isPairs N x.1 x.2.1 = funF (impl_isPairs_G N) tab [impl_isPairs_l0_s N] Try.f144 impl_isPairs_ps impl_isPairs_rs x := by kernel_rfl
theorem impl_isPairs_pc (N : Nat) : PC Try.prog 144 (impl_isPairs_S N) := by
  have e : impl_isPairs_S N = ⟨impl_isPairs_ps, impl_isPairs_rs, funF (impl_isPairs_G N) tab [impl_isPairs_l0_s N] Try.f144 impl_isPairs_ps impl_isPairs_rs⟩ := congrArg (FSum.mk impl_isPairs_ps impl_isPairs_rs) (funext (impl_isPairs_run N))
  rw [e]
  exact fun_ok (c := impl_isPairs_code) progOk (impl_isPairs_gok N) (draw_ok progOk (impl_isPairs_gok N)) Try.call144 Try.func144 (by kernel_rfl) (lsOk_at (L := [impl_isPairs_l0_s N]) ⟨impl_isPairs_l0_ok N, trivial⟩) (by kernel_rfl) (by kernel_rfl) (by kernel_rfl) (by kernel_rfl) (by kernel_rfl)

/-! ### impl_IsGraph -/
noncomputable def impl_IsGraph_G (N : Nat) : GTab := gOf [(64, impl_between_S N), (144, impl_isPairs_S N)]
theorem impl_IsGraph_gok (N : Nat) : GOk Try.prog (impl_IsGraph_G N) := gOf_ok ⟨impl_between_pc N, impl_isPairs_pc N, trivial⟩
noncomputable def impl_IsGraph_code : Code := (Try.f86.body).getD .skip
noncomputable def impl_IsGraph (N : Nat) (g : (Int × (List (Int × Int)))) : Option ((Bool × Unit) × (Unit)) :=
  ((impl_between N g.1 0 8).bind fun r =>
    (br r.1.1
      (((impl_isPairs N g.2 g.1).bind fun r1 =>
        some ((r1.1.1, ()), ())))
      (some ((false, ()), ()))))
abbrev impl_IsGraph_ps : List (PV.Mode × Ty) := [(.ro, QILQII)]
abbrev impl_IsGraph_rs : List (Bool × Ty) := [(true, .bool)]
noncomputable def impl_IsGraph_S (N : Nat) : FSum := ⟨impl_IsGraph_ps, impl_IsGraph_rs, fun x => impl_IsGraph N x.1⟩
theorem impl_IsGraph_run (N : Nat) (x : argsT impl_IsGraph_ps) : impl_IsGraph N x.1 = funF (impl_IsGraph_G N) tab [] Try.f86 impl_IsGraph_ps impl_IsGraph_rs x := by kernel_rfl
theorem impl_IsGraph_pc (N : Nat) : PC Try.prog 86 (impl_IsGraph_S N) := by
  have e : impl_IsGraph_S N = ⟨impl_IsGraph_ps, impl_IsGraph_rs, funF (impl_IsGraph_G N) tab [] Try.f86 impl_IsGraph_ps impl_IsGraph_rs⟩ := congrArg (FSum.mk impl_IsGraph_ps impl_IsGraph_rs) (funext (impl_IsGraph_run N))
  rw [e]
  exact fun_ok (c := impl_IsGraph_code) progOk (impl_IsGraph_gok N) (draw_ok progOk (impl_IsGraph_gok N)) Try.call86 Try.func86 (by kernel_rfl) (lsOk_at (L := []) trivial) (by kernel_rfl) (by kernel_rfl) (by kernel_rfl) (by kernel_rfl) (by kernel_rfl)

/-! ### impl_Graph_all -/
noncomputable def impl_Graph_all_G (N : Nat) : GTab := gOf []
theorem impl_Graph_all_gok (N : Nat) : GOk Try.prog (impl_Graph_all_G N) := gOf_ok trivial
noncomputable def impl_Graph_all_code : Code := (Try.f104.body).getD .skip
noncomputable def impl_Graph_all (N : Nat) (g : (Int × (List (Int × Int)))) : Option ((Int × Unit) × (Unit)) :=
  (chk (ile 0 g.1)
    (some (((IntKind.u64.wrap ((shlI .u64 1 g.1) - 1)), ()), ())))
abbrev impl_Graph_all_ps : List (PV.Mode × Ty) := [(.ro, QILQII)]
abbrev impl_Graph_all_rs : List (Bool × Ty) := [(true, U64)]
noncomputable def impl_Graph_all_S (N : Nat) : FSum := ⟨impl_Graph_all_ps, impl_Graph_all_rs, fun x => impl_Graph_all N x.1⟩
theorem impl_Graph_all_run (N : Nat) (x : argsT impl_Graph_all_ps) : impl_Graph_all N x.1 = funF (impl_Graph_all_G N) tab [] Try.f104 impl_Graph_all_ps impl_Graph_all_rs x := by kernel_rfl
theorem impl_Graph_all_pc (N : Nat) : PC Try.prog 104 (impl_Graph_all_S N) := by
  have e : impl_Graph_all_S N = ⟨impl_Graph_all_ps, impl_Graph_all_rs, funF (impl_Graph_all_G N) tab [] Try.f104 impl_Graph_all_ps impl_Graph_all_rs⟩ := congrArg (FSum.mk impl_Graph_all_ps impl_Graph_all_rs) (funext (impl_Graph_all_run N))
  rw [e]
  exact fun_ok (c := impl_Graph_all_code) progOk (impl_Graph_all_gok N) (draw_ok progOk (impl_Graph_all_gok N)) Try.call104 Try.func104 (by kernel_rfl) (lsOk_at (L := []) trivial) (by kernel_rfl) (by kernel_rfl) (by kernel_rfl) (by kernel_rfl) (by kernel_rfl)

/-! ### impl_bag_list -/
noncomputable def impl_bag_list_G (N : Nat) : GTab := gOf []
theorem impl_bag_list_gok (N : Nat) : GOk Try.prog (impl_bag_list_G N) := gOf_ok trivial
noncomputable def impl_bag_list_code : Code := (Try.f105.body).getD .skip
noncomputable def impl_bag_list_l0_sh : Sh := ⟨[(0, .one (.ro U64)), (3, .one (.ref 0)), (6, .one (.ro I))], [.sl 3 I .own]⟩
noncomputable def impl_bag_list_l0_ex : List (Ex × Sh) := [(.exit 0, ⟨[(3, .one (.ref 0))], [.sl 3 I .own]⟩)]
noncomputable def impl_bag_list_l0 {R : Type} (N : Nat) (k0 : (List Int) → Option R) : Nat → Int → Int → (List Int) → Option R
  | 0, _, _, _ => none
  | K + 1, b1, x, o =>
    (br (ilt x 8)
      ((chk (ile 0 x)
        (br (ieq (bitop .and .u64 (shrI .u64 b1 x) 1) 1)
        ((chk (room o [x])
          (impl_bag_list_l0 N k0 K b1 (IntKind.i64.wrap (x + 1)) (tApp o [x]))))
        (impl_bag_list_l0 N k0 K b1 (IntKind.i64.wrap (x + 1)) o))))
      (k0 o))
noncomputable def impl_bag_list_l0_again {R : Type} (N : Nat) (ks : (j : Nat) → ((impl_bag_list_l0_ex.getD j (.ret, Sh.none)).2).T → Option R) (k : Nat) (x : impl_bag_list_l0_sh.T) : Option R :=
  impl_bag_list_l0 N (fun y0 => ks 0 (((), ()), (y0, ()))) k x.1.1 x.1.2.2.1 x.2.1
noncomputable def impl_bag_list_l0_s (N : Nat) : LSum := ⟨impl_bag_list_l0_sh, impl_bag_list_l0_ex, fun x ks => impl_bag_list_l0_again N ks N x⟩
theorem impl_bag_list_l0_step (N : Nat) (R : Type) (k : Nat) (x : impl_bag_list_l0_sh.T) (ks : (j : Nat) → ((impl_bag_list_l0_ex.getD j (.ret, Sh.none)).2).T → Option R) : impl_bag_list_l0_again N ks (k + 1) x = roundF (impl_bag_list_G N) tab [] (loopAt impl_bag_list_code 0) impl_bag_list_l0_sh impl_bag_list_l0_ex (fun y => impl_bag_list_l0_again N ks k y) ks x := by kernel_rfl
theorem impl_bag_list_l0_ok (N : Nat) : LoopOk Try.prog Try.f105.ntmps (impl_bag_list_l0_s N) (loopAt impl_bag_list_code 0) :=
  loop_ok (l := impl_bag_list_l0_s N) progOk (impl_bag_list_gok N) (draw_ok progOk (impl_bag_list_gok N)) (fun R k x ks => impl_bag_list_l0_again N ks k x) (fun _ _ _ => rfl) (fun R k x ks => impl_bag_list_l0_step N R k x ks) (fun R x ks r h => ⟨N, h⟩) (lsOk_at (L := []) trivial) (by kernel_rfl) (by kernel_rfl)
noncomputable def impl_bag_list (N : Nat) (b : Int) : Option (((List Int) × Unit) × (Unit)) :=
  impl_bag_list_l0 N (fun o => some ((o, ()), ())) N b 0 []
abbrev impl_bag_list_ps : List (PV.Mode × Ty) := [(.ro, U64)]
abbrev impl_bag_list_rs : List (Bool × Ty) := [(true, LI)]
noncomputable def impl_bag_list_S (N : Nat) : FSum := ⟨impl_bag_list_ps, impl_bag_list_rs, fun x => impl_bag_list N x.1⟩
theorem impl_bag_list_run (N : Nat) (x : argsT impl_bag_list_ps) : impl_bag_list N x.1 = funF (impl_bag_list_G N) tab [impl_bag_list_l0_s N] Try.f105 impl_bag_list_ps impl_bag_list_rs x := by kernel_rfl
theorem impl_bag_list_pc (N : Nat) : PC Try.prog 105 (impl_bag_list_S N) := by
  have e : impl_bag_list_S N = ⟨impl_bag_list_ps, impl_bag_list_rs, funF (impl_bag_list_G N) tab [impl_bag_list_l0_s N] Try.f105 impl_bag_list_ps impl_bag_list_rs⟩ := congrArg (FSum.mk impl_bag_list_ps impl_bag_list_rs) (funext (impl_bag_list_run N))
  rw [e]
  exact fun_ok (c := impl_bag_list_code) progOk (impl_bag_list_gok N) (draw_ok progOk (impl_bag_list_gok N)) Try.call105 Try.func105 (by kernel_rfl) (lsOk_at (L := [impl_bag_list_l0_s N]) ⟨impl_bag_list_l0_ok N, trivial⟩) (by kernel_rfl) (by kernel_rfl) (by kernel_rfl) (by kernel_rfl) (by kernel_rfl)
end Go.Proofs.Ythkejedgfhjdiaa
