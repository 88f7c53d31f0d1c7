/- Functions of the program as functions on data. -/
import Derived.Test.YthkejedgfhjdiaaCircleOfFa
set_option linter.all false
namespace Go.Proofs.Ythkejedgfhjdiaa
open Go Go.PV
/-! ### spec_l7Cut -/
abbrev spec_l7Cut_ps : List (PV.Mode × Ty) := [(.ro, QILQII), (.ro, LI), (.ro, I)]
abbrev spec_l7Cut_rs : List (Bool × Ty) := [(true, LI)]
noncomputable def spec_l7Cut_G (N : Nat) : GTab := gOf [(147, spec_l3Only_S N), (142, spec_l7Part_S N), (146, spec_l3Far_S N)]
theorem spec_l7Cut_gok (N : Nat) : GOk Try.prog (spec_l7Cut_G N) := gOf_ok ⟨spec_l3Only_pc N, spec_l7Part_pc N, spec_l3Far_pc N, trivial⟩
noncomputable def spec_l7Cut_code : Code := (Try.f90.body).getD .skip
noncomputable def spec_l7Cut_l0_sh : Sh := ⟨[(3, .one (.adr 0 0)), (7, .one (.ref 1)), (8, .one (.ref 2)), (9, .one (.ro I))], [.box [.ro I, .ro LQII], .sl 3 I .own, .sl 3 I .own]⟩
noncomputable def spec_l7Cut_l0_ex : List (Ex × Sh) := [(.exit 0, ⟨[(7, .one (.ref 0))], [.sl 3 I .own]⟩)]
noncomputable def spec_l7Cut_l0 {R : Type} (N : Nat) (k0 : (List Int) → Option R) : Nat → Int → Int → (List (Int × Int)) → (List Int) → (List Int) → Option R
  | 0, _, _, _, _, _ => none
  | K + 1, e, o, o1, o2, o3 =>
    (br (ilt e (tLen o1))
      ((chk (inb o1 e)
        (chk (inb o3 ((rdP o1 e).1))
        (chk (inb o1 e)
        (chk (inb o3 ((rdP o1 e).2))
        (br (!((ilt (rdI o3 ((rdP o1 e).1)) 0) == (ilt (rdI o3 ((rdP o1 e).2)) 0)))
        ((chk (room o2 [e])
          (spec_l7Cut_l0 N k0 K (IntKind.i64.wrap (e + 1)) o o1 (tApp o2 [e]) o3)))
        (spec_l7Cut_l0 N k0 K (IntKind.i64.wrap (e + 1)) o o1 o2 o3)))))))
      (k0 o2))
noncomputable def spec_l7Cut_l0_again {R : Type} (N : Nat) (ks : (j : Nat) → ((spec_l7Cut_l0_ex.getD j (.ret, Sh.none)).2).T → Option R) (k : Nat) (x : spec_l7Cut_l0_sh.T) : Option R :=
  spec_l7Cut_l0 N (fun y0 => ks 0 (((), ()), (y0, ()))) k x.1.2.2.2.1 x.2.1.1 x.2.1.2.1 x.2.2.1 x.2.2.2.1
noncomputable def spec_l7Cut_l0_s (N : Nat) : LSum := ⟨spec_l7Cut_l0_sh, spec_l7Cut_l0_ex, fun x ks => spec_l7Cut_l0_again N ks N x⟩
theorem spec_l7Cut_l0_step (N : Nat) (R : Type) (k : Nat) (x : spec_l7Cut_l0_sh.T) (ks : (j : Nat) → ((spec_l7Cut_l0_ex.getD j (.ret, Sh.none)).2).T → Option R) : spec_l7Cut_l0_again N ks (k + 1) x = roundF (spec_l7Cut_G N) tab [] (loopAt spec_l7Cut_code 0) spec_l7Cut_l0_sh spec_l7Cut_l0_ex (fun y => spec_l7Cut_l0_again N ks k y) ks x := by kernel_rfl
theorem spec_l7Cut_l0_ok (N : Nat) : LoopOk Try.prog Try.f90.ntmps (spec_l7Cut_l0_s N) (loopAt spec_l7Cut_code 0) :=
  loop_ok (l := spec_l7Cut_l0_s N) progOk (spec_l7Cut_gok N) (draw_ok progOk (spec_l7Cut_gok N)) (fun R k x ks => spec_l7Cut_l0_again N ks k x) (fun _ _ _ => rfl) (fun R k x ks => spec_l7Cut_l0_step N R k x ks) (fun R x ks r h => ⟨N, h⟩) (lsOk_at (L := []) trivial) (by kernel_rfl) (by kernel_rfl)
noncomputable def spec_l7Cut (N : Nat) (g : (Int × (List (Int × Int)))) (tree : (List Int)) (edge : Int) : Option (((List Int) × Unit) × (Unit)) :=
  ((spec_l3Only N tree [edge]).bind fun r =>
    ((spec_l7Part N (g.1, g.2) r.1.1).bind fun r1 =>
      (chk (inb g.2 edge)
        ((spec_l3Far N (r1.1.1.1, r1.1.1.2) ((rdP g.2 edge).1)).bind fun r2 =>
        spec_l7Cut_l0 N (fun o => some ((o, ()), ())) N 0 g.1 g.2 [] r2.1.1))))
noncomputable def spec_l7Cut_S (N : Nat) : FSum := ⟨spec_l7Cut_ps, spec_l7Cut_rs, fun x => spec_l7Cut N x.1 x.2.1 x.2.2.1⟩
theorem spec_l7Cut_run (N : Nat) (x : argsT spec_l7Cut_ps) : spec_l7Cut N x.1 x.2.1 x.2.2.1 = funF (spec_l7Cut_G N) tab [spec_l7Cut_l0_s N] Try.f90 spec_l7Cut_ps spec_l7Cut_rs x := by kernel_rfl
theorem spec_l7Cut_pc (N : Nat) : PC Try.prog 90 (spec_l7Cut_S N) := by
  have e : spec_l7Cut_S N = ⟨spec_l7Cut_ps, spec_l7Cut_rs, funF (spec_l7Cut_G N) tab [spec_l7Cut_l0_s N] Try.f90 spec_l7Cut_ps spec_l7Cut_rs⟩ := congrArg (FSum.mk spec_l7Cut_ps spec_l7Cut_rs) (funext (spec_l7Cut_run N))
  rw [e]
  exact fun_ok (c := spec_l7Cut_code) progOk (spec_l7Cut_gok N) (draw_ok progOk (spec_l7Cut_gok N)) Try.call90 Try.func90 (by kernel_rfl) (lsOk_at (L := [spec_l7Cut_l0_s N]) ⟨spec_l7Cut_l0_ok N, trivial⟩) (by kernel_rfl) (by kernel_rfl) (by kernel_rfl) (by kernel_rfl) (by kernel_rfl)

/-! ### spec_l7Round -/
abbrev spec_l7Round_ps : List (PV.Mode × Ty) := [(.ro, QILQII), (.ro, LI), (.ro, I)]
abbrev spec_l7Round_rs : List (Bool × Ty) := [(true, LI)]
noncomputable def spec_l7Round_G (N : Nat) : GTab := gOf [(90, spec_l7Cut_S N), (89, spec_l1Has_S N), (115, spec_l1Put_S N)]
theorem spec_l7Round_gok (N : Nat) : GOk Try.prog (spec_l7Round_G N) := gOf_ok ⟨spec_l7Cut_pc N, spec_l1Has_pc N, spec_l1Put_pc N, trivial⟩
noncomputable def spec_l7Round_code : Code := (Try.f125.body).getD .skip
noncomputable def spec_l7Round_l0_sh : Sh := ⟨[(1, .one (.ro LI)), (2, .one (.ro I)), (3, .one (.adr 0 0)), (7, .one (.ref 1)), (8, .one (.ro I))], [.box [.ro I, .ro LQII], .sl 3 I .own]⟩
noncomputable def spec_l7Round_l0_ex : List (Ex × Sh) := [(.exit 0, ⟨[(2, .one (.ro I)), (7, .one (.ref 0))], [.sl 3 I .own]⟩)]
noncomputable def spec_l7Round_l0 {R : Type} (N : Nat) (k0 : Int → (List Int) → Option R) : Nat → (List Int) → Int → Int → Int → (List (Int × Int)) → (List Int) → Option R
  | 0, _, _, _, _, _, _ => none
  | K + 1, tree1, edge1, i, o, o1, o2 =>
    (br (ilt i (tLen tree1))
      ((chk (inb tree1 i)
        ((spec_l7Cut N (o, o1) tree1 (rdI tree1 i)).bind fun r =>
        ((spec_l1Has N r.1.1 edge1).bind fun r1 =>
          (br r1.1.1
            ((chk (inb tree1 i)
              (chk (room o2 [(rdI tree1 i)])
              (spec_l7Round_l0 N k0 K tree1 edge1 (IntKind.i64.wrap (i + 1)) o o1 (tApp o2 [(rdI tree1 i)])))))
            (spec_l7Round_l0 N k0 K tree1 edge1 (IntKind.i64.wrap (i + 1)) o o1 o2))))))
      (k0 edge1 o2))
noncomputable def spec_l7Round_l0_again {R : Type} (N : Nat) (ks : (j : Nat) → ((spec_l7Round_l0_ex.getD j (.ret, Sh.none)).2).T → Option R) (k : Nat) (x : spec_l7Round_l0_sh.T) : Option R :=
  spec_l7Round_l0 N (fun y0 y1 => ks 0 ((y0, (), ()), (y1, ()))) k x.1.1 x.1.2.1 x.1.2.2.2.2.1 x.2.1.1 x.2.1.2.1 x.2.2.1
noncomputable def spec_l7Round_l0_s (N : Nat) : LSum := ⟨spec_l7Round_l0_sh, spec_l7Round_l0_ex, fun x ks => spec_l7Round_l0_again N ks N x⟩
theorem spec_l7Round_l0_step (N : Nat) (R : Type) (k : Nat) (x : spec_l7Round_l0_sh.T) (ks : (j : Nat) → ((spec_l7Round_l0_ex.getD j (.ret, Sh.none)).2).T → Option R) : spec_l7Round_l0_again N ks (k + 1) x = roundF (spec_l7Round_G N) tab [] (loopAt spec_l7Round_code 0) spec_l7Round_l0_sh spec_l7Round_l0_ex (fun y => spec_l7Round_l0_again N ks k y) ks x := by kernel_rfl
theorem spec_l7Round_l0_ok (N : Nat) : LoopOk Try.prog Try.f125.ntmps (spec_l7Round_l0_s N) (loopAt spec_l7Round_code 0) :=
  loop_ok (l := spec_l7Round_l0_s N) progOk (spec_l7Round_gok N) (draw_ok progOk (spec_l7Round_gok N)) (fun R k x ks => spec_l7Round_l0_again N ks k x) (fun _ _ _ => rfl) (fun R k x ks => spec_l7Round_l0_step N R k x ks) (fun R x ks r h => ⟨N, h⟩) (lsOk_at (L := []) trivial) (by kernel_rfl) (by kernel_rfl)
noncomputable def spec_l7Round (N : Nat) (g : (Int × (List (Int × Int)))) (tree : (List Int)) (edge : Int) : Option (((List Int) × Unit) × (Unit)) :=
  spec_l7Round_l0 N (fun edge1 o => ((spec_l1Put N o edge1).bind fun r =>
    some ((r.1.1, ()), ()))) N tree edge 0 g.1 g.2 []
noncomputable def spec_l7Round_S (N : Nat) : FSum := ⟨spec_l7Round_ps, spec_l7Round_rs, fun x => spec_l7Round N x.1 x.2.1 x.2.2.1⟩
theorem spec_l7Round_run (N : Nat) (x : argsT spec_l7Round_ps) : spec_l7Round N x.1 x.2.1 x.2.2.1 = funF (spec_l7Round_G N) tab [spec_l7Round_l0_s N] Try.f125 spec_l7Round_ps spec_l7Round_rs x := by kernel_rfl
theorem spec_l7Round_pc (N : Nat) : PC Try.prog 125 (spec_l7Round_S N) := by
  have e : spec_l7Round_S N = ⟨spec_l7Round_ps, spec_l7Round_rs, funF (spec_l7Round_G N) tab [spec_l7Round_l0_s N] Try.f125 spec_l7Round_ps spec_l7Round_rs⟩ := congrArg (FSum.mk spec_l7Round_ps spec_l7Round_rs) (funext (spec_l7Round_run N))
  rw [e]
  exact fun_ok (c := spec_l7Round_code) progOk (spec_l7Round_gok N) (draw_ok progOk (spec_l7Round_gok N)) Try.call125 Try.func125 (by kernel_rfl) (lsOk_at (L := [spec_l7Round_l0_s N]) ⟨spec_l7Round_l0_ok N, trivial⟩) (by kernel_rfl) (by kernel_rfl) (by kernel_rfl) (by kernel_rfl) (by kernel_rfl)

/-! ### spec_CircleOf -/
abbrev spec_CircleOf_ps : List (PV.Mode × Ty) := [(.ro, QILQII), (.ro, LI), (.ro, I)]
abbrev spec_CircleOf_rs : List (Bool × Ty) := [(true, LI), (true, .bool)]
noncomputable def spec_CircleOf_G (N : Nat) : GTab := gOf [(88, spec_l7Two_S N), (89, spec_l1Has_S N), (125, spec_l7Round_S N)]
theorem spec_CircleOf_gok (N : Nat) : GOk Try.prog (spec_CircleOf_G N) := gOf_ok ⟨spec_l7Two_pc N, spec_l1Has_pc N, spec_l7Round_pc N, trivial⟩
noncomputable def spec_CircleOf_code : Code := (Try.f58.body).getD .skip
noncomputable def spec_CircleOf (N : Nat) (g : (Int × (List (Int × Int)))) (tree : (List Int)) (edge : Int) : Option (((List Int) × Bool × Unit) × (Unit)) :=
  ((spec_l7Two N (g.1, g.2) tree edge).bind fun r =>
    (br (!r.1.1)
      (some (([], false, ()), ()))
      (((spec_l1Has N tree edge).bind fun r1 =>
        (br r1.1.1
          (some (([], false, ()), ()))
          (((spec_l7Round N (g.1, g.2) tree edge).bind fun r2 =>
            some ((r2.1.1, true, ()), ()))))))))
noncomputable def spec_CircleOf_S (N : Nat) : FSum := ⟨spec_CircleOf_ps, spec_CircleOf_rs, fun x => spec_CircleOf N x.1 x.2.1 x.2.2.1⟩
theorem spec_CircleOf_run (N : Nat) (x : argsT spec_CircleOf_ps) : spec_CircleOf N x.1 x.2.1 x.2.2.1 = funF (spec_CircleOf_G N) tab [] Try.f58 spec_CircleOf_ps spec_CircleOf_rs x := by kernel_rfl
theorem spec_CircleOf_pc (N : Nat) : PC Try.prog 58 (spec_CircleOf_S N) := by
  have e : spec_CircleOf_S N = ⟨spec_CircleOf_ps, spec_CircleOf_rs, funF (spec_CircleOf_G N) tab [] Try.f58 spec_CircleOf_ps spec_CircleOf_rs⟩ := congrArg (FSum.mk spec_CircleOf_ps spec_CircleOf_rs) (funext (spec_CircleOf_run N))
  rw [e]
  exact fun_ok (c := spec_CircleOf_code) progOk (spec_CircleOf_gok N) (draw_ok progOk (spec_CircleOf_gok N)) Try.call58 Try.func58 (by kernel_rfl) (lsOk_at (L := []) trivial) (by kernel_rfl) (by kernel_rfl) (by kernel_rfl) (by kernel_rfl) (by kernel_rfl)

/-! ### impl_between -/
abbrev impl_between_ps : List (PV.Mode × Ty) := [(.ro, I), (.ro, I), (.ro, I)]
abbrev impl_between_rs : List (Bool × Ty) := [(true, .bool)]
noncomputable def impl_between_G (N : Nat) : GTab := gOf []
theorem impl_between_gok (N : Nat) : GOk Try.prog (impl_between_G N) := gOf_ok trivial
noncomputable def impl_between_code : Code := (Try.f64.body).getD .skip
noncomputable def impl_between (N : Nat) (n : Int) (low : Int) (high : Int) : Option ((Bool × Unit) × (Unit)) :=
  (br (ile low n)
    (some (((ile n high), ()), ()))
    (some ((false, ()), ())))
noncomputable def impl_between_S (N : Nat) : FSum := ⟨impl_between_ps, impl_between_rs, fun x => impl_between N x.1 x.2.1 x.2.2.1⟩
theorem impl_between_run (N : Nat) (x : argsT impl_between_ps) : impl_between N x.1 x.2.1 x.2.2.1 = funF (impl_between_G N) tab [] Try.f64 impl_between_ps impl_between_rs x := by kernel_rfl
theorem impl_between_pc (N : Nat) : PC Try.prog 64 (impl_between_S N) := by
  have e : impl_between_S N = ⟨impl_between_ps, impl_between_rs, funF (impl_between_G N) tab [] Try.f64 impl_between_ps impl_between_rs⟩ := congrArg (FSum.mk impl_between_ps impl_between_rs) (funext (impl_between_run N))
  rw [e]
  exact fun_ok (c := impl_between_code) progOk (impl_between_gok N) (draw_ok progOk (impl_between_gok N)) Try.call64 Try.func64 (by kernel_rfl) (lsOk_at (L := []) trivial) (by kernel_rfl) (by kernel_rfl) (by kernel_rfl) (by kernel_rfl) (by kernel_rfl)

/-! ### cmp_isNaN_int -/
abbrev cmp_isNaN_int_ps : List (PV.Mode × Ty) := [(.ro, I)]
abbrev cmp_isNaN_int_rs : List (Bool × Ty) := [(true, .bool)]
noncomputable def cmp_isNaN_int_G (N : Nat) : GTab := gOf []
theorem cmp_isNaN_int_gok (N : Nat) : GOk Try.prog (cmp_isNaN_int_G N) := gOf_ok trivial
noncomputable def cmp_isNaN_int_code : Code := (Try.f200.body).getD .skip
noncomputable def cmp_isNaN_int (N : Nat) (x : Int) : Option ((Bool × Unit) × (Unit)) :=
  some (((ine x x), ()), ())
noncomputable def cmp_isNaN_int_S (N : Nat) : FSum := ⟨cmp_isNaN_int_ps, cmp_isNaN_int_rs, fun x => cmp_isNaN_int N x.1⟩
theorem cmp_isNaN_int_run (N : Nat) (x : argsT cmp_isNaN_int_ps) : cmp_isNaN_int N x.1 = funF (cmp_isNaN_int_G N) tab [] Try.f200 cmp_isNaN_int_ps cmp_isNaN_int_rs x := by kernel_rfl
theorem cmp_isNaN_int_pc (N : Nat) : PC Try.prog 200 (cmp_isNaN_int_S N) := by
  have e : cmp_isNaN_int_S N = ⟨cmp_isNaN_int_ps, cmp_isNaN_int_rs, funF (cmp_isNaN_int_G N) tab [] Try.f200 cmp_isNaN_int_ps cmp_isNaN_int_rs⟩ := congrArg (FSum.mk cmp_isNaN_int_ps cmp_isNaN_int_rs) (funext (cmp_isNaN_int_run N))
  rw [e]
  exact fun_ok (c := cmp_isNaN_int_code) progOk (cmp_isNaN_int_gok N) (draw_ok progOk (cmp_isNaN_int_gok N)) Try.call200 Try.func200 (by kernel_rfl) (lsOk_at (L := []) trivial) (by kernel_rfl) (by kernel_rfl) (by kernel_rfl) (by kernel_rfl) (by kernel_rfl)

/-! ### cmp_Compare_int -/
abbrev cmp_Compare_int_ps : List (PV.Mode × Ty) := [(.ro, I), (.ro, I)]
abbrev cmp_Compare_int_rs : List (Bool × Ty) := [(true, I)]
noncomputable def cmp_Compare_int_G (N : Nat) : GTab := gOf [(200, cmp_isNaN_int_S N)]
theorem cmp_Compare_int_gok (N : Nat) : GOk Try.prog (cmp_Compare_int_G N) := gOf_ok ⟨cmp_isNaN_int_pc N, trivial⟩
noncomputable def cmp_Compare_int_code : Code := (Try.f192.body).getD .skip
noncomputable def cmp_Compare_int (N : Nat) (x : Int) (y : Int) : Option ((Int × Unit) × (Unit)) :=
  ((cmp_isNaN_int N x).bind fun r =>
    ((cmp_isNaN_int N y).bind fun r1 =>
      (br r.1.1
        ((br r1.1.1
          (some ((0, ()), ()))
          (some (((-1), ()), ()))))
        ((br r1.1.1
          (some ((1, ()), ()))
          ((br (ilt x y)
            (some (((-1), ()), ()))
            ((br (ilt y x)
              (some ((1, ()), ()))
              (some ((0, ()), ())))))))))))
noncomputable def cmp_Compare_int_S (N : Nat) : FSum := ⟨cmp_Compare_int_ps, cmp_Compare_int_rs, fun x => cmp_Compare_int N x.1 x.2.1⟩
theorem cmp_Compare_int_run (N : Nat) (x : argsT cmp_Compare_int_ps) : cmp_Compare_int N x.1 x.2.1 = funF (cmp_Compare_int_G N) tab [] Try.f192 cmp_Compare_int_ps cmp_Compare_int_rs x := by kernel_rfl
theorem cmp_Compare_int_pc (N : Nat) : PC Try.prog 192 (cmp_Compare_int_S N) := by
  have e : cmp_Compare_int_S N = ⟨cmp_Compare_int_ps, cmp_Compare_int_rs, funF (cmp_Compare_int_G N) tab [] Try.f192 cmp_Compare_int_ps cmp_Compare_int_rs⟩ := congrArg (FSum.mk cmp_Compare_int_ps cmp_Compare_int_rs) (funext (cmp_Compare_int_run N))
  rw [e]
  exact fun_ok (c := cmp_Compare_int_code) progOk (cmp_Compare_int_gok N) (draw_ok progOk (cmp_Compare_int_gok N)) Try.call192 Try.func192 (by kernel_rfl) (lsOk_at (L := []) trivial) (by kernel_rfl) (by kernel_rfl) (by kernel_rfl) (by kernel_rfl) (by kernel_rfl)

/-! ### cmp_Or_int -/
abbrev cmp_Or_int_ps : List (PV.Mode × Ty) := [(.ro, LI)]
abbrev cmp_Or_int_rs : List (Bool × Ty) := [(true, I)]
noncomputable def cmp_Or_int_G (N : Nat) : GTab := gOf []
theorem cmp_Or_int_gok (N : Nat) : GOk Try.prog (cmp_Or_int_G N) := gOf_ok trivial
noncomputable def cmp_Or_int_code : Code := (Try.f191.body).getD .skip
noncomputable def cmp_Or_int_l0_sh : Sh := ⟨[(3, .one (.ro I)), (6, .one (.ro LI)), (7, .one (.ro I)), (8, .one (.ro I))], []⟩
noncomputable def cmp_Or_int_l0_ex : List (Ex × Sh) := [(.ret, ⟨[(2, .one (.ro I))], []⟩), (.exit 0, ⟨[(3, .one (.ro I))], []⟩)]
noncomputable def cmp_Or_int_l0 {R : Type} (N : Nat) (k0 : Int → Option R) (k1 : Int → Option R) : Nat → Int → (List Int) → Int → Int → Option R
  | 0, _, _, _, _ => none
  | K + 1, zero, x, x1, x2 =>
    (br (ilt x2 x1)
      ((chk (inb x x2)
        (br (ine (rdI x x2) zero)
        (k0 (rdI x x2))
        (cmp_Or_int_l0 N k0 k1 K zero x x1 (IntKind.i64.wrap (x2 + 1))))))
      (k1 zero))
noncomputable def cmp_Or_int_l0_again {R : Type} (N : Nat) (ks : (j : Nat) → ((cmp_Or_int_l0_ex.getD j (.ret, Sh.none)).2).T → Option R) (k : Nat) (x : cmp_Or_int_l0_sh.T) : Option R :=
  cmp_Or_int_l0 N (fun y0 => ks 0 ((y0, ()), ())) (fun y0 => ks 1 ((y0, ()), ())) k x.1.1 x.1.2.1 x.1.2.2.1 x.1.2.2.2.1
noncomputable def cmp_Or_int_l0_s (N : Nat) : LSum := ⟨cmp_Or_int_l0_sh, cmp_Or_int_l0_ex, fun x ks => cmp_Or_int_l0_again N ks N x⟩
theorem cmp_Or_int_l0_step (N : Nat) (R : Type) (k : Nat) (x : cmp_Or_int_l0_sh.T) (ks : (j : Nat) → ((cmp_Or_int_l0_ex.getD j (.ret, Sh.none)).2).T → Option R) : cmp_Or_int_l0_again N ks (k + 1) x = roundF (cmp_Or_int_G N) tab [] (loopAt cmp_Or_int_code 0) cmp_Or_int_l0_sh cmp_Or_int_l0_ex (fun y => cmp_Or_int_l0_again N ks k y) ks x := by kernel_rfl
theorem cmp_Or_int_l0_ok (N : Nat) : LoopOk Try.prog Try.f191.ntmps (cmp_Or_int_l0_s N) (loopAt cmp_Or_int_code 0) :=
  loop_ok (l := cmp_Or_int_l0_s N) progOk (cmp_Or_int_gok N) (draw_ok progOk (cmp_Or_int_gok N)) (fun R k x ks => cmp_Or_int_l0_again N ks k x) (fun _ _ _ => rfl) (fun R k x ks => cmp_Or_int_l0_step N R k x ks) (fun R x ks r h => ⟨N, h⟩) (lsOk_at (L := []) trivial) (by kernel_rfl) (by kernel_rfl)
noncomputable def cmp_Or_int (N : Nat) (vals : (List Int)) : Option ((Int × Unit) × (Unit)) :=
  cmp_Or_int_l0 N (fun x => some ((x, ()), ())) (fun zero => some ((zero, ()), ())) N 0 vals (tLen vals) 0
noncomputable def cmp_Or_int_S (N : Nat) : FSum := ⟨cmp_Or_int_ps, cmp_Or_int_rs, fun x => cmp_Or_int N x.1⟩
theorem cmp_Or_int_run (N : Nat) (x : argsT cmp_Or_int_ps) : cmp_Or_int N x.1 = funF (cmp_Or_int_G N) tab [cmp_Or_int_l0_s N] Try.f191 cmp_Or_int_ps cmp_Or_int_rs x := by kernel_rfl
theorem cmp_Or_int_pc (N : Nat) : PC Try.prog 191 (cmp_Or_int_S N) := by
  have e : cmp_Or_int_S N = ⟨cmp_Or_int_ps, cmp_Or_int_rs, funF (cmp_Or_int_G N) tab [cmp_Or_int_l0_s N] Try.f191 cmp_Or_int_ps cmp_Or_int_rs⟩ := congrArg (FSum.mk cmp_Or_int_ps cmp_Or_int_rs) (funext (cmp_Or_int_run N))
  rw [e]
  exact fun_ok (c := cmp_Or_int_code) progOk (cmp_Or_int_gok N) (draw_ok progOk (cmp_Or_int_gok N)) Try.call191 Try.func191 (by kernel_rfl) (lsOk_at (L := [cmp_Or_int_l0_s N]) ⟨cmp_Or_int_l0_ok N, trivial⟩) (by kernel_rfl) (by kernel_rfl) (by kernel_rfl) (by kernel_rfl) (by kernel_rfl)

/-! ### impl_comparePairs -/
abbrev impl_comparePairs_ps : List (PV.Mode × Ty) := [(.ro, QII), (.ro, QII)]
abbrev impl_comparePairs_rs : List (Bool × Ty) := [(true, I)]
noncomputable def impl_comparePairs_G (N : Nat) : GTab := gOf [(192, cmp_Compare_int_S N), (191, cmp_Or_int_S N)]
theorem impl_comparePairs_gok (N : Nat) : GOk Try.prog (impl_comparePairs_G N) := gOf_ok ⟨cmp_Compare_int_pc N, cmp_Or_int_pc N, trivial⟩
noncomputable def impl_comparePairs_code : Code := (Try.f167.body).getD .skip
noncomputable def impl_comparePairs (N : Nat) (a : (Int × Int)) (b : (Int × Int)) : Option ((Int × Unit) × (Unit)) :=
  ((cmp_Compare_int N a.1 b.1).bind fun r =>
    ((cmp_Compare_int N a.2 b.2).bind fun r1 =>
      ((cmp_Or_int N [r.1.1, r1.1.1]).bind fun r2 =>
        some ((r2.1.1, ()), ()))))
noncomputable def impl_comparePairs_S (N : Nat) : FSum := ⟨impl_comparePairs_ps, impl_comparePairs_rs, fun x => impl_comparePairs N x.1 x.2.1⟩
theorem impl_comparePairs_run (N : Nat) (x : argsT impl_comparePairs_ps) : impl_comparePairs N x.1 x.2.1 = funF (impl_comparePairs_G N) tab [] Try.f167 impl_comparePairs_ps impl_comparePairs_rs x := by kernel_rfl
theorem impl_comparePairs_pc (N : Nat) : PC Try.prog 167 (impl_comparePairs_S N) := by
  have e : impl_comparePairs_S N = ⟨impl_comparePairs_ps, impl_comparePairs_rs, funF (impl_comparePairs_G N) tab [] Try.f167 impl_comparePairs_ps impl_comparePairs_rs⟩ := congrArg (FSum.mk impl_comparePairs_ps impl_comparePairs_rs) (funext (impl_comparePairs_run N))
  rw [e]
  exact fun_ok (c := impl_comparePairs_code) progOk (impl_comparePairs_gok N) (draw_ok progOk (impl_comparePairs_gok N)) Try.call167 Try.func167 (by kernel_rfl) (lsOk_at (L := []) trivial) (by kernel_rfl) (by kernel_rfl) (by kernel_rfl) (by kernel_rfl) (by kernel_rfl)

/-! ### impl_isPairs -/
abbrev impl_isPairs_ps : List (PV.Mode × Ty) := [(.ro, LQII), (.ro, I)]
abbrev impl_isPairs_rs : List (Bool × Ty) := [(true, .bool)]
noncomputable def impl_isPairs_G (N : Nat) : GTab := gOf [(167, impl_comparePairs_S N)]
theorem impl_isPairs_gok (N : Nat) : GOk Try.prog (impl_isPairs_G N) := gOf_ok ⟨impl_comparePairs_pc N, trivial⟩
noncomputable def impl_isPairs_code : Code := (Try.f144.body).getD .skip
noncomputable def impl_isPairs_l0_sh : Sh := ⟨[(0, .one (.ro LQII)), (1, .one (.ro I)), (7, .one (.ro LQII)), (8, .one (.ro I)), (9, .one (.ro I))], []⟩
noncomputable def impl_isPairs_l0_ex : List (Ex × Sh) := [(.ret, ⟨[(4, .one (.ro .bool))], []⟩), (.exit 0, ⟨[], []⟩)]
noncomputable def impl_isPairs_l0 {R : Type} (N : Nat) (k0 : Bool → Option R) (k1 : Unit → Option R) : Nat → (List (Int × Int)) → Int → (List (Int × Int)) → Int → Int → Option R
  | 0, _, _, _, _, _ => none
  | K + 1, list1, below1, x, x1, x2 =>
    (br (ilt x2 x1)
      ((chk (inb x x2)
        (br (ilt ((rdP x x2).1) 0)
        (k0 false)
        ((br (ile ((rdP x x2).2) ((rdP x x2).1))
          (k0 false)
          ((br (ile below1 ((rdP x x2).2))
            (k0 false)
            ((br (ilt 0 x2)
              ((chk (inb list1 (IntKind.i64.wrap (x2 - 1)))
                ((impl_comparePairs N (rdP list1 (IntKind.i64.wrap (x2 - 1))) ((rdP x x2).1, (rdP x x2).2)).bind fun r =>
                (br (ile 0 r.1.1)
                  (k0 false)
                  (impl_isPairs_l0 N k0 k1 K list1 below1 x x1 (IntKind.i64.wrap (x2 + 1)))))))
              (impl_isPairs_l0 N k0 k1 K list1 below1 x x1 (IntKind.i64.wrap (x2 + 1))))))))))))
      (k1 ()))
noncomputable def impl_isPairs_l0_again {R : Type} (N : Nat) (ks : (j : Nat) → ((impl_isPairs_l0_ex.getD j (.ret, Sh.none)).2).T → Option R) (k : Nat) (x : impl_isPairs_l0_sh.T) : Option R :=
  impl_isPairs_l0 N (fun y0 => ks 0 ((y0, ()), ())) (fun (_ : Unit) => ks 1 ((), ())) k x.1.1 x.1.2.1 x.1.2.2.1 x.1.2.2.2.1 x.1.2.2.2.2.1
noncomputable def impl_isPairs_l0_s (N : Nat) : LSum := ⟨impl_isPairs_l0_sh, impl_isPairs_l0_ex, fun x ks => impl_isPairs_l0_again N ks N x⟩
theorem impl_isPairs_l0_step (N : Nat) (R : Type) (k : Nat) (x : impl_isPairs_l0_sh.T) (ks : (j : Nat) → ((impl_isPairs_l0_ex.getD j (.ret, Sh.none)).2).T → Option R) : impl_isPairs_l0_again N ks (k + 1) x = roundF (impl_isPairs_G N) tab [] (loopAt impl_isPairs_code 0) impl_isPairs_l0_sh impl_isPairs_l0_ex (fun y => impl_isPairs_l0_again N ks k y) ks x := by kernel_rfl
theorem impl_isPairs_l0_ok (N : Nat) : LoopOk Try.prog Try.f144.ntmps (impl_isPairs_l0_s N) (loopAt impl_isPairs_code 0) :=
  loop_ok (l := impl_isPairs_l0_s N) progOk (impl_isPairs_gok N) (draw_ok progOk (impl_isPairs_gok N)) (fun R k x ks => impl_isPairs_l0_again N ks k x) (fun _ _ _ => rfl) (fun R k x ks => impl_isPairs_l0_step N R k x ks) (fun R x ks r h => ⟨N, h⟩) (lsOk_at (L := []) trivial) (by kernel_rfl) (by kernel_rfl)
noncomputable def impl_isPairs (N : Nat) (list : (List (Int × Int))) (below : Int) : Option ((Bool × Unit) × (Unit)) :=
  impl_isPairs_l0 N (fun x => some ((x, ()), ())) (fun (_ : Unit) => some ((true, ()), ())) N list below list (tLen list) 0
noncomputable def impl_isPairs_S (N : Nat) : FSum := ⟨impl_isPairs_ps, impl_isPairs_rs, fun x => impl_isPairs N x.1 x.2.1⟩
theorem impl_isPairs_run (N : Nat) (x : argsT impl_isPairs_ps) : impl_isPairs N x.1 x.2.1 = funF (impl_isPairs_G N) tab [impl_isPairs_l0_s N] Try.f144 impl_isPairs_ps impl_isPairs_rs x := by kernel_rfl
theorem impl_isPairs_pc (N : Nat) : PC Try.prog 144 (impl_isPairs_S N) := by
  have e : impl_isPairs_S N = ⟨impl_isPairs_ps, impl_isPairs_rs, funF (impl_isPairs_G N) tab [impl_isPairs_l0_s N] Try.f144 impl_isPairs_ps impl_isPairs_rs⟩ := congrArg (FSum.mk impl_isPairs_ps impl_isPairs_rs) (funext (impl_isPairs_run N))
  rw [e]
  exact fun_ok (c := impl_isPairs_code) progOk (impl_isPairs_gok N) (draw_ok progOk (impl_isPairs_gok N)) Try.call144 Try.func144 (by kernel_rfl) (lsOk_at (L := [impl_isPairs_l0_s N]) ⟨impl_isPairs_l0_ok N, trivial⟩) (by kernel_rfl) (by kernel_rfl) (by kernel_rfl) (by kernel_rfl) (by kernel_rfl)

/-! ### impl_IsGraph -/
abbrev impl_IsGraph_ps : List (PV.Mode × Ty) := [(.ro, QILQII)]
abbrev impl_IsGraph_rs : List (Bool × Ty) := [(true, .bool)]
noncomputable def impl_IsGraph_G (N : Nat) : GTab := gOf [(64, impl_between_S N), (144, impl_isPairs_S N)]
theorem impl_IsGraph_gok (N : Nat) : GOk Try.prog (impl_IsGraph_G N) := gOf_ok ⟨impl_between_pc N, impl_isPairs_pc N, trivial⟩
noncomputable def impl_IsGraph_code : Code := (Try.f86.body).getD .skip
noncomputable def impl_IsGraph (N : Nat) (g : (Int × (List (Int × Int)))) : Option ((Bool × Unit) × (Unit)) :=
  ((impl_between N g.1 0 8).bind fun r =>
    (br r.1.1
      (((impl_isPairs N g.2 g.1).bind fun r1 =>
        some ((r1.1.1, ()), ())))
      (some ((false, ()), ()))))
noncomputable def impl_IsGraph_S (N : Nat) : FSum := ⟨impl_IsGraph_ps, impl_IsGraph_rs, fun x => impl_IsGraph N x.1⟩
theorem impl_IsGraph_run (N : Nat) (x : argsT impl_IsGraph_ps) : impl_IsGraph N x.1 = funF (impl_IsGraph_G N) tab [] Try.f86 impl_IsGraph_ps impl_IsGraph_rs x := by kernel_rfl
theorem impl_IsGraph_pc (N : Nat) : PC Try.prog 86 (impl_IsGraph_S N) := by
  have e : impl_IsGraph_S N = ⟨impl_IsGraph_ps, impl_IsGraph_rs, funF (impl_IsGraph_G N) tab [] Try.f86 impl_IsGraph_ps impl_IsGraph_rs⟩ := congrArg (FSum.mk impl_IsGraph_ps impl_IsGraph_rs) (funext (impl_IsGraph_run N))
  rw [e]
  exact fun_ok (c := impl_IsGraph_code) progOk (impl_IsGraph_gok N) (draw_ok progOk (impl_IsGraph_gok N)) Try.call86 Try.func86 (by kernel_rfl) (lsOk_at (L := []) trivial) (by kernel_rfl) (by kernel_rfl) (by kernel_rfl) (by kernel_rfl) (by kernel_rfl)

/-! ### impl_isRising -/
abbrev impl_isRising_ps : List (PV.Mode × Ty) := [(.ro, LI), (.ro, I)]
abbrev impl_isRising_rs : List (Bool × Ty) := [(true, .bool)]
noncomputable def impl_isRising_G (N : Nat) : GTab := gOf [(64, impl_between_S N)]
theorem impl_isRising_gok (N : Nat) : GOk Try.prog (impl_isRising_G N) := gOf_ok ⟨impl_between_pc N, trivial⟩
noncomputable def impl_isRising_code : Code := (Try.f117.body).getD .skip
noncomputable def impl_isRising_l0_sh : Sh := ⟨[(0, .one (.ro LI)), (1, .one (.ro I)), (7, .one (.ro LI)), (8, .one (.ro I)), (9, .one (.ro I))], []⟩
noncomputable def impl_isRising_l0_ex : List (Ex × Sh) := [(.ret, ⟨[(4, .one (.ro .bool))], []⟩), (.exit 0, ⟨[], []⟩)]
noncomputable def impl_isRising_l0 {R : Type} (N : Nat) (k0 : Bool → Option R) (k1 : Unit → Option R) : Nat → (List Int) → Int → (List Int) → Int → Int → Option R
  | 0, _, _, _, _, _ => none
  | K + 1, list1, below1, x, x1, x2 =>
    (br (ilt x2 x1)
      ((chk (inb x x2)
        ((impl_between N (rdI x x2) 0 (IntKind.i64.wrap (below1 - 1))).bind fun r =>
        (br (!r.1.1)
          (k0 false)
          ((br (ilt 0 x2)
            ((chk (inb list1 (IntKind.i64.wrap (x2 - 1)))
              (br (ile (rdI x x2) (rdI list1 (IntKind.i64.wrap (x2 - 1))))
              (k0 false)
              (impl_isRising_l0 N k0 k1 K list1 below1 x x1 (IntKind.i64.wrap (x2 + 1))))))
            (impl_isRising_l0 N k0 k1 K list1 below1 x x1 (IntKind.i64.wrap (x2 + 1)))))))))
      (k1 ()))
noncomputable def impl_isRising_l0_again {R : Type} (N : Nat) (ks : (j : Nat) → ((impl_isRising_l0_ex.getD j (.ret, Sh.none)).2).T → Option R) (k : Nat) (x : impl_isRising_l0_sh.T) : Option R :=
  impl_isRising_l0 N (fun y0 => ks 0 ((y0, ()), ())) (fun (_ : Unit) => ks 1 ((), ())) k x.1.1 x.1.2.1 x.1.2.2.1 x.1.2.2.2.1 x.1.2.2.2.2.1
noncomputable def impl_isRising_l0_s (N : Nat) : LSum := ⟨impl_isRising_l0_sh, impl_isRising_l0_ex, fun x ks => impl_isRising_l0_again N ks N x⟩
theorem impl_isRising_l0_step (N : Nat) (R : Type) (k : Nat) (x : impl_isRising_l0_sh.T) (ks : (j : Nat) → ((impl_isRising_l0_ex.getD j (.ret, Sh.none)).2).T → Option R) : impl_isRising_l0_again N ks (k + 1) x = roundF (impl_isRising_G N) tab [] (loopAt impl_isRising_code 0) impl_isRising_l0_sh impl_isRising_l0_ex (fun y => impl_isRising_l0_again N ks k y) ks x := by kernel_rfl
theorem impl_isRising_l0_ok (N : Nat) : LoopOk Try.prog Try.f117.ntmps (impl_isRising_l0_s N) (loopAt impl_isRising_code 0) :=
  loop_ok (l := impl_isRising_l0_s N) progOk (impl_isRising_gok N) (draw_ok progOk (impl_isRising_gok N)) (fun R k x ks => impl_isRising_l0_again N ks k x) (fun _ _ _ => rfl) (fun R k x ks => impl_isRising_l0_step N R k x ks) (fun R x ks r h => ⟨N, h⟩) (lsOk_at (L := []) trivial) (by kernel_rfl) (by kernel_rfl)
noncomputable def impl_isRising (N : Nat) (list : (List Int)) (below : Int) : Option ((Bool × Unit) × (Unit)) :=
  impl_isRising_l0 N (fun x => some ((x, ()), ())) (fun (_ : Unit) => some ((true, ()), ())) N list below list (tLen list) 0
noncomputable def impl_isRising_S (N : Nat) : FSum := ⟨impl_isRising_ps, impl_isRising_rs, fun x => impl_isRising N x.1 x.2.1⟩
theorem impl_isRising_run (N : Nat) (x : argsT impl_isRising_ps) : impl_isRising N x.1 x.2.1 = funF (impl_isRising_G N) tab [impl_isRising_l0_s N] Try.f117 impl_isRising_ps impl_isRising_rs x := by kernel_rfl
theorem impl_isRising_pc (N : Nat) : PC Try.prog 117 (impl_isRising_S N) := by
  have e : impl_isRising_S N = ⟨impl_isRising_ps, impl_isRising_rs, funF (impl_isRising_G N) tab [impl_isRising_l0_s N] Try.f117 impl_isRising_ps impl_isRising_rs⟩ := congrArg (FSum.mk impl_isRising_ps impl_isRising_rs) (funext (impl_isRising_run N))
  rw [e]
  exact fun_ok (c := impl_isRising_code) progOk (impl_isRising_gok N) (draw_ok progOk (impl_isRising_gok N)) Try.call117 Try.func117 (by kernel_rfl) (lsOk_at (L := [impl_isRising_l0_s N]) ⟨impl_isRising_l0_ok N, trivial⟩) (by kernel_rfl) (by kernel_rfl) (by kernel_rfl) (by kernel_rfl) (by kernel_rfl)

/-! ### impl_newJoiner -/
abbrev impl_newJoiner_ps : List (PV.Mode × Ty) := [(.ro, I)]
abbrev impl_newJoiner_rs : List (Bool × Ty) := [(true, LI)]
noncomputable def impl_newJoiner_G (N : Nat) : GTab := gOf []
theorem impl_newJoiner_gok (N : Nat) : GOk Try.prog (impl_newJoiner_G N) := gOf_ok trivial
noncomputable def impl_newJoiner_code : Code := (Try.f93.body).getD .skip
noncomputable def impl_newJoiner_l0_sh : Sh := ⟨[(3, .one (.ref 0)), (6, .one (.ro I)), (7, .one (.ro I))], [.sl 3 I .own]⟩
noncomputable def impl_newJoiner_l0_ex : List (Ex × Sh) := [(.exit 0, ⟨[(3, .one (.ref 0))], [.sl 3 I .own]⟩)]
noncomputable def impl_newJoiner_l0 {R : Type} (N : Nat) (k0 : (List Int) → Option R) : Nat → Int → Int → (List Int) → Option R
  | 0, _, _, _ => none
  | K + 1, x, x1, o =>
    (br (ilt x1 x)
      ((chk (room o [x1])
        (impl_newJoiner_l0 N k0 K x (IntKind.i64.wrap (x1 + 1)) (tApp o [x1]))))
      (k0 o))
noncomputable def impl_newJoiner_l0_again {R : Type} (N : Nat) (ks : (j : Nat) → ((impl_newJoiner_l0_ex.getD j (.ret, Sh.none)).2).T → Option R) (k : Nat) (x : impl_newJoiner_l0_sh.T) : Option R :=
  impl_newJoiner_l0 N (fun y0 => ks 0 (((), ()), (y0, ()))) k x.1.2.1 x.1.2.2.1 x.2.1
noncomputable def impl_newJoiner_l0_s (N : Nat) : LSum := ⟨impl_newJoiner_l0_sh, impl_newJoiner_l0_ex, fun x ks => impl_newJoiner_l0_again N ks N x⟩
theorem impl_newJoiner_l0_step (N : Nat) (R : Type) (k : Nat) (x : impl_newJoiner_l0_sh.T) (ks : (j : Nat) → ((impl_newJoiner_l0_ex.getD j (.ret, Sh.none)).2).T → Option R) : impl_newJoiner_l0_again N ks (k + 1) x = roundF (impl_newJoiner_G N) tab [] (loopAt impl_newJoiner_code 0) impl_newJoiner_l0_sh impl_newJoiner_l0_ex (fun y => impl_newJoiner_l0_again N ks k y) ks x := by kernel_rfl
theorem impl_newJoiner_l0_ok (N : Nat) : LoopOk Try.prog Try.f93.ntmps (impl_newJoiner_l0_s N) (loopAt impl_newJoiner_code 0) :=
  loop_ok (l := impl_newJoiner_l0_s N) progOk (impl_newJoiner_gok N) (draw_ok progOk (impl_newJoiner_gok N)) (fun R k x ks => impl_newJoiner_l0_again N ks k x) (fun _ _ _ => rfl) (fun R k x ks => impl_newJoiner_l0_step N R k x ks) (fun R x ks r h => ⟨N, h⟩) (lsOk_at (L := []) trivial) (by kernel_rfl) (by kernel_rfl)
noncomputable def impl_newJoiner (N : Nat) (size : Int) : Option (((List Int) × Unit) × (Unit)) :=
  impl_newJoiner_l0 N (fun o => some ((o, ()), ())) N size 0 []
noncomputable def impl_newJoiner_S (N : Nat) : FSum := ⟨impl_newJoiner_ps, impl_newJoiner_rs, fun x => impl_newJoiner N x.1⟩
theorem impl_newJoiner_run (N : Nat) (x : argsT impl_newJoiner_ps) : impl_newJoiner N x.1 = funF (impl_newJoiner_G N) tab [impl_newJoiner_l0_s N] Try.f93 impl_newJoiner_ps impl_newJoiner_rs x := by kernel_rfl
theorem impl_newJoiner_pc (N : Nat) : PC Try.prog 93 (impl_newJoiner_S N) := by
  have e : impl_newJoiner_S N = ⟨impl_newJoiner_ps, impl_newJoiner_rs, funF (impl_newJoiner_G N) tab [impl_newJoiner_l0_s N] Try.f93 impl_newJoiner_ps impl_newJoiner_rs⟩ := congrArg (FSum.mk impl_newJoiner_ps impl_newJoiner_rs) (funext (impl_newJoiner_run N))
  rw [e]
  exact fun_ok (c := impl_newJoiner_code) progOk (impl_newJoiner_gok N) (draw_ok progOk (impl_newJoiner_gok N)) Try.call93 Try.func93 (by kernel_rfl) (lsOk_at (L := [impl_newJoiner_l0_s N]) ⟨impl_newJoiner_l0_ok N, trivial⟩) (by kernel_rfl) (by kernel_rfl) (by kernel_rfl) (by kernel_rfl) (by kernel_rfl)

/-! ### impl_joiner_root -/
abbrev impl_joiner_root_ps : List (PV.Mode × Ty) := [(.ro, LI), (.ro, I)]
abbrev impl_joiner_root_rs : List (Bool × Ty) := [(true, I)]
noncomputable def impl_joiner_root_G (N : Nat) : GTab := gOf []
theorem impl_joiner_root_gok (N : Nat) : GOk Try.prog (impl_joiner_root_G N) := gOf_ok trivial
noncomputable def impl_joiner_root_code : Code := (Try.f95.body).getD .skip
noncomputable def impl_joiner_root_l0_sh : Sh := ⟨[(0, .one (.ro LI)), (1, .one (.ro I))], []⟩
noncomputable def impl_joiner_root_l0_ex : List (Ex × Sh) := [(.exit 0, ⟨[(1, .one (.ro I))], []⟩)]
noncomputable def impl_joiner_root_l0 {R : Type} (N : Nat) (k0 : Int → Option R) : Nat → (List Int) → Int → Option R
  | 0, _, _ => none
  | K + 1, j1, x1 =>
    (chk (inb j1 x1)
      (br (ine (rdI j1 x1) x1)
      ((chk (inb j1 x1)
        (impl_joiner_root_l0 N k0 K j1 (rdI j1 x1))))
      (k0 x1)))
noncomputable def impl_joiner_root_l0_again {R : Type} (N : Nat) (ks : (j : Nat) → ((impl_joiner_root_l0_ex.getD j (.ret, Sh.none)).2).T → Option R) (k : Nat) (x : impl_joiner_root_l0_sh.T) : Option R :=
  impl_joiner_root_l0 N (fun y0 => ks 0 ((y0, ()), ())) k x.1.1 x.1.2.1
noncomputable def impl_joiner_root_l0_s (N : Nat) : LSum := ⟨impl_joiner_root_l0_sh, impl_joiner_root_l0_ex, fun x ks => impl_joiner_root_l0_again N ks N x⟩
theorem impl_joiner_root_l0_step (N : Nat) (R : Type) (k : Nat) (x : impl_joiner_root_l0_sh.T) (ks : (j : Nat) → ((impl_joiner_root_l0_ex.getD j (.ret, Sh.none)).2).T → Option R) : impl_joiner_root_l0_again N ks (k + 1) x = roundF (impl_joiner_root_G N) tab [] (loopAt impl_joiner_root_code 0) impl_joiner_root_l0_sh impl_joiner_root_l0_ex (fun y => impl_joiner_root_l0_again N ks k y) ks x := by kernel_rfl
theorem impl_joiner_root_l0_ok (N : Nat) : LoopOk Try.prog Try.f95.ntmps (impl_joiner_root_l0_s N) (loopAt impl_joiner_root_code 0) :=
  loop_ok (l := impl_joiner_root_l0_s N) progOk (impl_joiner_root_gok N) (draw_ok progOk (impl_joiner_root_gok N)) (fun R k x ks => impl_joiner_root_l0_again N ks k x) (fun _ _ _ => rfl) (fun R k x ks => impl_joiner_root_l0_step N R k x ks) (fun R x ks r h => ⟨N, h⟩) (lsOk_at (L := []) trivial) (by kernel_rfl) (by kernel_rfl)
noncomputable def impl_joiner_root (N : Nat) (j : (List Int)) (x : Int) : Option ((Int × Unit) × (Unit)) :=
  impl_joiner_root_l0 N (fun x1 => some ((x1, ()), ())) N j x
noncomputable def impl_joiner_root_S (N : Nat) : FSum := ⟨impl_joiner_root_ps, impl_joiner_root_rs, fun x => impl_joiner_root N x.1 x.2.1⟩
theorem impl_joiner_root_run (N : Nat) (x : argsT impl_joiner_root_ps) : impl_joiner_root N x.1 x.2.1 = funF (impl_joiner_root_G N) tab [impl_joiner_root_l0_s N] Try.f95 impl_joiner_root_ps impl_joiner_root_rs x := by kernel_rfl
theorem impl_joiner_root_pc (N : Nat) : PC Try.prog 95 (impl_joiner_root_S N) := by
  have e : impl_joiner_root_S N = ⟨impl_joiner_root_ps, impl_joiner_root_rs, funF (impl_joiner_root_G N) tab [impl_joiner_root_l0_s N] Try.f95 impl_joiner_root_ps impl_joiner_root_rs⟩ := congrArg (FSum.mk impl_joiner_root_ps impl_joiner_root_rs) (funext (impl_joiner_root_run N))
  rw [e]
  exact fun_ok (c := impl_joiner_root_code) progOk (impl_joiner_root_gok N) (draw_ok progOk (impl_joiner_root_gok N)) Try.call95 Try.func95 (by kernel_rfl) (lsOk_at (L := [impl_joiner_root_l0_s N]) ⟨impl_joiner_root_l0_ok N, trivial⟩) (by kernel_rfl) (by kernel_rfl) (by kernel_rfl) (by kernel_rfl) (by kernel_rfl)

/-! ### impl_joiner_join -/
abbrev impl_joiner_join_ps : List (PV.Mode × Ty) := [(.mut, LI), (.ro, QII)]
abbrev impl_joiner_join_rs : List (Bool × Ty) := [(true, .bool)]
noncomputable def impl_joiner_join_G (N : Nat) : GTab := gOf [(95, impl_joiner_root_S N)]
theorem impl_joiner_join_gok (N : Nat) : GOk Try.prog (impl_joiner_join_G N) := gOf_ok ⟨impl_joiner_root_pc N, trivial⟩
noncomputable def impl_joiner_join_code : Code := (Try.f94.body).getD .skip
noncomputable def impl_joiner_join (N : Nat) (j : (List Int)) (e : (Int × Int)) : Option ((Bool × Unit) × ((List Int) × Unit)) :=
  ((impl_joiner_root N j e.1).bind fun r =>
    ((impl_joiner_root N j e.2).bind fun r1 =>
      (chk (inb j r.1.1)
        (some (((ine r.1.1 r1.1.1), ()), ((tSet j r.1.1 r1.1.1), ()))))))
noncomputable def impl_joiner_join_S (N : Nat) : FSum := ⟨impl_joiner_join_ps, impl_joiner_join_rs, fun x => impl_joiner_join N x.1 x.2.1⟩
theorem impl_joiner_join_run (N : Nat) (x : argsT impl_joiner_join_ps) : impl_joiner_join N x.1 x.2.1 = funF (impl_joiner_join_G N) tab [] Try.f94 impl_joiner_join_ps impl_joiner_join_rs x := by kernel_rfl
theorem impl_joiner_join_pc (N : Nat) : PC Try.prog 94 (impl_joiner_join_S N) := by
  have e : impl_joiner_join_S N = ⟨impl_joiner_join_ps, impl_joiner_join_rs, funF (impl_joiner_join_G N) tab [] Try.f94 impl_joiner_join_ps impl_joiner_join_rs⟩ := congrArg (FSum.mk impl_joiner_join_ps impl_joiner_join_rs) (funext (impl_joiner_join_run N))
  rw [e]
  exact fun_ok (c := impl_joiner_join_code) progOk (impl_joiner_join_gok N) (draw_ok progOk (impl_joiner_join_gok N)) Try.call94 Try.func94 (by kernel_rfl) (lsOk_at (L := []) trivial) (by kernel_rfl) (by kernel_rfl) (by kernel_rfl) (by kernel_rfl) (by kernel_rfl)

/-! ### impl_Graph_isTree_c1 -/
abbrev impl_Graph_isTree_c1_ps : List (PV.Mode × Ty) := [(.ro, I), (.mut, BLI), (.ro, AQILQII)]
abbrev impl_Graph_isTree_c1_rs : List (Bool × Ty) := [(true, .bool)]
noncomputable def impl_Graph_isTree_c1_G (N : Nat) : GTab := gOf [(94, impl_joiner_join_S N)]
theorem impl_Graph_isTree_c1_gok (N : Nat) : GOk Try.prog (impl_Graph_isTree_c1_G N) := gOf_ok ⟨impl_joiner_join_pc N, trivial⟩
noncomputable def impl_Graph_isTree_c1_code : Code := (Try.f145.body).getD .skip
noncomputable def impl_Graph_isTree_c1 (N : Nat) (e : Int) (c : (List Int)) (c1 : (Int × (List (Int × Int)))) : Option ((Bool × Unit) × ((List Int) × Unit)) :=
  (chk (inb c1.2 e)
    ((impl_joiner_join N c (rdP c1.2 e)).bind fun r =>
    some (((!r.1.1), ()), (r.2.1, ()))))
noncomputable def impl_Graph_isTree_c1_S (N : Nat) : FSum := ⟨impl_Graph_isTree_c1_ps, impl_Graph_isTree_c1_rs, fun x => impl_Graph_isTree_c1 N x.1 x.2.1 x.2.2.1⟩
theorem impl_Graph_isTree_c1_run (N : Nat) (x : argsT impl_Graph_isTree_c1_ps) : impl_Graph_isTree_c1 N x.1 x.2.1 x.2.2.1 = funF (impl_Graph_isTree_c1_G N) tab [] Try.f145 impl_Graph_isTree_c1_ps impl_Graph_isTree_c1_rs x := by kernel_rfl
theorem impl_Graph_isTree_c1_pc (N : Nat) : PC Try.prog 145 (impl_Graph_isTree_c1_S N) := by
  have e : impl_Graph_isTree_c1_S N = ⟨impl_Graph_isTree_c1_ps, impl_Graph_isTree_c1_rs, funF (impl_Graph_isTree_c1_G N) tab [] Try.f145 impl_Graph_isTree_c1_ps impl_Graph_isTree_c1_rs⟩ := congrArg (FSum.mk impl_Graph_isTree_c1_ps impl_Graph_isTree_c1_rs) (funext (impl_Graph_isTree_c1_run N))
  rw [e]
  exact fun_ok (c := impl_Graph_isTree_c1_code) progOk (impl_Graph_isTree_c1_gok N) (draw_ok progOk (impl_Graph_isTree_c1_gok N)) Try.call145 Try.func145 (by kernel_rfl) (lsOk_at (L := []) trivial) (by kernel_rfl) (by kernel_rfl) (by kernel_rfl) (by kernel_rfl) (by kernel_rfl)

/-! ### slices_IndexFunc_LI_int_kimpl_Graph_isTree_c1 -/
abbrev slices_IndexFunc_LI_int_kimpl_Graph_isTree_c1_ps : List (PV.Mode × Ty) := [(.ro, LI), (.mut, K145QBLIAQILQII)]
abbrev slices_IndexFunc_LI_int_kimpl_Graph_isTree_c1_rs : List (Bool × Ty) := [(true, I)]
noncomputable def slices_IndexFunc_LI_int_kimpl_Graph_isTree_c1_G (N : Nat) : GTab := gOf [(145, impl_Graph_isTree_c1_S N)]
theorem slices_IndexFunc_LI_int_kimpl_Graph_isTree_c1_gok (N : Nat) : GOk Try.prog (slices_IndexFunc_LI_int_kimpl_Graph_isTree_c1_G N) := gOf_ok ⟨impl_Graph_isTree_c1_pc N, trivial⟩
noncomputable def slices_IndexFunc_LI_int_kimpl_Graph_isTree_c1_code : Code := (Try.f165.body).getD .skip
noncomputable def slices_IndexFunc_LI_int_kimpl_Graph_isTree_c1_l0_sh : Sh := ⟨[(0, .one (.ro LI)), (1, .one (.clo 145 [.id 0, .ro QILQII])), (7, .one (.ro I)), (8, .one (.ro I))], [.mbox LI]⟩
noncomputable def slices_IndexFunc_LI_int_kimpl_Graph_isTree_c1_l0_ex : List (Ex × Sh) := [(.ret, ⟨[(1, .one (.clo 145 [.id 0, .ro QILQII])), (4, .one (.ro I))], [.mbox LI]⟩), (.exit 0, ⟨[(1, .one (.clo 145 [.id 0, .ro QILQII]))], [.mbox LI]⟩)]
noncomputable def slices_IndexFunc_LI_int_kimpl_Graph_isTree_c1_l0 {R : Type} (N : Nat) (k0 : (Int × (List (Int × Int))) → Int → (List Int) → Option R) (k1 : (Int × (List (Int × Int))) → (List Int) → Option R) : Nat → (List Int) → (Int × (List (Int × Int))) → Int → Int → (List Int) → Option R
  | 0, _, _, _, _, _ => none
  | K + 1, s1, f1, x, x1, o =>
    (br (ilt x1 x)
      ((chk (inb s1 x1)
        ((impl_Graph_isTree_c1 N (rdI s1 x1) o f1).bind fun r =>
        (br r.1.1
          (k0 f1 x1 r.2.1)
          (slices_IndexFunc_LI_int_kimpl_Graph_isTree_c1_l0 N k0 k1 K s1 f1 x (IntKind.i64.wrap (x1 + 1)) r.2.1)))))
      (k1 f1 o))
noncomputable def slices_IndexFunc_LI_int_kimpl_Graph_isTree_c1_l0_again {R : Type} (N : Nat) (ks : (j : Nat) → ((slices_IndexFunc_LI_int_kimpl_Graph_isTree_c1_l0_ex.getD j (.ret, Sh.none)).2).T → Option R) (k : Nat) (x : slices_IndexFunc_LI_int_kimpl_Graph_isTree_c1_l0_sh.T) : Option R :=
  slices_IndexFunc_LI_int_kimpl_Graph_isTree_c1_l0 N (fun y0 y1 y2 => ks 0 ((((), y0, ()), y1, ()), (y2, ()))) (fun y0 y1 => ks 1 ((((), y0, ()), ()), (y1, ()))) k x.1.1 x.1.2.1.2.1 x.1.2.2.1 x.1.2.2.2.1 x.2.1
noncomputable def slices_IndexFunc_LI_int_kimpl_Graph_isTree_c1_l0_s (N : Nat) : LSum := ⟨slices_IndexFunc_LI_int_kimpl_Graph_isTree_c1_l0_sh, slices_IndexFunc_LI_int_kimpl_Graph_isTree_c1_l0_ex, fun x ks => slices_IndexFunc_LI_int_kimpl_Graph_isTree_c1_l0_again N ks N x⟩
theorem slices_IndexFunc_LI_int_kimpl_Graph_isTree_c1_l0_step (N : Nat) (R : Type) (k : Nat) (x : slices_IndexFunc_LI_int_kimpl_Graph_isTree_c1_l0_sh.T) (ks : (j : Nat) → ((slices_IndexFunc_LI_int_kimpl_Graph_isTree_c1_l0_ex.getD j (.ret, Sh.none)).2).T → Option R) : slices_IndexFunc_LI_int_kimpl_Graph_isTree_c1_l0_again N ks (k + 1) x = roundF (slices_IndexFunc_LI_int_kimpl_Graph_isTree_c1_G N) tab [] (loopAt slices_IndexFunc_LI_int_kimpl_Graph_isTree_c1_code 0) slices_IndexFunc_LI_int_kimpl_Graph_isTree_c1_l0_sh slices_IndexFunc_LI_int_kimpl_Graph_isTree_c1_l0_ex (fun y => slices_IndexFunc_LI_int_kimpl_Graph_isTree_c1_l0_again N ks k y) ks x := by kernel_rfl
theorem slices_IndexFunc_LI_int_kimpl_Graph_isTree_c1_l0_ok (N : Nat) : LoopOk Try.prog Try.f165.ntmps (slices_IndexFunc_LI_int_kimpl_Graph_isTree_c1_l0_s N) (loopAt slices_IndexFunc_LI_int_kimpl_Graph_isTree_c1_code 0) :=
  loop_ok (l := slices_IndexFunc_LI_int_kimpl_Graph_isTree_c1_l0_s N) progOk (slices_IndexFunc_LI_int_kimpl_Graph_isTree_c1_gok N) (draw_ok progOk (slices_IndexFunc_LI_int_kimpl_Graph_isTree_c1_gok N)) (fun R k x ks => slices_IndexFunc_LI_int_kimpl_Graph_isTree_c1_l0_again N ks k x) (fun _ _ _ => rfl) (fun R k x ks => slices_IndexFunc_LI_int_kimpl_Graph_isTree_c1_l0_step N R k x ks) (fun R x ks r h => ⟨N, h⟩) (lsOk_at (L := []) trivial) (by kernel_rfl) (by kernel_rfl)
noncomputable def slices_IndexFunc_LI_int_kimpl_Graph_isTree_c1 (N : Nat) (s : (List Int)) (f : ((List Int) × (Int × (List (Int × Int))))) : Option ((Int × Unit) × (((List Int) × (Int × (List (Int × Int)))) × Unit)) :=
  slices_IndexFunc_LI_int_kimpl_Graph_isTree_c1_l0 N (fun f1 x o => some ((x, ()), ((o, f1), ()))) (fun f2 o1 => some (((-1), ()), ((o1, f2), ()))) N s f.2 (tLen s) 0 f.1
noncomputable def slices_IndexFunc_LI_int_kimpl_Graph_isTree_c1_S (N : Nat) : FSum := ⟨slices_IndexFunc_LI_int_kimpl_Graph_isTree_c1_ps, slices_IndexFunc_LI_int_kimpl_Graph_isTree_c1_rs, fun x => slices_IndexFunc_LI_int_kimpl_Graph_isTree_c1 N x.1 x.2.1⟩
theorem slices_IndexFunc_LI_int_kimpl_Graph_isTree_c1_run (N : Nat) (x : argsT slices_IndexFunc_LI_int_kimpl_Graph_isTree_c1_ps) : slices_IndexFunc_LI_int_kimpl_Graph_isTree_c1 N x.1 x.2.1 = funF (slices_IndexFunc_LI_int_kimpl_Graph_isTree_c1_G N) tab [slices_IndexFunc_LI_int_kimpl_Graph_isTree_c1_l0_s N] Try.f165 slices_IndexFunc_LI_int_kimpl_Graph_isTree_c1_ps slices_IndexFunc_LI_int_kimpl_Graph_isTree_c1_rs x := by kernel_rfl
theorem slices_IndexFunc_LI_int_kimpl_Graph_isTree_c1_pc (N : Nat) : PC Try.prog 165 (slices_IndexFunc_LI_int_kimpl_Graph_isTree_c1_S N) := by
  have e : slices_IndexFunc_LI_int_kimpl_Graph_isTree_c1_S N = ⟨slices_IndexFunc_LI_int_kimpl_Graph_isTree_c1_ps, slices_IndexFunc_LI_int_kimpl_Graph_isTree_c1_rs, funF (slices_IndexFunc_LI_int_kimpl_Graph_isTree_c1_G N) tab [slices_IndexFunc_LI_int_kimpl_Graph_isTree_c1_l0_s N] Try.f165 slices_IndexFunc_LI_int_kimpl_Graph_isTree_c1_ps slices_IndexFunc_LI_int_kimpl_Graph_isTree_c1_rs⟩ := congrArg (FSum.mk slices_IndexFunc_LI_int_kimpl_Graph_isTree_c1_ps slices_IndexFunc_LI_int_kimpl_Graph_isTree_c1_rs) (funext (slices_IndexFunc_LI_int_kimpl_Graph_isTree_c1_run N))
  rw [e]
  exact fun_ok (c := slices_IndexFunc_LI_int_kimpl_Graph_isTree_c1_code) progOk (slices_IndexFunc_LI_int_kimpl_Graph_isTree_c1_gok N) (draw_ok progOk (slices_IndexFunc_LI_int_kimpl_Graph_isTree_c1_gok N)) Try.call165 Try.func165 (by kernel_rfl) (lsOk_at (L := [slices_IndexFunc_LI_int_kimpl_Graph_isTree_c1_l0_s N]) ⟨slices_IndexFunc_LI_int_kimpl_Graph_isTree_c1_l0_ok N, trivial⟩) (by kernel_rfl) (by kernel_rfl) (by kernel_rfl) (by kernel_rfl) (by kernel_rfl)

/-! ### slices_ContainsFunc_LI_int_kimpl_Graph_isTree_c1 -/
abbrev slices_ContainsFunc_LI_int_kimpl_Graph_isTree_c1_ps : List (PV.Mode × Ty) := [(.ro, LI), (.mut, K145QBLIAQILQII)]
abbrev slices_ContainsFunc_LI_int_kimpl_Graph_isTree_c1_rs : List (Bool × Ty) := [(true, .bool)]
noncomputable def slices_ContainsFunc_LI_int_kimpl_Graph_isTree_c1_G (N : Nat) : GTab := gOf [(165, slices_IndexFunc_LI_int_kimpl_Graph_isTree_c1_S N)]
theorem slices_ContainsFunc_LI_int_kimpl_Graph_isTree_c1_gok (N : Nat) : GOk Try.prog (slices_ContainsFunc_LI_int_kimpl_Graph_isTree_c1_G N) := gOf_ok ⟨slices_IndexFunc_LI_int_kimpl_Graph_isTree_c1_pc N, trivial⟩
noncomputable def slices_ContainsFunc_LI_int_kimpl_Graph_isTree_c1_code : Code := (Try.f130.body).getD .skip
noncomputable def slices_ContainsFunc_LI_int_kimpl_Graph_isTree_c1 (N : Nat) (s : (List Int)) (f : ((List Int) × (Int × (List (Int × Int))))) : Option ((Bool × Unit) × (((List Int) × (Int × (List (Int × Int)))) × Unit)) :=
  ((slices_IndexFunc_LI_int_kimpl_Graph_isTree_c1 N s (f.1, f.2)).bind fun r =>
    some (((ile 0 r.1.1), ()), ((r.2.1.1, f.2), ())))
noncomputable def slices_ContainsFunc_LI_int_kimpl_Graph_isTree_c1_S (N : Nat) : FSum := ⟨slices_ContainsFunc_LI_int_kimpl_Graph_isTree_c1_ps, slices_ContainsFunc_LI_int_kimpl_Graph_isTree_c1_rs, fun x => slices_ContainsFunc_LI_int_kimpl_Graph_isTree_c1 N x.1 x.2.1⟩
theorem slices_ContainsFunc_LI_int_kimpl_Graph_isTree_c1_run (N : Nat) (x : argsT slices_ContainsFunc_LI_int_kimpl_Graph_isTree_c1_ps) : slices_ContainsFunc_LI_int_kimpl_Graph_isTree_c1 N x.1 x.2.1 = funF (slices_ContainsFunc_LI_int_kimpl_Graph_isTree_c1_G N) tab [] Try.f130 slices_ContainsFunc_LI_int_kimpl_Graph_isTree_c1_ps slices_ContainsFunc_LI_int_kimpl_Graph_isTree_c1_rs x := by kernel_rfl
theorem slices_ContainsFunc_LI_int_kimpl_Graph_isTree_c1_pc (N : Nat) : PC Try.prog 130 (slices_ContainsFunc_LI_int_kimpl_Graph_isTree_c1_S N) := by
  have e : slices_ContainsFunc_LI_int_kimpl_Graph_isTree_c1_S N = ⟨slices_ContainsFunc_LI_int_kimpl_Graph_isTree_c1_ps, slices_ContainsFunc_LI_int_kimpl_Graph_isTree_c1_rs, funF (slices_ContainsFunc_LI_int_kimpl_Graph_isTree_c1_G N) tab [] Try.f130 slices_ContainsFunc_LI_int_kimpl_Graph_isTree_c1_ps slices_ContainsFunc_LI_int_kimpl_Graph_isTree_c1_rs⟩ := congrArg (FSum.mk slices_ContainsFunc_LI_int_kimpl_Graph_isTree_c1_ps slices_ContainsFunc_LI_int_kimpl_Graph_isTree_c1_rs) (funext (slices_ContainsFunc_LI_int_kimpl_Graph_isTree_c1_run N))
  rw [e]
  exact fun_ok (c := slices_ContainsFunc_LI_int_kimpl_Graph_isTree_c1_code) progOk (slices_ContainsFunc_LI_int_kimpl_Graph_isTree_c1_gok N) (draw_ok progOk (slices_ContainsFunc_LI_int_kimpl_Graph_isTree_c1_gok N)) Try.call130 Try.func130 (by kernel_rfl) (lsOk_at (L := []) trivial) (by kernel_rfl) (by kernel_rfl) (by kernel_rfl) (by kernel_rfl) (by kernel_rfl)

/-! ### impl_Graph_isTree -/
abbrev impl_Graph_isTree_ps : List (PV.Mode × Ty) := [(.ro, QILQII), (.ro, LI)]
abbrev impl_Graph_isTree_rs : List (Bool × Ty) := [(true, .bool)]
noncomputable def impl_Graph_isTree_G (N : Nat) : GTab := gOf [(117, impl_isRising_S N), (93, impl_newJoiner_S N), (130, slices_ContainsFunc_LI_int_kimpl_Graph_isTree_c1_S N)]
theorem impl_Graph_isTree_gok (N : Nat) : GOk Try.prog (impl_Graph_isTree_G N) := gOf_ok ⟨impl_isRising_pc N, impl_newJoiner_pc N, slices_ContainsFunc_LI_int_kimpl_Graph_isTree_c1_pc N, trivial⟩
noncomputable def impl_Graph_isTree_code : Code := (Try.f87.body).getD .skip
noncomputable def impl_Graph_isTree (N : Nat) (g : (Int × (List (Int × Int)))) (edges : (List Int)) : Option ((Bool × Unit) × (Unit)) :=
  (br (ine (tLen edges) (IntKind.i64.wrap (g.1 - 1)))
    (some ((false, ()), ()))
    (((impl_isRising N edges (tLen g.2)).bind fun r =>
      (br (!r.1.1)
        (some ((false, ()), ()))
        (((impl_newJoiner N g.1).bind fun r1 =>
          ((slices_ContainsFunc_LI_int_kimpl_Graph_isTree_c1 N edges (r1.1.1, (g.1, g.2))).bind fun r2 =>
            some (((!r2.1.1), ()), ()))))))))
noncomputable def impl_Graph_isTree_S (N : Nat) : FSum := ⟨impl_Graph_isTree_ps, impl_Graph_isTree_rs, fun x => impl_Graph_isTree N x.1 x.2.1⟩
theorem impl_Graph_isTree_run (N : Nat) (x : argsT impl_Graph_isTree_ps) : impl_Graph_isTree N x.1 x.2.1 = funF (impl_Graph_isTree_G N) tab [] Try.f87 impl_Graph_isTree_ps impl_Graph_isTree_rs x := by kernel_rfl
theorem impl_Graph_isTree_pc (N : Nat) : PC Try.prog 87 (impl_Graph_isTree_S N) := by
  have e : impl_Graph_isTree_S N = ⟨impl_Graph_isTree_ps, impl_Graph_isTree_rs, funF (impl_Graph_isTree_G N) tab [] Try.f87 impl_Graph_isTree_ps impl_Graph_isTree_rs⟩ := congrArg (FSum.mk impl_Graph_isTree_ps impl_Graph_isTree_rs) (funext (impl_Graph_isTree_run N))
  rw [e]
  exact fun_ok (c := impl_Graph_isTree_code) progOk (impl_Graph_isTree_gok N) (draw_ok progOk (impl_Graph_isTree_gok N)) Try.call87 Try.func87 (by kernel_rfl) (lsOk_at (L := []) trivial) (by kernel_rfl) (by kernel_rfl) (by kernel_rfl) (by kernel_rfl) (by kernel_rfl)

/-! ### impl_IsTree -/
abbrev impl_IsTree_ps : List (PV.Mode × Ty) := [(.ro, QILQII), (.ro, LI)]
abbrev impl_IsTree_rs : List (Bool × Ty) := [(true, .bool), (true, .bool)]
noncomputable def impl_IsTree_G (N : Nat) : GTab := gOf [(86, impl_IsGraph_S N), (87, impl_Graph_isTree_S N)]
theorem impl_IsTree_gok (N : Nat) : GOk Try.prog (impl_IsTree_G N) := gOf_ok ⟨impl_IsGraph_pc N, impl_Graph_isTree_pc N, trivial⟩
noncomputable def impl_IsTree_code : Code := (Try.f43.body).getD .skip
noncomputable def impl_IsTree (N : Nat) (g : (Int × (List (Int × Int)))) (edges : (List Int)) : Option ((Bool × Bool × Unit) × (Unit)) :=
  ((impl_IsGraph N (g.1, g.2)).bind fun r =>
    (br (!r.1.1)
      (some ((false, false, ()), ()))
      ((br (ieq g.1 0)
        (some ((false, false, ()), ()))
        (((impl_Graph_isTree N (g.1, g.2) edges).bind fun r1 =>
          some ((r1.1.1, true, ()), ())))))))
noncomputable def impl_IsTree_S (N : Nat) : FSum := ⟨impl_IsTree_ps, impl_IsTree_rs, fun x => impl_IsTree N x.1 x.2.1⟩
theorem impl_IsTree_run (N : Nat) (x : argsT impl_IsTree_ps) : impl_IsTree N x.1 x.2.1 = funF (impl_IsTree_G N) tab [] Try.f43 impl_IsTree_ps impl_IsTree_rs x := by kernel_rfl
theorem impl_IsTree_pc (N : Nat) : PC Try.prog 43 (impl_IsTree_S N) := by
  have e : impl_IsTree_S N = ⟨impl_IsTree_ps, impl_IsTree_rs, funF (impl_IsTree_G N) tab [] Try.f43 impl_IsTree_ps impl_IsTree_rs⟩ := congrArg (FSum.mk impl_IsTree_ps impl_IsTree_rs) (funext (impl_IsTree_run N))
  rw [e]
  exact fun_ok (c := impl_IsTree_code) progOk (impl_IsTree_gok N) (draw_ok progOk (impl_IsTree_gok N)) Try.call43 Try.func43 (by kernel_rfl) (lsOk_at (L := []) trivial) (by kernel_rfl) (by kernel_rfl) (by kernel_rfl) (by kernel_rfl) (by kernel_rfl)

/-! ### impl_isTreeCase -/
abbrev impl_isTreeCase_ps : List (PV.Mode × Ty) := [(.ro, QILQII), (.ro, LI), (.ro, I)]
abbrev impl_isTreeCase_rs : List (Bool × Ty) := [(true, .bool)]
noncomputable def impl_isTreeCase_G (N : Nat) : GTab := gOf [(43, impl_IsTree_S N), (64, impl_between_S N)]
theorem impl_isTreeCase_gok (N : Nat) : GOk Try.prog (impl_isTreeCase_G N) := gOf_ok ⟨impl_IsTree_pc N, impl_between_pc N, trivial⟩
noncomputable def impl_isTreeCase_code : Code := (Try.f91.body).getD .skip
noncomputable def impl_isTreeCase (N : Nat) (g : (Int × (List (Int × Int)))) (tree : (List Int)) (edge : Int) : Option ((Bool × Unit) × (Unit)) :=
  ((impl_IsTree N (g.1, g.2) tree).bind fun r =>
    (br r.1.1
      (((impl_between N edge 0 (IntKind.i64.wrap ((tLen g.2) - 1))).bind fun r1 =>
        some ((r1.1.1, ()), ())))
      (some ((false, ()), ()))))
noncomputable def impl_isTreeCase_S (N : Nat) : FSum := ⟨impl_isTreeCase_ps, impl_isTreeCase_rs, fun x => impl_isTreeCase N x.1 x.2.1 x.2.2.1⟩
theorem impl_isTreeCase_run (N : Nat) (x : argsT impl_isTreeCase_ps) : impl_isTreeCase N x.1 x.2.1 x.2.2.1 = funF (impl_isTreeCase_G N) tab [] Try.f91 impl_isTreeCase_ps impl_isTreeCase_rs x := by kernel_rfl
theorem impl_isTreeCase_pc (N : Nat) : PC Try.prog 91 (impl_isTreeCase_S N) := by
  have e : impl_isTreeCase_S N = ⟨impl_isTreeCase_ps, impl_isTreeCase_rs, funF (impl_isTreeCase_G N) tab [] Try.f91 impl_isTreeCase_ps impl_isTreeCase_rs⟩ := congrArg (FSum.mk impl_isTreeCase_ps impl_isTreeCase_rs) (funext (impl_isTreeCase_run N))
  rw [e]
  exact fun_ok (c := impl_isTreeCase_code) progOk (impl_isTreeCase_gok N) (draw_ok progOk (impl_isTreeCase_gok N)) Try.call91 Try.func91 (by kernel_rfl) (lsOk_at (L := []) trivial) (by kernel_rfl) (by kernel_rfl) (by kernel_rfl) (by kernel_rfl) (by kernel_rfl)

/-! ### slices_Index_LI_int -/
abbrev slices_Index_LI_int_ps : List (PV.Mode × Ty) := [(.ro, LI), (.ro, I)]
abbrev slices_Index_LI_int_rs : List (Bool × Ty) := [(true, I)]
noncomputable def slices_Index_LI_int_G (N : Nat) : GTab := gOf []
theorem slices_Index_LI_int_gok (N : Nat) : GOk Try.prog (slices_Index_LI_int_G N) := gOf_ok trivial
noncomputable def slices_Index_LI_int_code : Code := (Try.f148.body).getD .skip
noncomputable def slices_Index_LI_int_l0_sh : Sh := ⟨[(0, .one (.ro LI)), (1, .one (.ro I)), (7, .one (.ro I)), (8, .one (.ro I))], []⟩
noncomputable def slices_Index_LI_int_l0_ex : List (Ex × Sh) := [(.ret, ⟨[(4, .one (.ro I))], []⟩), (.exit 0, ⟨[], []⟩)]
noncomputable def slices_Index_LI_int_l0 {R : Type} (N : Nat) (k0 : Int → Option R) (k1 : Unit → Option R) : Nat → (List Int) → Int → Int → Int → Option R
  | 0, _, _, _, _ => none
  | K + 1, s1, v1, x, x1 =>
    (br (ilt x1 x)
      ((chk (inb s1 x1)
        (br (ieq v1 (rdI s1 x1))
        (k0 x1)
        (slices_Index_LI_int_l0 N k0 k1 K s1 v1 x (IntKind.i64.wrap (x1 + 1))))))
      (k1 ()))
noncomputable def slices_Index_LI_int_l0_again {R : Type} (N : Nat) (ks : (j : Nat) → ((slices_Index_LI_int_l0_ex.getD j (.ret, Sh.none)).2).T → Option R) (k : Nat) (x : slices_Index_LI_int_l0_sh.T) : Option R :=
  slices_Index_LI_int_l0 N (fun y0 => ks 0 ((y0, ()), ())) (fun (_ : Unit) => ks 1 ((), ())) k x.1.1 x.1.2.1 x.1.2.2.1 x.1.2.2.2.1
noncomputable def slices_Index_LI_int_l0_s (N : Nat) : LSum := ⟨slices_Index_LI_int_l0_sh, slices_Index_LI_int_l0_ex, fun x ks => slices_Index_LI_int_l0_again N ks N x⟩
theorem slices_Index_LI_int_l0_step (N : Nat) (R : Type) (k : Nat) (x : slices_Index_LI_int_l0_sh.T) (ks : (j : Nat) → ((slices_Index_LI_int_l0_ex.getD j (.ret, Sh.none)).2).T → Option R) : slices_Index_LI_int_l0_again N ks (k + 1) x = roundF (slices_Index_LI_int_G N) tab [] (loopAt slices_Index_LI_int_code 0) slices_Index_LI_int_l0_sh slices_Index_LI_int_l0_ex (fun y => slices_Index_LI_int_l0_again N ks k y) ks x := by kernel_rfl
theorem slices_Index_LI_int_l0_ok (N : Nat) : LoopOk Try.prog Try.f148.ntmps (slices_Index_LI_int_l0_s N) (loopAt slices_Index_LI_int_code 0) :=
  loop_ok (l := slices_Index_LI_int_l0_s N) progOk (slices_Index_LI_int_gok N) (draw_ok progOk (slices_Index_LI_int_gok N)) (fun R k x ks => slices_Index_LI_int_l0_again N ks k x) (fun _ _ _ => rfl) (fun R k x ks => slices_Index_LI_int_l0_step N R k x ks) (fun R x ks r h => ⟨N, h⟩) (lsOk_at (L := []) trivial) (by kernel_rfl) (by kernel_rfl)
noncomputable def slices_Index_LI_int (N : Nat) (s : (List Int)) (v : Int) : Option ((Int × Unit) × (Unit)) :=
  slices_Index_LI_int_l0 N (fun x => some ((x, ()), ())) (fun (_ : Unit) => some (((-1), ()), ())) N s v (tLen s) 0
noncomputable def slices_Index_LI_int_S (N : Nat) : FSum := ⟨slices_Index_LI_int_ps, slices_Index_LI_int_rs, fun x => slices_Index_LI_int N x.1 x.2.1⟩
theorem slices_Index_LI_int_run (N : Nat) (x : argsT slices_Index_LI_int_ps) : slices_Index_LI_int N x.1 x.2.1 = funF (slices_Index_LI_int_G N) tab [slices_Index_LI_int_l0_s N] Try.f148 slices_Index_LI_int_ps slices_Index_LI_int_rs x := by kernel_rfl
theorem slices_Index_LI_int_pc (N : Nat) : PC Try.prog 148 (slices_Index_LI_int_S N) := by
  have e : slices_Index_LI_int_S N = ⟨slices_Index_LI_int_ps, slices_Index_LI_int_rs, funF (slices_Index_LI_int_G N) tab [slices_Index_LI_int_l0_s N] Try.f148 slices_Index_LI_int_ps slices_Index_LI_int_rs⟩ := congrArg (FSum.mk slices_Index_LI_int_ps slices_Index_LI_int_rs) (funext (slices_Index_LI_int_run N))
  rw [e]
  exact fun_ok (c := slices_Index_LI_int_code) progOk (slices_Index_LI_int_gok N) (draw_ok progOk (slices_Index_LI_int_gok N)) Try.call148 Try.func148 (by kernel_rfl) (lsOk_at (L := [slices_Index_LI_int_l0_s N]) ⟨slices_Index_LI_int_l0_ok N, trivial⟩) (by kernel_rfl) (by kernel_rfl) (by kernel_rfl) (by kernel_rfl) (by kernel_rfl)

/-! ### slices_Contains_LI_int -/
abbrev slices_Contains_LI_int_ps : List (PV.Mode × Ty) := [(.ro, LI), (.ro, I)]
abbrev slices_Contains_LI_int_rs : List (Bool × Ty) := [(true, .bool)]
noncomputable def slices_Contains_LI_int_G (N : Nat) : GTab := gOf [(148, slices_Index_LI_int_S N)]
theorem slices_Contains_LI_int_gok (N : Nat) : GOk Try.prog (slices_Contains_LI_int_G N) := gOf_ok ⟨slices_Index_LI_int_pc N, trivial⟩
noncomputable def slices_Contains_LI_int_code : Code := (Try.f92.body).getD .skip
noncomputable def slices_Contains_LI_int (N : Nat) (s : (List Int)) (v : Int) : Option ((Bool × Unit) × (Unit)) :=
  ((slices_Index_LI_int N s v).bind fun r =>
    some (((ile 0 r.1.1), ()), ()))
noncomputable def slices_Contains_LI_int_S (N : Nat) : FSum := ⟨slices_Contains_LI_int_ps, slices_Contains_LI_int_rs, fun x => slices_Contains_LI_int N x.1 x.2.1⟩
theorem slices_Contains_LI_int_run (N : Nat) (x : argsT slices_Contains_LI_int_ps) : slices_Contains_LI_int N x.1 x.2.1 = funF (slices_Contains_LI_int_G N) tab [] Try.f92 slices_Contains_LI_int_ps slices_Contains_LI_int_rs x := by kernel_rfl
theorem slices_Contains_LI_int_pc (N : Nat) : PC Try.prog 92 (slices_Contains_LI_int_S N) := by
  have e : slices_Contains_LI_int_S N = ⟨slices_Contains_LI_int_ps, slices_Contains_LI_int_rs, funF (slices_Contains_LI_int_G N) tab [] Try.f92 slices_Contains_LI_int_ps slices_Contains_LI_int_rs⟩ := congrArg (FSum.mk slices_Contains_LI_int_ps slices_Contains_LI_int_rs) (funext (slices_Contains_LI_int_run N))
  rw [e]
  exact fun_ok (c := slices_Contains_LI_int_code) progOk (slices_Contains_LI_int_gok N) (draw_ok progOk (slices_Contains_LI_int_gok N)) Try.call92 Try.func92 (by kernel_rfl) (lsOk_at (L := []) trivial) (by kernel_rfl) (by kernel_rfl) (by kernel_rfl) (by kernel_rfl) (by kernel_rfl)

/-! ### math_bits_Len64 -/
abbrev math_bits_Len64_ps : List (PV.Mode × Ty) := [(.ro, U64)]
abbrev math_bits_Len64_rs : List (Bool × Ty) := [(true, I)]
noncomputable def math_bits_Len64_G (N : Nat) : GTab := gOf []
theorem math_bits_Len64_gok (N : Nat) : GOk Try.prog (math_bits_Len64_G N) := gOf_ok trivial
noncomputable def math_bits_Len64_code : Code := (Try.f187.body).getD .skip
noncomputable def math_bits_Len64 (N : Nat) (x : Int) : Option ((Int × Unit) × (Unit)) :=
  (br (ile 4294967296 x)
    ((br (ile 65536 (shrI .u64 x 32))
      ((br (ile 256 (shrI .u64 (shrI .u64 x 32) 16))
        ((chk (strIn str0 (IntKind.u8.wrap ((shrI .u64 (shrI .u64 (shrI .u64 x 32) 16) 8))))
          (some (((IntKind.i64.wrap (56 + (IntKind.i64.wrap ((strAt str0 (IntKind.u8.wrap ((shrI .u64 (shrI .u64 (shrI .u64 x 32) 16) 8)))))))), ()), ()))))
        ((chk (strIn str0 (IntKind.u8.wrap ((shrI .u64 (shrI .u64 x 32) 16))))
          (some (((IntKind.i64.wrap (48 + (IntKind.i64.wrap ((strAt str0 (IntKind.u8.wrap ((shrI .u64 (shrI .u64 x 32) 16)))))))), ()), ()))))))
      ((br (ile 256 (shrI .u64 x 32))
        ((chk (strIn str0 (IntKind.u8.wrap ((shrI .u64 (shrI .u64 x 32) 8))))
          (some (((IntKind.i64.wrap (40 + (IntKind.i64.wrap ((strAt str0 (IntKind.u8.wrap ((shrI .u64 (shrI .u64 x 32) 8)))))))), ()), ()))))
        ((chk (strIn str0 (IntKind.u8.wrap ((shrI .u64 x 32))))
          (some (((IntKind.i64.wrap (32 + (IntKind.i64.wrap ((strAt str0 (IntKind.u8.wrap ((shrI .u64 x 32)))))))), ()), ()))))))))
    ((br (ile 65536 x)
      ((br (ile 256 (shrI .u64 x 16))
        ((chk (strIn str0 (IntKind.u8.wrap ((shrI .u64 (shrI .u64 x 16) 8))))
          (some (((IntKind.i64.wrap (24 + (IntKind.i64.wrap ((strAt str0 (IntKind.u8.wrap ((shrI .u64 (shrI .u64 x 16) 8)))))))), ()), ()))))
        ((chk (strIn str0 (IntKind.u8.wrap ((shrI .u64 x 16))))
          (some (((IntKind.i64.wrap (16 + (IntKind.i64.wrap ((strAt str0 (IntKind.u8.wrap ((shrI .u64 x 16)))))))), ()), ()))))))
      ((br (ile 256 x)
        ((chk (strIn str0 (IntKind.u8.wrap ((shrI .u64 x 8))))
          (some (((IntKind.i64.wrap (8 + (IntKind.i64.wrap ((strAt str0 (IntKind.u8.wrap ((shrI .u64 x 8)))))))), ()), ()))))
        ((chk (strIn str0 (IntKind.u8.wrap (x)))
          (some (((IntKind.i64.wrap (0 + (IntKind.i64.wrap ((strAt str0 (IntKind.u8.wrap (x))))))), ()), ())))))))))
noncomputable def math_bits_Len64_S (N : Nat) : FSum := ⟨math_bits_Len64_ps, math_bits_Len64_rs, fun x => math_bits_Len64 N x.1⟩
theorem math_bits_Len64_run (N : Nat) (x : argsT math_bits_Len64_ps) : math_bits_Len64 N x.1 = funF (math_bits_Len64_G N) tab [] Try.f187 math_bits_Len64_ps math_bits_Len64_rs x := by kernel_rfl
theorem math_bits_Len64_pc (N : Nat) : PC Try.prog 187 (math_bits_Len64_S N) := by
  have e : math_bits_Len64_S N = ⟨math_bits_Len64_ps, math_bits_Len64_rs, funF (math_bits_Len64_G N) tab [] Try.f187 math_bits_Len64_ps math_bits_Len64_rs⟩ := congrArg (FSum.mk math_bits_Len64_ps math_bits_Len64_rs) (funext (math_bits_Len64_run N))
  rw [e]
  exact fun_ok (c := math_bits_Len64_code) progOk (math_bits_Len64_gok N) (draw_ok progOk (math_bits_Len64_gok N)) Try.call187 Try.func187 (by kernel_rfl) (lsOk_at (L := []) trivial) (by kernel_rfl) (by kernel_rfl) (by kernel_rfl) (by kernel_rfl) (by kernel_rfl)

/-! ### math_bits_Len -/
abbrev math_bits_Len_ps : List (PV.Mode × Ty) := [(.ro, U64)]
abbrev math_bits_Len_rs : List (Bool × Ty) := [(true, I)]
noncomputable def math_bits_Len_G (N : Nat) : GTab := gOf [(187, math_bits_Len64_S N)]
theorem math_bits_Len_gok (N : Nat) : GOk Try.prog (math_bits_Len_G N) := gOf_ok ⟨math_bits_Len64_pc N, trivial⟩
noncomputable def math_bits_Len_code : Code := (Try.f161.body).getD .skip
noncomputable def math_bits_Len (N : Nat) (x : Int) : Option ((Int × Unit) × (Unit)) :=
  ((math_bits_Len64 N x).bind fun r =>
    some ((r.1.1, ()), ()))
noncomputable def math_bits_Len_S (N : Nat) : FSum := ⟨math_bits_Len_ps, math_bits_Len_rs, fun x => math_bits_Len N x.1⟩
theorem math_bits_Len_run (N : Nat) (x : argsT math_bits_Len_ps) : math_bits_Len N x.1 = funF (math_bits_Len_G N) tab [] Try.f161 math_bits_Len_ps math_bits_Len_rs x := by kernel_rfl
theorem math_bits_Len_pc (N : Nat) : PC Try.prog 161 (math_bits_Len_S N) := by
  have e : math_bits_Len_S N = ⟨math_bits_Len_ps, math_bits_Len_rs, funF (math_bits_Len_G N) tab [] Try.f161 math_bits_Len_ps math_bits_Len_rs⟩ := congrArg (FSum.mk math_bits_Len_ps math_bits_Len_rs) (funext (math_bits_Len_run N))
  rw [e]
  exact fun_ok (c := math_bits_Len_code) progOk (math_bits_Len_gok N) (draw_ok progOk (math_bits_Len_gok N)) Try.call161 Try.func161 (by kernel_rfl) (lsOk_at (L := []) trivial) (by kernel_rfl) (by kernel_rfl) (by kernel_rfl) (by kernel_rfl) (by kernel_rfl)

/-! ### cmp_Less_int -/
abbrev cmp_Less_int_ps : List (PV.Mode × Ty) := [(.ro, I), (.ro, I)]
abbrev cmp_Less_int_rs : List (Bool × Ty) := [(true, .bool)]
noncomputable def cmp_Less_int_G (N : Nat) : GTab := gOf [(200, cmp_isNaN_int_S N)]
theorem cmp_Less_int_gok (N : Nat) : GOk Try.prog (cmp_Less_int_G N) := gOf_ok ⟨cmp_isNaN_int_pc N, trivial⟩
noncomputable def cmp_Less_int_code : Code := (Try.f183.body).getD .skip
noncomputable def cmp_Less_int (N : Nat) (x : Int) (y : Int) : Option ((Bool × Unit) × (Unit)) :=
  ((cmp_isNaN_int N x).bind fun r =>
    (br r.1.1
      (((cmp_isNaN_int N y).bind fun r1 =>
        (br (!r1.1.1)
          (some ((true, ()), ()))
          (some (((ilt x y), ()), ())))))
      (some (((ilt x y), ()), ()))))
noncomputable def cmp_Less_int_S (N : Nat) : FSum := ⟨cmp_Less_int_ps, cmp_Less_int_rs, fun x => cmp_Less_int N x.1 x.2.1⟩
theorem cmp_Less_int_run (N : Nat) (x : argsT cmp_Less_int_ps) : cmp_Less_int N x.1 x.2.1 = funF (cmp_Less_int_G N) tab [] Try.f183 cmp_Less_int_ps cmp_Less_int_rs x := by kernel_rfl
theorem cmp_Less_int_pc (N : Nat) : PC Try.prog 183 (cmp_Less_int_S N) := by
  have e : cmp_Less_int_S N = ⟨cmp_Less_int_ps, cmp_Less_int_rs, funF (cmp_Less_int_G N) tab [] Try.f183 cmp_Less_int_ps cmp_Less_int_rs⟩ := congrArg (FSum.mk cmp_Less_int_ps cmp_Less_int_rs) (funext (cmp_Less_int_run N))
  rw [e]
  exact fun_ok (c := cmp_Less_int_code) progOk (cmp_Less_int_gok N) (draw_ok progOk (cmp_Less_int_gok N)) Try.call183 Try.func183 (by kernel_rfl) (lsOk_at (L := []) trivial) (by kernel_rfl) (by kernel_rfl) (by kernel_rfl) (by kernel_rfl) (by kernel_rfl)
end Go.Proofs.Ythkejedgfhjdiaa
