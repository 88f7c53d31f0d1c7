/- Functions of the program as functions on data. -/
import Derived.Test.YthkejedgfhjdiaaLightTreeFa
set_option linter.all false
namespace Go.Proofs.Ythkejedgfhjdiaa
open Go Go.PV
/-! ### spec_l2Pieces -/
abbrev spec_l2Pieces_ps : List (PV.Mode × Ty) := [(.ro, QILQII), (.ro, LI)]
abbrev spec_l2Pieces_rs : List (Bool × Ty) := [(true, LLI)]
noncomputable def spec_l2Pieces_G (N : Nat) : GTab := gOf [(89, spec_l1Has_S N), (138, spec_l2Reach_S N), (115, spec_l1Put_S N)]
theorem spec_l2Pieces_gok (N : Nat) : GOk Try.prog (spec_l2Pieces_G N) := gOf_ok ⟨spec_l1Has_pc N, spec_l2Reach_pc N, spec_l1Put_pc N, trivial⟩
noncomputable def spec_l2Pieces_code : Code := (Try.f141.body).getD .skip
noncomputable def spec_l2Pieces_l0_0_sh : Sh := ⟨[(1, .one (.ro LI)), (2, .one (.adr 0 0)), (5, .one (.ref 1)), (6, .one (.ref 2)), (7, .one (.ro I)), (8, .one (.ref 3)), (9, .one (.ro I))], [.box [.ro I, .ro LQII], .sl 33 LI .deep, .sl 3 I .own, .sl 3 I .own]⟩
noncomputable def spec_l2Pieces_l0_0_ex : List (Ex × Sh) := [(.exit 2, ⟨[(1, .one (.ro LI)), (2, .one (.adr 0 0)), (5, .one (.ref 1)), (6, .one (.ref 2)), (7, .one (.ro I)), (8, .one (.ref 3))], [.box [.ro I, .ro LQII], .sl 33 LI .deep, .sl 3 I .own, .sl 3 I .own]⟩)]
noncomputable def spec_l2Pieces_l0_0 {R : Type} (N : Nat) (k0 : (List Int) → Int → Int → (List (Int × Int)) → (List (List Int)) → (List Int) → (List Int) → Option R) : Nat → (List Int) → Int → Int → Int → (List (Int × Int)) → (List (List Int)) → (List Int) → (List Int) → Option R
  | 0, _, _, _, _, _, _, _, _ => none
  | K + 1, setv2, i1, kv, o4, o5, o6, o7, o8 =>
    (br (ilt kv (tLen o8))
      ((chk (inb o8 kv)
        ((spec_l1Put N o7 (rdI o8 kv)).bind fun r2 =>
        spec_l2Pieces_l0_0 N k0 K setv2 i1 (IntKind.i64.wrap (kv + 1)) o4 o5 o6 r2.1.1 o8)))
      (k0 setv2 i1 o4 o5 o6 o7 o8))
noncomputable def spec_l2Pieces_l0_0_again {R : Type} (N : Nat) (ks : (j : Nat) → ((spec_l2Pieces_l0_0_ex.getD j (.ret, Sh.none)).2).T → Option R) (k : Nat) (x : spec_l2Pieces_l0_0_sh.T) : Option R :=
  spec_l2Pieces_l0_0 N (fun y0 y1 y2 y3 y4 y5 y6 => ks 0 ((y0, (), (), (), y1, (), ()), ((y2, y3, ()), y4, y5, y6, ()))) k x.1.1 x.1.2.2.2.2.1 x.1.2.2.2.2.2.2.1 x.2.1.1 x.2.1.2.1 x.2.2.1 x.2.2.2.1 x.2.2.2.2.1
noncomputable def spec_l2Pieces_l0_0_s (N : Nat) : LSum := ⟨spec_l2Pieces_l0_0_sh, spec_l2Pieces_l0_0_ex, fun x ks => spec_l2Pieces_l0_0_again N ks N x⟩
theorem spec_l2Pieces_l0_0_step (N : Nat) (R : Type) (k : Nat) (x : spec_l2Pieces_l0_0_sh.T) (ks : (j : Nat) → ((spec_l2Pieces_l0_0_ex.getD j (.ret, Sh.none)).2).T → Option R) : spec_l2Pieces_l0_0_again N ks (k + 1) x = roundF (spec_l2Pieces_G N) tab [] (loopAt (loopAt spec_l2Pieces_code 0) 0) spec_l2Pieces_l0_0_sh spec_l2Pieces_l0_0_ex (fun y => spec_l2Pieces_l0_0_again N ks k y) ks x := by kernel_rfl
theorem spec_l2Pieces_l0_0_ok (N : Nat) : LoopOk Try.prog Try.f141.ntmps (spec_l2Pieces_l0_0_s N) (loopAt (loopAt spec_l2Pieces_code 0) 0) :=
  loop_ok (l := spec_l2Pieces_l0_0_s N) progOk (spec_l2Pieces_gok N) (draw_ok progOk (spec_l2Pieces_gok N)) (fun R k x ks => spec_l2Pieces_l0_0_again N ks k x) (fun _ _ _ => rfl) (fun R k x ks => spec_l2Pieces_l0_0_step N R k x ks) (fun R x ks r h => ⟨N, h⟩) (lsOk_at (L := []) trivial) (by kernel_rfl) (by kernel_rfl)
noncomputable def spec_l2Pieces_l0_sh : Sh := ⟨[(1, .one (.ro LI)), (2, .one (.adr 0 0)), (5, .one (.ref 1)), (6, .one (.ref 2)), (7, .one (.ro I))], [.box [.ro I, .ro LQII], .sl 33 LI .deep, .sl 3 I .own]⟩
noncomputable def spec_l2Pieces_l0_ex : List (Ex × Sh) := [(.exit 0, ⟨[(5, .one (.ref 0))], [.sl 33 LI .deep]⟩)]
noncomputable def spec_l2Pieces_l0 {R : Type} (N : Nat) (k0 : (List (List Int)) → Option R) : Nat → (List Int) → Int → Int → (List (Int × Int)) → (List (List Int)) → (List Int) → Option R
  | 0, _, _, _, _, _, _ => none
  | K + 1, setv1, i, o, o1, o2, o3 =>
    (br (ilt i (tLen setv1))
      ((chk (inb setv1 i)
        ((spec_l1Has N o3 (rdI setv1 i)).bind fun r =>
        (br r.1.1
          (spec_l2Pieces_l0 N k0 K setv1 (IntKind.i64.wrap (i + 1)) o o1 o2 o3)
          ((chk (inb setv1 i)
            ((spec_l2Reach N (o, o1) setv1 (rdI setv1 i)).bind fun r1 =>
            spec_l2Pieces_l0_0 N (fun setv2 i1 o4 o5 o6 o7 o8 => (chk (room o6 [o8])
              (spec_l2Pieces_l0 N k0 K setv2 (IntKind.i64.wrap (i1 + 1)) o4 o5 (tApp o6 [o8]) o7))) N setv1 i 0 o o1 o2 o3 r1.1.1)))))))
      (k0 o2))
noncomputable def spec_l2Pieces_l0_again {R : Type} (N : Nat) (ks : (j : Nat) → ((spec_l2Pieces_l0_ex.getD j (.ret, Sh.none)).2).T → Option R) (k : Nat) (x : spec_l2Pieces_l0_sh.T) : Option R :=
  spec_l2Pieces_l0 N (fun y0 => ks 0 (((), ()), (y0, ()))) k x.1.1 x.1.2.2.2.2.1 x.2.1.1 x.2.1.2.1 x.2.2.1 x.2.2.2.1
noncomputable def spec_l2Pieces_l0_s (N : Nat) : LSum := ⟨spec_l2Pieces_l0_sh, spec_l2Pieces_l0_ex, fun x ks => spec_l2Pieces_l0_again N ks N x⟩
theorem spec_l2Pieces_l0_step (N : Nat) (R : Type) (k : Nat) (x : spec_l2Pieces_l0_sh.T) (ks : (j : Nat) → ((spec_l2Pieces_l0_ex.getD j (.ret, Sh.none)).2).T → Option R) : spec_l2Pieces_l0_again N ks (k + 1) x = roundF (spec_l2Pieces_G N) tab [spec_l2Pieces_l0_0_s N] (loopAt spec_l2Pieces_code 0) spec_l2Pieces_l0_sh spec_l2Pieces_l0_ex (fun y => spec_l2Pieces_l0_again N ks k y) ks x := by kernel_rfl
theorem spec_l2Pieces_l0_ok (N : Nat) : LoopOk Try.prog Try.f141.ntmps (spec_l2Pieces_l0_s N) (loopAt spec_l2Pieces_code 0) :=
  loop_ok (l := spec_l2Pieces_l0_s N) progOk (spec_l2Pieces_gok N) (draw_ok progOk (spec_l2Pieces_gok N)) (fun R k x ks => spec_l2Pieces_l0_again N ks k x) (fun _ _ _ => rfl) (fun R k x ks => spec_l2Pieces_l0_step N R k x ks) (fun R x ks r h => ⟨N, h⟩) (lsOk_at (L := [spec_l2Pieces_l0_0_s N]) ⟨spec_l2Pieces_l0_0_ok N, trivial⟩) (by kernel_rfl) (by kernel_rfl)
noncomputable def spec_l2Pieces (N : Nat) (g : (Int × (List (Int × Int)))) (setv : (List Int)) : Option (((List (List Int)) × Unit) × (Unit)) :=
  spec_l2Pieces_l0 N (fun o => some ((o, ()), ())) N setv 0 g.1 g.2 [] []
noncomputable def spec_l2Pieces_S (N : Nat) : FSum := ⟨spec_l2Pieces_ps, spec_l2Pieces_rs, fun x => spec_l2Pieces N x.1 x.2.1⟩
theorem spec_l2Pieces_run (N : Nat) (x : argsT spec_l2Pieces_ps) : spec_l2Pieces N x.1 x.2.1 = funF (spec_l2Pieces_G N) tab [spec_l2Pieces_l0_s N] Try.f141 spec_l2Pieces_ps spec_l2Pieces_rs x := by kernel_rfl
theorem spec_l2Pieces_pc (N : Nat) : PC Try.prog 141 (spec_l2Pieces_S N) := by
  have e : spec_l2Pieces_S N = ⟨spec_l2Pieces_ps, spec_l2Pieces_rs, funF (spec_l2Pieces_G N) tab [spec_l2Pieces_l0_s N] Try.f141 spec_l2Pieces_ps spec_l2Pieces_rs⟩ := congrArg (FSum.mk spec_l2Pieces_ps spec_l2Pieces_rs) (funext (spec_l2Pieces_run N))
  rw [e]
  exact fun_ok (c := spec_l2Pieces_code) progOk (spec_l2Pieces_gok N) (draw_ok progOk (spec_l2Pieces_gok N)) Try.call141 Try.func141 (by kernel_rfl) (lsOk_at (L := [spec_l2Pieces_l0_s N]) ⟨spec_l2Pieces_l0_ok N, trivial⟩) (by kernel_rfl) (by kernel_rfl) (by kernel_rfl) (by kernel_rfl) (by kernel_rfl)

/-! ### spec_l7Tree -/
abbrev spec_l7Tree_ps : List (PV.Mode × Ty) := [(.ro, QILQII), (.ro, LI)]
abbrev spec_l7Tree_rs : List (Bool × Ty) := [(true, .bool)]
noncomputable def spec_l7Tree_G (N : Nat) : GTab := gOf [(113, spec_l1Rising_S N), (142, spec_l7Part_S N), (143, spec_l2Bits_S N), (141, spec_l2Pieces_S N)]
theorem spec_l7Tree_gok (N : Nat) : GOk Try.prog (spec_l7Tree_G N) := gOf_ok ⟨spec_l1Rising_pc N, spec_l7Part_pc N, spec_l2Bits_pc N, spec_l2Pieces_pc N, trivial⟩
noncomputable def spec_l7Tree_code : Code := (Try.f85.body).getD .skip
noncomputable def spec_l7Tree (N : Nat) (g : (Int × (List (Int × Int)))) (edges : (List Int)) : Option ((Bool × Unit) × (Unit)) :=
  (br (ine (tLen edges) (IntKind.i64.wrap (g.1 - 1)))
    (some ((false, ()), ()))
    (((spec_l1Rising N edges 0 (IntKind.i64.wrap ((tLen g.2) - 1))).bind fun r =>
      (br (!r.1.1)
        (some ((false, ()), ()))
        (((spec_l7Part N (g.1, g.2) edges).bind fun r1 =>
          (chk (ile 0 g.1)
            ((spec_l2Bits N g.1 (IntKind.i64.wrap ((shlI .i64 1 g.1) - 1))).bind fun r2 =>
            ((spec_l2Pieces N (r1.1.1.1, r1.1.1.2) r2.1.1).bind fun r3 =>
              some (((ieq (tLen r3.1.1) 1), ()), ()))))))))))
noncomputable def spec_l7Tree_S (N : Nat) : FSum := ⟨spec_l7Tree_ps, spec_l7Tree_rs, fun x => spec_l7Tree N x.1 x.2.1⟩
theorem spec_l7Tree_run (N : Nat) (x : argsT spec_l7Tree_ps) : spec_l7Tree N x.1 x.2.1 = funF (spec_l7Tree_G N) tab [] Try.f85 spec_l7Tree_ps spec_l7Tree_rs x := by kernel_rfl
theorem spec_l7Tree_pc (N : Nat) : PC Try.prog 85 (spec_l7Tree_S N) := by
  have e : spec_l7Tree_S N = ⟨spec_l7Tree_ps, spec_l7Tree_rs, funF (spec_l7Tree_G N) tab [] Try.f85 spec_l7Tree_ps spec_l7Tree_rs⟩ := congrArg (FSum.mk spec_l7Tree_ps spec_l7Tree_rs) (funext (spec_l7Tree_run N))
  rw [e]
  exact fun_ok (c := spec_l7Tree_code) progOk (spec_l7Tree_gok N) (draw_ok progOk (spec_l7Tree_gok N)) Try.call85 Try.func85 (by kernel_rfl) (lsOk_at (L := []) trivial) (by kernel_rfl) (by kernel_rfl) (by kernel_rfl) (by kernel_rfl) (by kernel_rfl)

/-! ### spec_LightTree -/
abbrev spec_LightTree_ps : List (PV.Mode × Ty) := [(.ro, QILQII), (.ro, LI)]
abbrev spec_LightTree_rs : List (Bool × Ty) := [(true, LI), (true, .bool)]
noncomputable def spec_LightTree_G (N : Nat) : GTab := gOf [(107, spec_l7Weights_S N), (108, spec_l7Light_S N), (85, spec_l7Tree_S N)]
theorem spec_LightTree_gok (N : Nat) : GOk Try.prog (spec_LightTree_G N) := gOf_ok ⟨spec_l7Weights_pc N, spec_l7Light_pc N, spec_l7Tree_pc N, trivial⟩
noncomputable def spec_LightTree_code : Code := (Try.f50.body).getD .skip
noncomputable def spec_LightTree (N : Nat) (g : (Int × (List (Int × Int)))) (weights : (List Int)) : Option (((List Int) × Bool × Unit) × (Unit)) :=
  ((spec_l7Weights N (g.1, g.2) weights).bind fun r =>
    (br (!r.1.1)
      (some (([], false, ()), ()))
      (((spec_l7Light N (g.1, g.2) weights).bind fun r1 =>
        ((spec_l7Tree N (g.1, g.2) r1.1.1).bind fun r2 =>
          (br (!r2.1.1)
            (some (([], false, ()), ()))
            (some ((r1.1.1, true, ()), ()))))))))
noncomputable def spec_LightTree_S (N : Nat) : FSum := ⟨spec_LightTree_ps, spec_LightTree_rs, fun x => spec_LightTree N x.1 x.2.1⟩
theorem spec_LightTree_run (N : Nat) (x : argsT spec_LightTree_ps) : spec_LightTree N x.1 x.2.1 = funF (spec_LightTree_G N) tab [] Try.f50 spec_LightTree_ps spec_LightTree_rs x := by kernel_rfl
theorem spec_LightTree_pc (N : Nat) : PC Try.prog 50 (spec_LightTree_S N) := by
  have e : spec_LightTree_S N = ⟨spec_LightTree_ps, spec_LightTree_rs, funF (spec_LightTree_G N) tab [] Try.f50 spec_LightTree_ps spec_LightTree_rs⟩ := congrArg (FSum.mk spec_LightTree_ps spec_LightTree_rs) (funext (spec_LightTree_run N))
  rw [e]
  exact fun_ok (c := spec_LightTree_code) progOk (spec_LightTree_gok N) (draw_ok progOk (spec_LightTree_gok N)) Try.call50 Try.func50 (by kernel_rfl) (lsOk_at (L := []) trivial) (by kernel_rfl) (by kernel_rfl) (by kernel_rfl) (by kernel_rfl) (by kernel_rfl)

/-! ### impl_between -/
abbrev impl_between_ps : List (PV.Mode × Ty) := [(.ro, I), (.ro, I), (.ro, I)]
abbrev impl_between_rs : List (Bool × Ty) := [(true, .bool)]
noncomputable def impl_between_G (N : Nat) : GTab := gOf []
theorem impl_between_gok (N : Nat) : GOk Try.prog (impl_between_G N) := gOf_ok trivial
noncomputable def impl_between_code : Code := (Try.f64.body).getD .skip
noncomputable def impl_between (N : Nat) (n : Int) (low : Int) (high : Int) : Option ((Bool × Unit) × (Unit)) :=
  (br (ile low n)
    (some (((ile n high), ()), ()))
    (some ((false, ()), ())))
noncomputable def impl_between_S (N : Nat) : FSum := ⟨impl_between_ps, impl_between_rs, fun x => impl_between N x.1 x.2.1 x.2.2.1⟩
theorem impl_between_run (N : Nat) (x : argsT impl_between_ps) : impl_between N x.1 x.2.1 x.2.2.1 = funF (impl_between_G N) tab [] Try.f64 impl_between_ps impl_between_rs x := by kernel_rfl
theorem impl_between_pc (N : Nat) : PC Try.prog 64 (impl_between_S N) := by
  have e : impl_between_S N = ⟨impl_between_ps, impl_between_rs, funF (impl_between_G N) tab [] Try.f64 impl_between_ps impl_between_rs⟩ := congrArg (FSum.mk impl_between_ps impl_between_rs) (funext (impl_between_run N))
  rw [e]
  exact fun_ok (c := impl_between_code) progOk (impl_between_gok N) (draw_ok progOk (impl_between_gok N)) Try.call64 Try.func64 (by kernel_rfl) (lsOk_at (L := []) trivial) (by kernel_rfl) (by kernel_rfl) (by kernel_rfl) (by kernel_rfl) (by kernel_rfl)

/-! ### cmp_isNaN_int -/
abbrev cmp_isNaN_int_ps : List (PV.Mode × Ty) := [(.ro, I)]
abbrev cmp_isNaN_int_rs : List (Bool × Ty) := [(true, .bool)]
noncomputable def cmp_isNaN_int_G (N : Nat) : GTab := gOf []
theorem cmp_isNaN_int_gok (N : Nat) : GOk Try.prog (cmp_isNaN_int_G N) := gOf_ok trivial
noncomputable def cmp_isNaN_int_code : Code := (Try.f200.body).getD .skip
noncomputable def cmp_isNaN_int (N : Nat) (x : Int) : Option ((Bool × Unit) × (Unit)) :=
  some (((ine x x), ()), ())
noncomputable def cmp_isNaN_int_S (N : Nat) : FSum := ⟨cmp_isNaN_int_ps, cmp_isNaN_int_rs, fun x => cmp_isNaN_int N x.1⟩
theorem cmp_isNaN_int_run (N : Nat) (x : argsT cmp_isNaN_int_ps) : cmp_isNaN_int N x.1 = funF (cmp_isNaN_int_G N) tab [] Try.f200 cmp_isNaN_int_ps cmp_isNaN_int_rs x := by kernel_rfl
theorem cmp_isNaN_int_pc (N : Nat) : PC Try.prog 200 (cmp_isNaN_int_S N) := by
  have e : cmp_isNaN_int_S N = ⟨cmp_isNaN_int_ps, cmp_isNaN_int_rs, funF (cmp_isNaN_int_G N) tab [] Try.f200 cmp_isNaN_int_ps cmp_isNaN_int_rs⟩ := congrArg (FSum.mk cmp_isNaN_int_ps cmp_isNaN_int_rs) (funext (cmp_isNaN_int_run N))
  rw [e]
  exact fun_ok (c := cmp_isNaN_int_code) progOk (cmp_isNaN_int_gok N) (draw_ok progOk (cmp_isNaN_int_gok N)) Try.call200 Try.func200 (by kernel_rfl) (lsOk_at (L := []) trivial) (by kernel_rfl) (by kernel_rfl) (by kernel_rfl) (by kernel_rfl) (by kernel_rfl)

/-! ### cmp_Compare_int -/
abbrev cmp_Compare_int_ps : List (PV.Mode × Ty) := [(.ro, I), (.ro, I)]
abbrev cmp_Compare_int_rs : List (Bool × Ty) := [(true, I)]
noncomputable def cmp_Compare_int_G (N : Nat) : GTab := gOf [(200, cmp_isNaN_int_S N)]
theorem cmp_Compare_int_gok (N : Nat) : GOk Try.prog (cmp_Compare_int_G N) := gOf_ok ⟨cmp_isNaN_int_pc N, trivial⟩
noncomputable def cmp_Compare_int_code : Code := (Try.f192.body).getD .skip
noncomputable def cmp_Compare_int (N : Nat) (x : Int) (y : Int) : Option ((Int × Unit) × (Unit)) :=
  ((cmp_isNaN_int N x).bind fun r =>
    ((cmp_isNaN_int N y).bind fun r1 =>
      (br r.1.1
        ((br r1.1.1
          (some ((0, ()), ()))
          (some (((-1), ()), ()))))
        ((br r1.1.1
          (some ((1, ()), ()))
          ((br (ilt x y)
            (some (((-1), ()), ()))
            ((br (ilt y x)
              (some ((1, ()), ()))
              (some ((0, ()), ())))))))))))
noncomputable def cmp_Compare_int_S (N : Nat) : FSum := ⟨cmp_Compare_int_ps, cmp_Compare_int_rs, fun x => cmp_Compare_int N x.1 x.2.1⟩
theorem cmp_Compare_int_run (N : Nat) (x : argsT cmp_Compare_int_ps) : cmp_Compare_int N x.1 x.2.1 = funF (cmp_Compare_int_G N) tab [] Try.f192 cmp_Compare_int_ps cmp_Compare_int_rs x := by kernel_rfl
theorem cmp_Compare_int_pc (N : Nat) : PC Try.prog 192 (cmp_Compare_int_S N) := by
  have e : cmp_Compare_int_S N = ⟨cmp_Compare_int_ps, cmp_Compare_int_rs, funF (cmp_Compare_int_G N) tab [] Try.f192 cmp_Compare_int_ps cmp_Compare_int_rs⟩ := congrArg (FSum.mk cmp_Compare_int_ps cmp_Compare_int_rs) (funext (cmp_Compare_int_run N))
  rw [e]
  exact fun_ok (c := cmp_Compare_int_code) progOk (cmp_Compare_int_gok N) (draw_ok progOk (cmp_Compare_int_gok N)) Try.call192 Try.func192 (by kernel_rfl) (lsOk_at (L := []) trivial) (by kernel_rfl) (by kernel_rfl) (by kernel_rfl) (by kernel_rfl) (by kernel_rfl)

/-! ### cmp_Or_int -/
abbrev cmp_Or_int_ps : List (PV.Mode × Ty) := [(.ro, LI)]
abbrev cmp_Or_int_rs : List (Bool × Ty) := [(true, I)]
noncomputable def cmp_Or_int_G (N : Nat) : GTab := gOf []
theorem cmp_Or_int_gok (N : Nat) : GOk Try.prog (cmp_Or_int_G N) := gOf_ok trivial
noncomputable def cmp_Or_int_code : Code := (Try.f191.body).getD .skip
noncomputable def cmp_Or_int_l0_sh : Sh := ⟨[(3, .one (.ro I)), (6, .one (.ro LI)), (7, .one (.ro I)), (8, .one (.ro I))], []⟩
noncomputable def cmp_Or_int_l0_ex : List (Ex × Sh) := [(.ret, ⟨[(2, .one (.ro I))], []⟩), (.exit 0, ⟨[(3, .one (.ro I))], []⟩)]
noncomputable def cmp_Or_int_l0 {R : Type} (N : Nat) (k0 : Int → Option R) (k1 : Int → Option R) : Nat → Int → (List Int) → Int → Int → Option R
  | 0, _, _, _, _ => none
  | K + 1, zero, x, x1, x2 =>
    (br (ilt x2 x1)
      ((chk (inb x x2)
        (br (ine (rdI x x2) zero)
        (k0 (rdI x x2))
        (cmp_Or_int_l0 N k0 k1 K zero x x1 (IntKind.i64.wrap (x2 + 1))))))
      (k1 zero))
noncomputable def cmp_Or_int_l0_again {R : Type} (N : Nat) (ks : (j : Nat) → ((cmp_Or_int_l0_ex.getD j (.ret, Sh.none)).2).T → Option R) (k : Nat) (x : cmp_Or_int_l0_sh.T) : Option R :=
  cmp_Or_int_l0 N (fun y0 => ks 0 ((y0, ()), ())) (fun y0 => ks 1 ((y0, ()), ())) k x.1.1 x.1.2.1 x.1.2.2.1 x.1.2.2.2.1
noncomputable def cmp_Or_int_l0_s (N : Nat) : LSum := ⟨cmp_Or_int_l0_sh, cmp_Or_int_l0_ex, fun x ks => cmp_Or_int_l0_again N ks N x⟩
theorem cmp_Or_int_l0_step (N : Nat) (R : Type) (k : Nat) (x : cmp_Or_int_l0_sh.T) (ks : (j : Nat) → ((cmp_Or_int_l0_ex.getD j (.ret, Sh.none)).2).T → Option R) : cmp_Or_int_l0_again N ks (k + 1) x = roundF (cmp_Or_int_G N) tab [] (loopAt cmp_Or_int_code 0) cmp_Or_int_l0_sh cmp_Or_int_l0_ex (fun y => cmp_Or_int_l0_again N ks k y) ks x := by kernel_rfl
theorem cmp_Or_int_l0_ok (N : Nat) : LoopOk Try.prog Try.f191.ntmps (cmp_Or_int_l0_s N) (loopAt cmp_Or_int_code 0) :=
  loop_ok (l := cmp_Or_int_l0_s N) progOk (cmp_Or_int_gok N) (draw_ok progOk (cmp_Or_int_gok N)) (fun R k x ks => cmp_Or_int_l0_again N ks k x) (fun _ _ _ => rfl) (fun R k x ks => cmp_Or_int_l0_step N R k x ks) (fun R x ks r h => ⟨N, h⟩) (lsOk_at (L := []) trivial) (by kernel_rfl) (by kernel_rfl)
noncomputable def cmp_Or_int (N : Nat) (vals : (List Int)) : Option ((Int × Unit) × (Unit)) :=
  cmp_Or_int_l0 N (fun x => some ((x, ()), ())) (fun zero => some ((zero, ()), ())) N 0 vals (tLen vals) 0
noncomputable def cmp_Or_int_S (N : Nat) : FSum := ⟨cmp_Or_int_ps, cmp_Or_int_rs, fun x => cmp_Or_int N x.1⟩
theorem cmp_Or_int_run (N : Nat) (x : argsT cmp_Or_int_ps) : cmp_Or_int N x.1 = funF (cmp_Or_int_G N) tab [cmp_Or_int_l0_s N] Try.f191 cmp_Or_int_ps cmp_Or_int_rs x := by kernel_rfl
theorem cmp_Or_int_pc (N : Nat) : PC Try.prog 191 (cmp_Or_int_S N) := by
  have e : cmp_Or_int_S N = ⟨cmp_Or_int_ps, cmp_Or_int_rs, funF (cmp_Or_int_G N) tab [cmp_Or_int_l0_s N] Try.f191 cmp_Or_int_ps cmp_Or_int_rs⟩ := congrArg (FSum.mk cmp_Or_int_ps cmp_Or_int_rs) (funext (cmp_Or_int_run N))
  rw [e]
  exact fun_ok (c := cmp_Or_int_code) progOk (cmp_Or_int_gok N) (draw_ok progOk (cmp_Or_int_gok N)) Try.call191 Try.func191 (by kernel_rfl) (lsOk_at (L := [cmp_Or_int_l0_s N]) ⟨cmp_Or_int_l0_ok N, trivial⟩) (by kernel_rfl) (by kernel_rfl) (by kernel_rfl) (by kernel_rfl) (by kernel_rfl)

/-! ### impl_comparePairs -/
abbrev impl_comparePairs_ps : List (PV.Mode × Ty) := [(.ro, QII), (.ro, QII)]
abbrev impl_comparePairs_rs : List (Bool × Ty) := [(true, I)]
noncomputable def impl_comparePairs_G (N : Nat) : GTab := gOf [(192, cmp_Compare_int_S N), (191, cmp_Or_int_S N)]
theorem impl_comparePairs_gok (N : Nat) : GOk Try.prog (impl_comparePairs_G N) := gOf_ok ⟨cmp_Compare_int_pc N, cmp_Or_int_pc N, trivial⟩
noncomputable def impl_comparePairs_code : Code := (Try.f167.body).getD .skip
noncomputable def impl_comparePairs (N : Nat) (a : (Int × Int)) (b : (Int × Int)) : Option ((Int × Unit) × (Unit)) :=
  ((cmp_Compare_int N a.1 b.1).bind fun r =>
    ((cmp_Compare_int N a.2 b.2).bind fun r1 =>
      ((cmp_Or_int N [r.1.1, r1.1.1]).bind fun r2 =>
        some ((r2.1.1, ()), ()))))
noncomputable def impl_comparePairs_S (N : Nat) : FSum := ⟨impl_comparePairs_ps, impl_comparePairs_rs, fun x => impl_comparePairs N x.1 x.2.1⟩
theorem impl_comparePairs_run (N : Nat) (x : argsT impl_comparePairs_ps) : impl_comparePairs N x.1 x.2.1 = funF (impl_comparePairs_G N) tab [] Try.f167 impl_comparePairs_ps impl_comparePairs_rs x := by kernel_rfl
theorem impl_comparePairs_pc (N : Nat) : PC Try.prog 167 (impl_comparePairs_S N) := by
  have e : impl_comparePairs_S N = ⟨impl_comparePairs_ps, impl_comparePairs_rs, funF (impl_comparePairs_G N) tab [] Try.f167 impl_comparePairs_ps impl_comparePairs_rs⟩ := congrArg (FSum.mk impl_comparePairs_ps impl_comparePairs_rs) (funext (impl_comparePairs_run N))
  rw [e]
  exact fun_ok (c := impl_comparePairs_code) progOk (impl_comparePairs_gok N) (draw_ok progOk (impl_comparePairs_gok N)) Try.call167 Try.func167 (by kernel_rfl) (lsOk_at (L := []) trivial) (by kernel_rfl) (by kernel_rfl) (by kernel_rfl) (by kernel_rfl) (by kernel_rfl)

/-! ### impl_isPairs -/
abbrev impl_isPairs_ps : List (PV.Mode × Ty) := [(.ro, LQII), (.ro, I)]
abbrev impl_isPairs_rs : List (Bool × Ty) := [(true, .bool)]
noncomputable def impl_isPairs_G (N : Nat) : GTab := gOf [(167, impl_comparePairs_S N)]
theorem impl_isPairs_gok (N : Nat) : GOk Try.prog (impl_isPairs_G N) := gOf_ok ⟨impl_comparePairs_pc N, trivial⟩
noncomputable def impl_isPairs_code : Code := (Try.f144.body).getD .skip
noncomputable def impl_isPairs_l0_sh : Sh := ⟨[(0, .one (.ro LQII)), (1, .one (.ro I)), (7, .one (.ro LQII)), (8, .one (.ro I)), (9, .one (.ro I))], []⟩
noncomputable def impl_isPairs_l0_ex : List (Ex × Sh) := [(.ret, ⟨[(4, .one (.ro .bool))], []⟩), (.exit 0, ⟨[], []⟩)]
noncomputable def impl_isPairs_l0 {R : Type} (N : Nat) (k0 : Bool → Option R) (k1 : Unit → Option R) : Nat → (List (Int × Int)) → Int → (List (Int × Int)) → Int → Int → Option R
  | 0, _, _, _, _, _ => none
  | K + 1, list1, below1, x, x1, x2 =>
    (br (ilt x2 x1)
      ((chk (inb x x2)
        (br (ilt ((rdP x x2).1) 0)
        (k0 false)
        ((br (ile ((rdP x x2).2) ((rdP x x2).1))
          (k0 false)
          ((br (ile below1 ((rdP x x2).2))
            (k0 false)
            ((br (ilt 0 x2)
              ((chk (inb list1 (IntKind.i64.wrap (x2 - 1)))
                ((impl_comparePairs N (rdP list1 (IntKind.i64.wrap (x2 - 1))) ((rdP x x2).1, (rdP x x2).2)).bind fun r =>
                (br (ile 0 r.1.1)
                  (k0 false)
                  (impl_isPairs_l0 N k0 k1 K list1 below1 x x1 (IntKind.i64.wrap (x2 + 1)))))))
              (impl_isPairs_l0 N k0 k1 K list1 below1 x x1 (IntKind.i64.wrap (x2 + 1))))))))))))
      (k1 ()))
noncomputable def impl_isPairs_l0_again {R : Type} (N : Nat) (ks : (j : Nat) → ((impl_isPairs_l0_ex.getD j (.ret, Sh.none)).2).T → Option R) (k : Nat) (x : impl_isPairs_l0_sh.T) : Option R :=
  impl_isPairs_l0 N (fun y0 => ks 0 ((y0, ()), ())) (fun (_ : Unit) => ks 1 ((), ())) k x.1.1 x.1.2.1 x.1.2.2.1 x.1.2.2.2.1 x.1.2.2.2.2.1
noncomputable def impl_isPairs_l0_s (N : Nat) : LSum := ⟨impl_isPairs_l0_sh, impl_isPairs_l0_ex, fun x ks => impl_isPairs_l0_again N ks N x⟩
theorem impl_isPairs_l0_step (N : Nat) (R : Type) (k : Nat) (x : impl_isPairs_l0_sh.T) (ks : (j : Nat) → ((impl_isPairs_l0_ex.getD j (.ret, Sh.none)).2).T → Option R) : impl_isPairs_l0_again N ks (k + 1) x = roundF (impl_isPairs_G N) tab [] (loopAt impl_isPairs_code 0) impl_isPairs_l0_sh impl_isPairs_l0_ex (fun y => impl_isPairs_l0_again N ks k y) ks x := by kernel_rfl
theorem impl_isPairs_l0_ok (N : Nat) : LoopOk Try.prog Try.f144.ntmps (impl_isPairs_l0_s N) (loopAt impl_isPairs_code 0) :=
  loop_ok (l := impl_isPairs_l0_s N) progOk (impl_isPairs_gok N) (draw_ok progOk (impl_isPairs_gok N)) (fun R k x ks => impl_isPairs_l0_again N ks k x) (fun _ _ _ => rfl) (fun R k x ks => impl_isPairs_l0_step N R k x ks) (fun R x ks r h => ⟨N, h⟩) (lsOk_at (L := []) trivial) (by kernel_rfl) (by kernel_rfl)
noncomputable def impl_isPairs (N : Nat) (list : (List (Int × Int))) (below : Int) : Option ((Bool × Unit) × (Unit)) :=
  impl_isPairs_l0 N (fun x => some ((x, ()), ())) (fun (_ : Unit) => some ((true, ()), ())) N list below list (tLen list) 0
noncomputable def impl_isPairs_S (N : Nat) : FSum := ⟨impl_isPairs_ps, impl_isPairs_rs, fun x => impl_isPairs N x.1 x.2.1⟩
theorem impl_isPairs_run (N : Nat) (x : argsT impl_isPairs_ps) : impl_isPairs N x.1 x.2.1 = funF (impl_isPairs_G N) tab [impl_isPairs_l0_s N] Try.f144 impl_isPairs_ps impl_isPairs_rs x := by kernel_rfl
theorem impl_isPairs_pc (N : Nat) : PC Try.prog 144 (impl_isPairs_S N) := by
  have e : impl_isPairs_S N = ⟨impl_isPairs_ps, impl_isPairs_rs, funF (impl_isPairs_G N) tab [impl_isPairs_l0_s N] Try.f144 impl_isPairs_ps impl_isPairs_rs⟩ := congrArg (FSum.mk impl_isPairs_ps impl_isPairs_rs) (funext (impl_isPairs_run N))
  rw [e]
  exact fun_ok (c := impl_isPairs_code) progOk (impl_isPairs_gok N) (draw_ok progOk (impl_isPairs_gok N)) Try.call144 Try.func144 (by kernel_rfl) (lsOk_at (L := [impl_isPairs_l0_s N]) ⟨impl_isPairs_l0_ok N, trivial⟩) (by kernel_rfl) (by kernel_rfl) (by kernel_rfl) (by kernel_rfl) (by kernel_rfl)

/-! ### impl_IsGraph -/
abbrev impl_IsGraph_ps : List (PV.Mode × Ty) := [(.ro, QILQII)]
abbrev impl_IsGraph_rs : List (Bool × Ty) := [(true, .bool)]
noncomputable def impl_IsGraph_G (N : Nat) : GTab := gOf [(64, impl_between_S N), (144, impl_isPairs_S N)]
theorem impl_IsGraph_gok (N : Nat) : GOk Try.prog (impl_IsGraph_G N) := gOf_ok ⟨impl_between_pc N, impl_isPairs_pc N, trivial⟩
noncomputable def impl_IsGraph_code : Code := (Try.f86.body).getD .skip
noncomputable def impl_IsGraph (N : Nat) (g : (Int × (List (Int × Int)))) : Option ((Bool × Unit) × (Unit)) :=
  ((impl_between N g.1 0 8).bind fun r =>
    (br r.1.1
      (((impl_isPairs N g.2 g.1).bind fun r1 =>
        some ((r1.1.1, ()), ())))
      (some ((false, ()), ()))))
noncomputable def impl_IsGraph_S (N : Nat) : FSum := ⟨impl_IsGraph_ps, impl_IsGraph_rs, fun x => impl_IsGraph N x.1⟩
theorem impl_IsGraph_run (N : Nat) (x : argsT impl_IsGraph_ps) : impl_IsGraph N x.1 = funF (impl_IsGraph_G N) tab [] Try.f86 impl_IsGraph_ps impl_IsGraph_rs x := by kernel_rfl
theorem impl_IsGraph_pc (N : Nat) : PC Try.prog 86 (impl_IsGraph_S N) := by
  have e : impl_IsGraph_S N = ⟨impl_IsGraph_ps, impl_IsGraph_rs, funF (impl_IsGraph_G N) tab [] Try.f86 impl_IsGraph_ps impl_IsGraph_rs⟩ := congrArg (FSum.mk impl_IsGraph_ps impl_IsGraph_rs) (funext (impl_IsGraph_run N))
  rw [e]
  exact fun_ok (c := impl_IsGraph_code) progOk (impl_IsGraph_gok N) (draw_ok progOk (impl_IsGraph_gok N)) Try.call86 Try.func86 (by kernel_rfl) (lsOk_at (L := []) trivial) (by kernel_rfl) (by kernel_rfl) (by kernel_rfl) (by kernel_rfl) (by kernel_rfl)

/-! ### slices_IndexFunc_LI_int -/
abbrev slices_IndexFunc_LI_int_ps : List (PV.Mode × Ty) := [(.ro, LI), (.ro, FIBo)]
abbrev slices_IndexFunc_LI_int_rs : List (Bool × Ty) := [(true, I)]
noncomputable def slices_IndexFunc_LI_int_G (N : Nat) : GTab := gOf []
theorem slices_IndexFunc_LI_int_gok (N : Nat) : GOk Try.prog (slices_IndexFunc_LI_int_G N) := gOf_ok trivial
noncomputable def slices_IndexFunc_LI_int_code : Code := (Try.f165.body).getD .skip
noncomputable def slices_IndexFunc_LI_int_l0_sh : Sh := ⟨[(0, .one (.ro LI)), (1, .one (.ro FIBo)), (7, .one (.ro I)), (8, .one (.ro I))], []⟩
noncomputable def slices_IndexFunc_LI_int_l0_ex : List (Ex × Sh) := [(.ret, ⟨[(4, .one (.ro I))], []⟩), (.exit 0, ⟨[], []⟩)]
noncomputable def slices_IndexFunc_LI_int_l0 {R : Type} (N : Nat) (k0 : Int → Option R) (k1 : Unit → Option R) : Nat → (List Int) → (Int → Option Bool) → Int → Int → Option R
  | 0, _, _, _, _ => none
  | K + 1, s1, f1, x, x1 =>
    (br (ilt x1 x)
      ((chk (inb s1 x1)
        ((f1 (rdI s1 x1)).bind fun v =>
        (br v
        (k0 x1)
        (slices_IndexFunc_LI_int_l0 N k0 k1 K s1 f1 x (IntKind.i64.wrap (x1 + 1)))))))
      (k1 ()))
noncomputable def slices_IndexFunc_LI_int_l0_again {R : Type} (N : Nat) (ks : (j : Nat) → ((slices_IndexFunc_LI_int_l0_ex.getD j (.ret, Sh.none)).2).T → Option R) (k : Nat) (x : slices_IndexFunc_LI_int_l0_sh.T) : Option R :=
  slices_IndexFunc_LI_int_l0 N (fun y0 => ks 0 ((y0, ()), ())) (fun (_ : Unit) => ks 1 ((), ())) k x.1.1 x.1.2.1 x.1.2.2.1 x.1.2.2.2.1
noncomputable def slices_IndexFunc_LI_int_l0_s (N : Nat) : LSum := ⟨slices_IndexFunc_LI_int_l0_sh, slices_IndexFunc_LI_int_l0_ex, fun x ks => slices_IndexFunc_LI_int_l0_again N ks N x⟩
theorem slices_IndexFunc_LI_int_l0_step (N : Nat) (R : Type) (k : Nat) (x : slices_IndexFunc_LI_int_l0_sh.T) (ks : (j : Nat) → ((slices_IndexFunc_LI_int_l0_ex.getD j (.ret, Sh.none)).2).T → Option R) : slices_IndexFunc_LI_int_l0_again N ks (k + 1) x = roundF (slices_IndexFunc_LI_int_G N) tab [] (loopAt slices_IndexFunc_LI_int_code 0) slices_IndexFunc_LI_int_l0_sh slices_IndexFunc_LI_int_l0_ex (fun y => slices_IndexFunc_LI_int_l0_again N ks k y) ks x := by kernel_rfl
theorem slices_IndexFunc_LI_int_l0_ok (N : Nat) : LoopOk Try.prog Try.f165.ntmps (slices_IndexFunc_LI_int_l0_s N) (loopAt slices_IndexFunc_LI_int_code 0) :=
  loop_ok (l := slices_IndexFunc_LI_int_l0_s N) progOk (slices_IndexFunc_LI_int_gok N) (draw_ok progOk (slices_IndexFunc_LI_int_gok N)) (fun R k x ks => slices_IndexFunc_LI_int_l0_again N ks k x) (fun _ _ _ => rfl) (fun R k x ks => slices_IndexFunc_LI_int_l0_step N R k x ks) (fun R x ks r h => ⟨N, h⟩) (lsOk_at (L := []) trivial) (by kernel_rfl) (by kernel_rfl)
noncomputable def slices_IndexFunc_LI_int (N : Nat) (s : (List Int)) (f : (Int → Option Bool)) : Option ((Int × Unit) × (Unit)) :=
  slices_IndexFunc_LI_int_l0 N (fun x => some ((x, ()), ())) (fun (_ : Unit) => some (((-1), ()), ())) N s f (tLen s) 0
noncomputable def slices_IndexFunc_LI_int_S (N : Nat) : FSum := ⟨slices_IndexFunc_LI_int_ps, slices_IndexFunc_LI_int_rs, fun x => slices_IndexFunc_LI_int N x.1 x.2.1⟩
theorem slices_IndexFunc_LI_int_run (N : Nat) (x : argsT slices_IndexFunc_LI_int_ps) : slices_IndexFunc_LI_int N x.1 x.2.1 = funF (slices_IndexFunc_LI_int_G N) tab [slices_IndexFunc_LI_int_l0_s N] Try.f165 slices_IndexFunc_LI_int_ps slices_IndexFunc_LI_int_rs x := by kernel_rfl
theorem slices_IndexFunc_LI_int_pc (N : Nat) : PC Try.prog 165 (slices_IndexFunc_LI_int_S N) := by
  have e : slices_IndexFunc_LI_int_S N = ⟨slices_IndexFunc_LI_int_ps, slices_IndexFunc_LI_int_rs, funF (slices_IndexFunc_LI_int_G N) tab [slices_IndexFunc_LI_int_l0_s N] Try.f165 slices_IndexFunc_LI_int_ps slices_IndexFunc_LI_int_rs⟩ := congrArg (FSum.mk slices_IndexFunc_LI_int_ps slices_IndexFunc_LI_int_rs) (funext (slices_IndexFunc_LI_int_run N))
  rw [e]
  exact fun_ok (c := slices_IndexFunc_LI_int_code) progOk (slices_IndexFunc_LI_int_gok N) (draw_ok progOk (slices_IndexFunc_LI_int_gok N)) Try.call165 Try.func165 (by kernel_rfl) (lsOk_at (L := [slices_IndexFunc_LI_int_l0_s N]) ⟨slices_IndexFunc_LI_int_l0_ok N, trivial⟩) (by kernel_rfl) (by kernel_rfl) (by kernel_rfl) (by kernel_rfl) (by kernel_rfl)

/-! ### slices_ContainsFunc_LI_int -/
abbrev slices_ContainsFunc_LI_int_ps : List (PV.Mode × Ty) := [(.ro, LI), (.ro, FIBo)]
abbrev slices_ContainsFunc_LI_int_rs : List (Bool × Ty) := [(true, .bool)]
noncomputable def slices_ContainsFunc_LI_int_G (N : Nat) : GTab := gOf [(165, slices_IndexFunc_LI_int_S N)]
theorem slices_ContainsFunc_LI_int_gok (N : Nat) : GOk Try.prog (slices_ContainsFunc_LI_int_G N) := gOf_ok ⟨slices_IndexFunc_LI_int_pc N, trivial⟩
noncomputable def slices_ContainsFunc_LI_int_code : Code := (Try.f130.body).getD .skip
noncomputable def slices_ContainsFunc_LI_int (N : Nat) (s : (List Int)) (f : (Int → Option Bool)) : Option ((Bool × Unit) × (Unit)) :=
  ((slices_IndexFunc_LI_int N s f).bind fun r =>
    some (((ile 0 r.1.1), ()), ()))
noncomputable def slices_ContainsFunc_LI_int_S (N : Nat) : FSum := ⟨slices_ContainsFunc_LI_int_ps, slices_ContainsFunc_LI_int_rs, fun x => slices_ContainsFunc_LI_int N x.1 x.2.1⟩
theorem slices_ContainsFunc_LI_int_run (N : Nat) (x : argsT slices_ContainsFunc_LI_int_ps) : slices_ContainsFunc_LI_int N x.1 x.2.1 = funF (slices_ContainsFunc_LI_int_G N) tab [] Try.f130 slices_ContainsFunc_LI_int_ps slices_ContainsFunc_LI_int_rs x := by kernel_rfl
theorem slices_ContainsFunc_LI_int_pc (N : Nat) : PC Try.prog 130 (slices_ContainsFunc_LI_int_S N) := by
  have e : slices_ContainsFunc_LI_int_S N = ⟨slices_ContainsFunc_LI_int_ps, slices_ContainsFunc_LI_int_rs, funF (slices_ContainsFunc_LI_int_G N) tab [] Try.f130 slices_ContainsFunc_LI_int_ps slices_ContainsFunc_LI_int_rs⟩ := congrArg (FSum.mk slices_ContainsFunc_LI_int_ps slices_ContainsFunc_LI_int_rs) (funext (slices_ContainsFunc_LI_int_run N))
  rw [e]
  exact fun_ok (c := slices_ContainsFunc_LI_int_code) progOk (slices_ContainsFunc_LI_int_gok N) (draw_ok progOk (slices_ContainsFunc_LI_int_gok N)) Try.call130 Try.func130 (by kernel_rfl) (lsOk_at (L := []) trivial) (by kernel_rfl) (by kernel_rfl) (by kernel_rfl) (by kernel_rfl) (by kernel_rfl)

/-! ### impl_isWeighted_c1 -/
abbrev impl_isWeighted_c1_ps : List (PV.Mode × Ty) := [(.ro, I)]
abbrev impl_isWeighted_c1_rs : List (Bool × Ty) := [(true, .bool)]
noncomputable def impl_isWeighted_c1_G (N : Nat) : GTab := gOf [(64, impl_between_S N)]
theorem impl_isWeighted_c1_gok (N : Nat) : GOk Try.prog (impl_isWeighted_c1_G N) := gOf_ok ⟨impl_between_pc N, trivial⟩
noncomputable def impl_isWeighted_c1_code : Code := (Try.f158.body).getD .skip
noncomputable def impl_isWeighted_c1 (N : Nat) (w : Int) : Option ((Bool × Unit) × (Unit)) :=
  ((impl_between N w 0 99).bind fun r =>
    some (((!r.1.1), ()), ()))
noncomputable def impl_isWeighted_c1_S (N : Nat) : FSum := ⟨impl_isWeighted_c1_ps, impl_isWeighted_c1_rs, fun x => impl_isWeighted_c1 N x.1⟩
theorem impl_isWeighted_c1_run (N : Nat) (x : argsT impl_isWeighted_c1_ps) : impl_isWeighted_c1 N x.1 = funF (impl_isWeighted_c1_G N) tab [] Try.f158 impl_isWeighted_c1_ps impl_isWeighted_c1_rs x := by kernel_rfl
theorem impl_isWeighted_c1_pc (N : Nat) : PC Try.prog 158 (impl_isWeighted_c1_S N) := by
  have e : impl_isWeighted_c1_S N = ⟨impl_isWeighted_c1_ps, impl_isWeighted_c1_rs, funF (impl_isWeighted_c1_G N) tab [] Try.f158 impl_isWeighted_c1_ps impl_isWeighted_c1_rs⟩ := congrArg (FSum.mk impl_isWeighted_c1_ps impl_isWeighted_c1_rs) (funext (impl_isWeighted_c1_run N))
  rw [e]
  exact fun_ok (c := impl_isWeighted_c1_code) progOk (impl_isWeighted_c1_gok N) (draw_ok progOk (impl_isWeighted_c1_gok N)) Try.call158 Try.func158 (by kernel_rfl) (lsOk_at (L := []) trivial) (by kernel_rfl) (by kernel_rfl) (by kernel_rfl) (by kernel_rfl) (by kernel_rfl)

/-! ### impl_isWeighted -/
abbrev impl_isWeighted_ps : List (PV.Mode × Ty) := [(.ro, QILQII), (.ro, LI)]
abbrev impl_isWeighted_rs : List (Bool × Ty) := [(true, .bool)]
noncomputable def impl_isWeighted_G (N : Nat) : GTab := gOf [(86, impl_IsGraph_S N), (130, slices_ContainsFunc_LI_int_S N), (158, impl_isWeighted_c1_S N)]
theorem impl_isWeighted_gok (N : Nat) : GOk Try.prog (impl_isWeighted_G N) := gOf_ok ⟨impl_IsGraph_pc N, slices_ContainsFunc_LI_int_pc N, impl_isWeighted_c1_pc N, trivial⟩
noncomputable def impl_isWeighted_code : Code := (Try.f109.body).getD .skip
noncomputable def impl_isWeighted (N : Nat) (g : (Int × (List (Int × Int)))) (weights : (List Int)) : Option ((Bool × Unit) × (Unit)) :=
  ((impl_IsGraph N (g.1, g.2)).bind fun r =>
    (br r.1.1
      ((br (ilt 0 g.1)
        ((br (ieq (tLen weights) (tLen g.2))
          (((slices_ContainsFunc_LI_int N weights (fun y0 => (impl_isWeighted_c1 N y0).bind fun z => some z.1.1)).bind fun r1 =>
            some (((!r1.1.1), ()), ())))
          (some ((false, ()), ()))))
        (some ((false, ()), ()))))
      (some ((false, ()), ()))))
noncomputable def impl_isWeighted_S (N : Nat) : FSum := ⟨impl_isWeighted_ps, impl_isWeighted_rs, fun x => impl_isWeighted N x.1 x.2.1⟩
theorem impl_isWeighted_run (N : Nat) (x : argsT impl_isWeighted_ps) : impl_isWeighted N x.1 x.2.1 = funF (impl_isWeighted_G N) tab [] Try.f109 impl_isWeighted_ps impl_isWeighted_rs x := by kernel_rfl
theorem impl_isWeighted_pc (N : Nat) : PC Try.prog 109 (impl_isWeighted_S N) := by
  have e : impl_isWeighted_S N = ⟨impl_isWeighted_ps, impl_isWeighted_rs, funF (impl_isWeighted_G N) tab [] Try.f109 impl_isWeighted_ps impl_isWeighted_rs⟩ := congrArg (FSum.mk impl_isWeighted_ps impl_isWeighted_rs) (funext (impl_isWeighted_run N))
  rw [e]
  exact fun_ok (c := impl_isWeighted_code) progOk (impl_isWeighted_gok N) (draw_ok progOk (impl_isWeighted_gok N)) Try.call109 Try.func109 (by kernel_rfl) (lsOk_at (L := []) trivial) (by kernel_rfl) (by kernel_rfl) (by kernel_rfl) (by kernel_rfl) (by kernel_rfl)

/-! ### impl_newJoiner -/
abbrev impl_newJoiner_ps : List (PV.Mode × Ty) := [(.ro, I)]
abbrev impl_newJoiner_rs : List (Bool × Ty) := [(true, LI)]
noncomputable def impl_newJoiner_G (N : Nat) : GTab := gOf []
theorem impl_newJoiner_gok (N : Nat) : GOk Try.prog (impl_newJoiner_G N) := gOf_ok trivial
noncomputable def impl_newJoiner_code : Code := (Try.f93.body).getD .skip
noncomputable def impl_newJoiner_l0_sh : Sh := ⟨[(3, .one (.ref 0)), (6, .one (.ro I)), (7, .one (.ro I))], [.sl 3 I .own]⟩
noncomputable def impl_newJoiner_l0_ex : List (Ex × Sh) := [(.exit 0, ⟨[(3, .one (.ref 0))], [.sl 3 I .own]⟩)]
noncomputable def impl_newJoiner_l0 {R : Type} (N : Nat) (k0 : (List Int) → Option R) : Nat → Int → Int → (List Int) → Option R
  | 0, _, _, _ => none
  | K + 1, x, x1, o =>
    (br (ilt x1 x)
      ((chk (room o [x1])
        (impl_newJoiner_l0 N k0 K x (IntKind.i64.wrap (x1 + 1)) (tApp o [x1]))))
      (k0 o))
noncomputable def impl_newJoiner_l0_again {R : Type} (N : Nat) (ks : (j : Nat) → ((impl_newJoiner_l0_ex.getD j (.ret, Sh.none)).2).T → Option R) (k : Nat) (x : impl_newJoiner_l0_sh.T) : Option R :=
  impl_newJoiner_l0 N (fun y0 => ks 0 (((), ()), (y0, ()))) k x.1.2.1 x.1.2.2.1 x.2.1
noncomputable def impl_newJoiner_l0_s (N : Nat) : LSum := ⟨impl_newJoiner_l0_sh, impl_newJoiner_l0_ex, fun x ks => impl_newJoiner_l0_again N ks N x⟩
theorem impl_newJoiner_l0_step (N : Nat) (R : Type) (k : Nat) (x : impl_newJoiner_l0_sh.T) (ks : (j : Nat) → ((impl_newJoiner_l0_ex.getD j (.ret, Sh.none)).2).T → Option R) : impl_newJoiner_l0_again N ks (k + 1) x = roundF (impl_newJoiner_G N) tab [] (loopAt impl_newJoiner_code 0) impl_newJoiner_l0_sh impl_newJoiner_l0_ex (fun y => impl_newJoiner_l0_again N ks k y) ks x := by kernel_rfl
theorem impl_newJoiner_l0_ok (N : Nat) : LoopOk Try.prog Try.f93.ntmps (impl_newJoiner_l0_s N) (loopAt impl_newJoiner_code 0) :=
  loop_ok (l := impl_newJoiner_l0_s N) progOk (impl_newJoiner_gok N) (draw_ok progOk (impl_newJoiner_gok N)) (fun R k x ks => impl_newJoiner_l0_again N ks k x) (fun _ _ _ => rfl) (fun R k x ks => impl_newJoiner_l0_step N R k x ks) (fun R x ks r h => ⟨N, h⟩) (lsOk_at (L := []) trivial) (by kernel_rfl) (by kernel_rfl)
noncomputable def impl_newJoiner (N : Nat) (size : Int) : Option (((List Int) × Unit) × (Unit)) :=
  impl_newJoiner_l0 N (fun o => some ((o, ()), ())) N size 0 []
noncomputable def impl_newJoiner_S (N : Nat) : FSum := ⟨impl_newJoiner_ps, impl_newJoiner_rs, fun x => impl_newJoiner N x.1⟩
theorem impl_newJoiner_run (N : Nat) (x : argsT impl_newJoiner_ps) : impl_newJoiner N x.1 = funF (impl_newJoiner_G N) tab [impl_newJoiner_l0_s N] Try.f93 impl_newJoiner_ps impl_newJoiner_rs x := by kernel_rfl
theorem impl_newJoiner_pc (N : Nat) : PC Try.prog 93 (impl_newJoiner_S N) := by
  have e : impl_newJoiner_S N = ⟨impl_newJoiner_ps, impl_newJoiner_rs, funF (impl_newJoiner_G N) tab [impl_newJoiner_l0_s N] Try.f93 impl_newJoiner_ps impl_newJoiner_rs⟩ := congrArg (FSum.mk impl_newJoiner_ps impl_newJoiner_rs) (funext (impl_newJoiner_run N))
  rw [e]
  exact fun_ok (c := impl_newJoiner_code) progOk (impl_newJoiner_gok N) (draw_ok progOk (impl_newJoiner_gok N)) Try.call93 Try.func93 (by kernel_rfl) (lsOk_at (L := [impl_newJoiner_l0_s N]) ⟨impl_newJoiner_l0_ok N, trivial⟩) (by kernel_rfl) (by kernel_rfl) (by kernel_rfl) (by kernel_rfl) (by kernel_rfl)

/-! ### impl_joiner_root -/
abbrev impl_joiner_root_ps : List (PV.Mode × Ty) := [(.ro, LI), (.ro, I)]
abbrev impl_joiner_root_rs : List (Bool × Ty) := [(true, I)]
noncomputable def impl_joiner_root_G (N : Nat) : GTab := gOf []
theorem impl_joiner_root_gok (N : Nat) : GOk Try.prog (impl_joiner_root_G N) := gOf_ok trivial
noncomputable def impl_joiner_root_code : Code := (Try.f95.body).getD .skip
noncomputable def impl_joiner_root_l0_sh : Sh := ⟨[(0, .one (.ro LI)), (1, .one (.ro I))], []⟩
noncomputable def impl_joiner_root_l0_ex : List (Ex × Sh) := [(.exit 0, ⟨[(1, .one (.ro I))], []⟩)]
noncomputable def impl_joiner_root_l0 {R : Type} (N : Nat) (k0 : Int → Option R) : Nat → (List Int) → Int → Option R
  | 0, _, _ => none
  | K + 1, j1, x1 =>
    (chk (inb j1 x1)
      (br (ine (rdI j1 x1) x1)
      ((chk (inb j1 x1)
        (impl_joiner_root_l0 N k0 K j1 (rdI j1 x1))))
      (k0 x1)))
noncomputable def impl_joiner_root_l0_again {R : Type} (N : Nat) (ks : (j : Nat) → ((impl_joiner_root_l0_ex.getD j (.ret, Sh.none)).2).T → Option R) (k : Nat) (x : impl_joiner_root_l0_sh.T) : Option R :=
  impl_joiner_root_l0 N (fun y0 => ks 0 ((y0, ()), ())) k x.1.1 x.1.2.1
noncomputable def impl_joiner_root_l0_s (N : Nat) : LSum := ⟨impl_joiner_root_l0_sh, impl_joiner_root_l0_ex, fun x ks => impl_joiner_root_l0_again N ks N x⟩
theorem impl_joiner_root_l0_step (N : Nat) (R : Type) (k : Nat) (x : impl_joiner_root_l0_sh.T) (ks : (j : Nat) → ((impl_joiner_root_l0_ex.getD j (.ret, Sh.none)).2).T → Option R) : impl_joiner_root_l0_again N ks (k + 1) x = roundF (impl_joiner_root_G N) tab [] (loopAt impl_joiner_root_code 0) impl_joiner_root_l0_sh impl_joiner_root_l0_ex (fun y => impl_joiner_root_l0_again N ks k y) ks x := by kernel_rfl
theorem impl_joiner_root_l0_ok (N : Nat) : LoopOk Try.prog Try.f95.ntmps (impl_joiner_root_l0_s N) (loopAt impl_joiner_root_code 0) :=
  loop_ok (l := impl_joiner_root_l0_s N) progOk (impl_joiner_root_gok N) (draw_ok progOk (impl_joiner_root_gok N)) (fun R k x ks => impl_joiner_root_l0_again N ks k x) (fun _ _ _ => rfl) (fun R k x ks => impl_joiner_root_l0_step N R k x ks) (fun R x ks r h => ⟨N, h⟩) (lsOk_at (L := []) trivial) (by kernel_rfl) (by kernel_rfl)
noncomputable def impl_joiner_root (N : Nat) (j : (List Int)) (x : Int) : Option ((Int × Unit) × (Unit)) :=
  impl_joiner_root_l0 N (fun x1 => some ((x1, ()), ())) N j x
noncomputable def impl_joiner_root_S (N : Nat) : FSum := ⟨impl_joiner_root_ps, impl_joiner_root_rs, fun x => impl_joiner_root N x.1 x.2.1⟩
theorem impl_joiner_root_run (N : Nat) (x : argsT impl_joiner_root_ps) : impl_joiner_root N x.1 x.2.1 = funF (impl_joiner_root_G N) tab [impl_joiner_root_l0_s N] Try.f95 impl_joiner_root_ps impl_joiner_root_rs x := by kernel_rfl
theorem impl_joiner_root_pc (N : Nat) : PC Try.prog 95 (impl_joiner_root_S N) := by
  have e : impl_joiner_root_S N = ⟨impl_joiner_root_ps, impl_joiner_root_rs, funF (impl_joiner_root_G N) tab [impl_joiner_root_l0_s N] Try.f95 impl_joiner_root_ps impl_joiner_root_rs⟩ := congrArg (FSum.mk impl_joiner_root_ps impl_joiner_root_rs) (funext (impl_joiner_root_run N))
  rw [e]
  exact fun_ok (c := impl_joiner_root_code) progOk (impl_joiner_root_gok N) (draw_ok progOk (impl_joiner_root_gok N)) Try.call95 Try.func95 (by kernel_rfl) (lsOk_at (L := [impl_joiner_root_l0_s N]) ⟨impl_joiner_root_l0_ok N, trivial⟩) (by kernel_rfl) (by kernel_rfl) (by kernel_rfl) (by kernel_rfl) (by kernel_rfl)

/-! ### impl_joiner_join -/
abbrev impl_joiner_join_ps : List (PV.Mode × Ty) := [(.mut, LI), (.ro, QII)]
abbrev impl_joiner_join_rs : List (Bool × Ty) := [(true, .bool)]
noncomputable def impl_joiner_join_G (N : Nat) : GTab := gOf [(95, impl_joiner_root_S N)]
theorem impl_joiner_join_gok (N : Nat) : GOk Try.prog (impl_joiner_join_G N) := gOf_ok ⟨impl_joiner_root_pc N, trivial⟩
noncomputable def impl_joiner_join_code : Code := (Try.f94.body).getD .skip
noncomputable def impl_joiner_join (N : Nat) (j : (List Int)) (e : (Int × Int)) : Option ((Bool × Unit) × ((List Int) × Unit)) :=
  ((impl_joiner_root N j e.1).bind fun r =>
    ((impl_joiner_root N j e.2).bind fun r1 =>
      (chk (inb j r.1.1)
        (some (((ine r.1.1 r1.1.1), ()), ((tSet j r.1.1 r1.1.1), ()))))))
noncomputable def impl_joiner_join_S (N : Nat) : FSum := ⟨impl_joiner_join_ps, impl_joiner_join_rs, fun x => impl_joiner_join N x.1 x.2.1⟩
theorem impl_joiner_join_run (N : Nat) (x : argsT impl_joiner_join_ps) : impl_joiner_join N x.1 x.2.1 = funF (impl_joiner_join_G N) tab [] Try.f94 impl_joiner_join_ps impl_joiner_join_rs x := by kernel_rfl
theorem impl_joiner_join_pc (N : Nat) : PC Try.prog 94 (impl_joiner_join_S N) := by
  have e : impl_joiner_join_S N = ⟨impl_joiner_join_ps, impl_joiner_join_rs, funF (impl_joiner_join_G N) tab [] Try.f94 impl_joiner_join_ps impl_joiner_join_rs⟩ := congrArg (FSum.mk impl_joiner_join_ps impl_joiner_join_rs) (funext (impl_joiner_join_run N))
  rw [e]
  exact fun_ok (c := impl_joiner_join_code) progOk (impl_joiner_join_gok N) (draw_ok progOk (impl_joiner_join_gok N)) Try.call94 Try.func94 (by kernel_rfl) (lsOk_at (L := []) trivial) (by kernel_rfl) (by kernel_rfl) (by kernel_rfl) (by kernel_rfl) (by kernel_rfl)

/-! ### impl_Graph_lightest -/
abbrev impl_Graph_lightest_ps : List (PV.Mode × Ty) := [(.ro, QILQII), (.ro, LI), (.ro, LI)]
abbrev impl_Graph_lightest_rs : List (Bool × Ty) := [(true, I), (true, .bool)]
noncomputable def impl_Graph_lightest_G (N : Nat) : GTab := gOf [(93, impl_newJoiner_S N), (94, impl_joiner_join_S N)]
theorem impl_Graph_lightest_gok (N : Nat) : GOk Try.prog (impl_Graph_lightest_G N) := gOf_ok ⟨impl_newJoiner_pc N, impl_joiner_join_pc N, trivial⟩
noncomputable def impl_Graph_lightest_code : Code := (Try.f110.body).getD .skip
noncomputable def impl_Graph_lightest_l0_sh : Sh := ⟨[(1, .one (.ro LI)), (3, .one (.adr 0 0)), (8, .one (.ref 1)), (9, .one (.ro I)), (10, .one (.ro I)), (19, .one (.ro LI)), (20, .one (.ro I)), (21, .one (.ro I))], [.box [.ro I, .ro LQII], .sl 3 I .own]⟩
noncomputable def impl_Graph_lightest_l0_ex : List (Ex × Sh) := [(.ret, ⟨[(6, .one (.ro I)), (7, .one (.ro .bool))], []⟩), (.exit 0, ⟨[(1, .one (.ro LI)), (3, .one (.adr 0 0)), (8, .one (.ref 1)), (9, .one (.ro I)), (10, .one (.ro I))], [.box [.ro I, .ro LQII], .sl 3 I .own]⟩)]
noncomputable def impl_Graph_lightest_l0 {R : Type} (N : Nat) (k0 : Int → Bool → Option R) (k1 : (List Int) → Int → Int → Int → (List (Int × Int)) → (List Int) → Option R) : Nat → (List Int) → Int → Int → (List Int) → Int → Int → Int → (List (Int × Int)) → (List Int) → Option R
  | 0, _, _, _, _, _, _, _, _, _ => none
  | K + 1, x, x1, x2, x3, x4, x5, o, o1, o2 =>
    (br (ilt x5 x4)
      ((chk (inb x3 x5)
        (chk (inb o1 (rdI x3 x5))
        ((impl_joiner_join N o2 (rdP o1 (rdI x3 x5))).bind fun r1 =>
        (br (!r1.1.1)
          (k0 0 false)
          ((chk (inb x (rdI x3 x5))
            (impl_Graph_lightest_l0 N k0 k1 K x (IntKind.i64.wrap (x1 + (rdI x (rdI x3 x5)))) (IntKind.i64.wrap (x2 + 1)) x3 x4 (IntKind.i64.wrap (x5 + 1)) o o1 r1.2.1))))))))
      (k1 x x1 x2 o o1 o2))
noncomputable def impl_Graph_lightest_l0_again {R : Type} (N : Nat) (ks : (j : Nat) → ((impl_Graph_lightest_l0_ex.getD j (.ret, Sh.none)).2).T → Option R) (k : Nat) (x : impl_Graph_lightest_l0_sh.T) : Option R :=
  impl_Graph_lightest_l0 N (fun y0 y1 => ks 0 ((y0, y1, ()), ())) (fun y0 y1 y2 y3 y4 y5 => ks 1 ((y0, (), (), y1, y2, ()), ((y3, y4, ()), y5, ()))) k x.1.1 x.1.2.2.2.1 x.1.2.2.2.2.1 x.1.2.2.2.2.2.1 x.1.2.2.2.2.2.2.1 x.1.2.2.2.2.2.2.2.1 x.2.1.1 x.2.1.2.1 x.2.2.1
noncomputable def impl_Graph_lightest_l0_s (N : Nat) : LSum := ⟨impl_Graph_lightest_l0_sh, impl_Graph_lightest_l0_ex, fun x ks => impl_Graph_lightest_l0_again N ks N x⟩
theorem impl_Graph_lightest_l0_step (N : Nat) (R : Type) (k : Nat) (x : impl_Graph_lightest_l0_sh.T) (ks : (j : Nat) → ((impl_Graph_lightest_l0_ex.getD j (.ret, Sh.none)).2).T → Option R) : impl_Graph_lightest_l0_again N ks (k + 1) x = roundF (impl_Graph_lightest_G N) tab [] (loopAt impl_Graph_lightest_code 0) impl_Graph_lightest_l0_sh impl_Graph_lightest_l0_ex (fun y => impl_Graph_lightest_l0_again N ks k y) ks x := by kernel_rfl
theorem impl_Graph_lightest_l0_ok (N : Nat) : LoopOk Try.prog Try.f110.ntmps (impl_Graph_lightest_l0_s N) (loopAt impl_Graph_lightest_code 0) :=
  loop_ok (l := impl_Graph_lightest_l0_s N) progOk (impl_Graph_lightest_gok N) (draw_ok progOk (impl_Graph_lightest_gok N)) (fun R k x ks => impl_Graph_lightest_l0_again N ks k x) (fun _ _ _ => rfl) (fun R k x ks => impl_Graph_lightest_l0_step N R k x ks) (fun R x ks r h => ⟨N, h⟩) (lsOk_at (L := []) trivial) (by kernel_rfl) (by kernel_rfl)
noncomputable def impl_Graph_lightest_l1_0_sh : Sh := ⟨[(1, .one (.ro LI)), (3, .one (.adr 0 0)), (8, .one (.ref 1)), (9, .one (.ro I)), (10, .one (.ro I)), (13, .one (.ro I)), (42, .one (.ro I)), (46, .one (.ro LQII)), (47, .one (.ro I)), (48, .one (.ro I))], [.box [.ro I, .ro LQII], .sl 3 I .own]⟩
noncomputable def impl_Graph_lightest_l1_0_ex : List (Ex × Sh) := [(.exit 4, ⟨[(1, .one (.ro LI)), (3, .one (.adr 0 0)), (8, .one (.ref 1)), (9, .one (.ro I)), (10, .one (.ro I)), (42, .one (.ro I))], [.box [.ro I, .ro LQII], .sl 3 I .own]⟩)]
noncomputable def impl_Graph_lightest_l1_0 {R : Type} (N : Nat) (k0 : (List Int) → Int → Int → Int → Int → (List (Int × Int)) → (List Int) → Option R) : Nat → (List Int) → Int → Int → Int → Int → (List (Int × Int)) → Int → Int → Int → (List (Int × Int)) → (List Int) → Option R
  | 0, _, _, _, _, _, _, _, _, _, _, _ => none
  | K + 1, x9, x10, x11, x12, x13, x14, x15, x16, o6, o7, o8 =>
    (br (ilt x16 x15)
      ((chk (inb x14 x16)
        (chk (inb x9 x16)
        (br (ieq (rdI x9 x16) x12)
        (((impl_joiner_join N o8 ((rdP x14 x16).1, (rdP x14 x16).2)).bind fun r1 =>
          (br r1.1.1
            (impl_Graph_lightest_l1_0 N k0 K x9 (IntKind.i64.wrap (x10 + x12)) (IntKind.i64.wrap (x11 + 1)) x12 x13 x14 x15 (IntKind.i64.wrap (x16 + 1)) o6 o7 r1.2.1)
            (impl_Graph_lightest_l1_0 N k0 K x9 x10 x11 x12 x13 x14 x15 (IntKind.i64.wrap (x16 + 1)) o6 o7 r1.2.1))))
        (impl_Graph_lightest_l1_0 N k0 K x9 x10 x11 x12 x13 x14 x15 (IntKind.i64.wrap (x16 + 1)) o6 o7 o8)))))
      (k0 x9 x10 x11 x13 o6 o7 o8))
noncomputable def impl_Graph_lightest_l1_0_again {R : Type} (N : Nat) (ks : (j : Nat) → ((impl_Graph_lightest_l1_0_ex.getD j (.ret, Sh.none)).2).T → Option R) (k : Nat) (x : impl_Graph_lightest_l1_0_sh.T) : Option R :=
  impl_Graph_lightest_l1_0 N (fun y0 y1 y2 y3 y4 y5 y6 => ks 0 ((y0, (), (), y1, y2, y3, ()), ((y4, y5, ()), y6, ()))) k x.1.1 x.1.2.2.2.1 x.1.2.2.2.2.1 x.1.2.2.2.2.2.1 x.1.2.2.2.2.2.2.1 x.1.2.2.2.2.2.2.2.1 x.1.2.2.2.2.2.2.2.2.1 x.1.2.2.2.2.2.2.2.2.2.1 x.2.1.1 x.2.1.2.1 x.2.2.1
noncomputable def impl_Graph_lightest_l1_0_s (N : Nat) : LSum := ⟨impl_Graph_lightest_l1_0_sh, impl_Graph_lightest_l1_0_ex, fun x ks => impl_Graph_lightest_l1_0_again N ks N x⟩
theorem impl_Graph_lightest_l1_0_step (N : Nat) (R : Type) (k : Nat) (x : impl_Graph_lightest_l1_0_sh.T) (ks : (j : Nat) → ((impl_Graph_lightest_l1_0_ex.getD j (.ret, Sh.none)).2).T → Option R) : impl_Graph_lightest_l1_0_again N ks (k + 1) x = roundF (impl_Graph_lightest_G N) tab [] (loopAt (loopAt impl_Graph_lightest_code 1) 0) impl_Graph_lightest_l1_0_sh impl_Graph_lightest_l1_0_ex (fun y => impl_Graph_lightest_l1_0_again N ks k y) ks x := by kernel_rfl
theorem impl_Graph_lightest_l1_0_ok (N : Nat) : LoopOk Try.prog Try.f110.ntmps (impl_Graph_lightest_l1_0_s N) (loopAt (loopAt impl_Graph_lightest_code 1) 0) :=
  loop_ok (l := impl_Graph_lightest_l1_0_s N) progOk (impl_Graph_lightest_gok N) (draw_ok progOk (impl_Graph_lightest_gok N)) (fun R k x ks => impl_Graph_lightest_l1_0_again N ks k x) (fun _ _ _ => rfl) (fun R k x ks => impl_Graph_lightest_l1_0_step N R k x ks) (fun R x ks r h => ⟨N, h⟩) (lsOk_at (L := []) trivial) (by kernel_rfl) (by kernel_rfl)
noncomputable def impl_Graph_lightest_l1_sh : Sh := ⟨[(1, .one (.ro LI)), (3, .one (.adr 0 0)), (8, .one (.ref 1)), (9, .one (.ro I)), (10, .one (.ro I)), (42, .one (.ro I))], [.box [.ro I, .ro LQII], .sl 3 I .own]⟩
noncomputable def impl_Graph_lightest_l1_ex : List (Ex × Sh) := [(.exit 2, ⟨[(3, .one (.adr 0 0)), (9, .one (.ro I)), (10, .one (.ro I))], [.box [.ro I, .ro LQII]]⟩)]
noncomputable def impl_Graph_lightest_l1 {R : Type} (N : Nat) (k0 : Int → Int → Int → (List (Int × Int)) → Option R) : Nat → (List Int) → Int → Int → Int → Int → (List (Int × Int)) → (List Int) → Option R
  | 0, _, _, _, _, _, _, _ => none
  | K + 1, x5, x6, x7, x8, o3, o4, o5 =>
    (br (ilt x8 100)
      (impl_Graph_lightest_l1_0 N (fun x9 x10 x11 x12 o6 o7 o8 => impl_Graph_lightest_l1 N k0 K x9 x10 x11 (IntKind.i64.wrap (x12 + 1)) o6 o7 o8) N x5 x6 x7 x8 x8 o4 (tLen o4) 0 o3 o4 o5)
      (k0 x6 x7 o3 o4))
noncomputable def impl_Graph_lightest_l1_again {R : Type} (N : Nat) (ks : (j : Nat) → ((impl_Graph_lightest_l1_ex.getD j (.ret, Sh.none)).2).T → Option R) (k : Nat) (x : impl_Graph_lightest_l1_sh.T) : Option R :=
  impl_Graph_lightest_l1 N (fun y0 y1 y2 y3 => ks 0 (((), y0, y1, ()), ((y2, y3, ()), ()))) k x.1.1 x.1.2.2.2.1 x.1.2.2.2.2.1 x.1.2.2.2.2.2.1 x.2.1.1 x.2.1.2.1 x.2.2.1
noncomputable def impl_Graph_lightest_l1_s (N : Nat) : LSum := ⟨impl_Graph_lightest_l1_sh, impl_Graph_lightest_l1_ex, fun x ks => impl_Graph_lightest_l1_again N ks N x⟩
theorem impl_Graph_lightest_l1_step (N : Nat) (R : Type) (k : Nat) (x : impl_Graph_lightest_l1_sh.T) (ks : (j : Nat) → ((impl_Graph_lightest_l1_ex.getD j (.ret, Sh.none)).2).T → Option R) : impl_Graph_lightest_l1_again N ks (k + 1) x = roundF (impl_Graph_lightest_G N) tab [impl_Graph_lightest_l1_0_s N] (loopAt impl_Graph_lightest_code 1) impl_Graph_lightest_l1_sh impl_Graph_lightest_l1_ex (fun y => impl_Graph_lightest_l1_again N ks k y) ks x := by kernel_rfl
theorem impl_Graph_lightest_l1_ok (N : Nat) : LoopOk Try.prog Try.f110.ntmps (impl_Graph_lightest_l1_s N) (loopAt impl_Graph_lightest_code 1) :=
  loop_ok (l := impl_Graph_lightest_l1_s N) progOk (impl_Graph_lightest_gok N) (draw_ok progOk (impl_Graph_lightest_gok N)) (fun R k x ks => impl_Graph_lightest_l1_again N ks k x) (fun _ _ _ => rfl) (fun R k x ks => impl_Graph_lightest_l1_step N R k x ks) (fun R x ks r h => ⟨N, h⟩) (lsOk_at (L := [impl_Graph_lightest_l1_0_s N]) ⟨impl_Graph_lightest_l1_0_ok N, trivial⟩) (by kernel_rfl) (by kernel_rfl)
noncomputable def impl_Graph_lightest (N : Nat) (c : (Int × (List (Int × Int)))) (c1 : (List Int)) (c2 : (List Int)) : Option ((Int × Bool × Unit) × (Unit)) :=
  ((impl_newJoiner N c.1).bind fun r =>
    impl_Graph_lightest_l0 N (fun x x1 => some ((x, x1, ()), ())) (fun x2 x3 x4 o o1 o2 => impl_Graph_lightest_l1 N (fun x5 x6 o3 o4 => some ((x5, (ieq x6 (IntKind.i64.wrap (o3 - 1))), ()), ())) N x2 x3 x4 0 o o1 o2) N c1 0 0 c2 (tLen c2) 0 c.1 c.2 r.1.1)
noncomputable def impl_Graph_lightest_S (N : Nat) : FSum := ⟨impl_Graph_lightest_ps, impl_Graph_lightest_rs, fun x => impl_Graph_lightest N x.1 x.2.1 x.2.2.1⟩
theorem impl_Graph_lightest_run (N : Nat) (x : argsT impl_Graph_lightest_ps) : impl_Graph_lightest N x.1 x.2.1 x.2.2.1 = funF (impl_Graph_lightest_G N) tab [impl_Graph_lightest_l0_s N, impl_Graph_lightest_l1_s N] Try.f110 impl_Graph_lightest_ps impl_Graph_lightest_rs x := by kernel_rfl
theorem impl_Graph_lightest_pc (N : Nat) : PC Try.prog 110 (impl_Graph_lightest_S N) := by
  have e : impl_Graph_lightest_S N = ⟨impl_Graph_lightest_ps, impl_Graph_lightest_rs, funF (impl_Graph_lightest_G N) tab [impl_Graph_lightest_l0_s N, impl_Graph_lightest_l1_s N] Try.f110 impl_Graph_lightest_ps impl_Graph_lightest_rs⟩ := congrArg (FSum.mk impl_Graph_lightest_ps impl_Graph_lightest_rs) (funext (impl_Graph_lightest_run N))
  rw [e]
  exact fun_ok (c := impl_Graph_lightest_code) progOk (impl_Graph_lightest_gok N) (draw_ok progOk (impl_Graph_lightest_gok N)) Try.call110 Try.func110 (by kernel_rfl) (lsOk_at (L := [impl_Graph_lightest_l0_s N, impl_Graph_lightest_l1_s N]) ⟨impl_Graph_lightest_l0_ok N, impl_Graph_lightest_l1_ok N, trivial⟩) (by kernel_rfl) (by kernel_rfl) (by kernel_rfl) (by kernel_rfl) (by kernel_rfl)

/-! ### slices_Clone_LI_int -/
abbrev slices_Clone_LI_int_ps : List (PV.Mode × Ty) := [(.ro, LI)]
abbrev slices_Clone_LI_int_rs : List (Bool × Ty) := [(true, LI)]
noncomputable def slices_Clone_LI_int_G (N : Nat) : GTab := gOf []
theorem slices_Clone_LI_int_gok (N : Nat) : GOk Try.prog (slices_Clone_LI_int_G N) := gOf_ok trivial
noncomputable def slices_Clone_LI_int_code : Code := (Try.f111.body).getD .skip
noncomputable def slices_Clone_LI_int (N : Nat) (s : (List Int)) : Option (((List Int) × Unit) × (Unit)) :=
  (br (ieq (tLen s) 0)
    ((amb
      (some (([], ()), ()))
      ((chk (room (α := Int) (β := Int) [] s)
        (some (((tApp [] s), ()), ()))))))
    ((chk (room (α := Int) (β := Int) [] s)
      (some (((tApp [] s), ()), ())))))
noncomputable def slices_Clone_LI_int_S (N : Nat) : FSum := ⟨slices_Clone_LI_int_ps, slices_Clone_LI_int_rs, fun x => slices_Clone_LI_int N x.1⟩
theorem slices_Clone_LI_int_run (N : Nat) (x : argsT slices_Clone_LI_int_ps) : slices_Clone_LI_int N x.1 = funF (slices_Clone_LI_int_G N) tab [] Try.f111 slices_Clone_LI_int_ps slices_Clone_LI_int_rs x := by kernel_rfl
theorem slices_Clone_LI_int_pc (N : Nat) : PC Try.prog 111 (slices_Clone_LI_int_S N) := by
  have e : slices_Clone_LI_int_S N = ⟨slices_Clone_LI_int_ps, slices_Clone_LI_int_rs, funF (slices_Clone_LI_int_G N) tab [] Try.f111 slices_Clone_LI_int_ps slices_Clone_LI_int_rs⟩ := congrArg (FSum.mk slices_Clone_LI_int_ps slices_Clone_LI_int_rs) (funext (slices_Clone_LI_int_run N))
  rw [e]
  exact fun_ok (c := slices_Clone_LI_int_code) progOk (slices_Clone_LI_int_gok N) (draw_ok progOk (slices_Clone_LI_int_gok N)) Try.call111 Try.func111 (by kernel_rfl) (lsOk_at (L := []) trivial) (by kernel_rfl) (by kernel_rfl) (by kernel_rfl) (by kernel_rfl) (by kernel_rfl)

/-! ### impl_LightTree -/
abbrev impl_LightTree_ps : List (PV.Mode × Ty) := [(.ro, QILQII), (.ro, LI)]
abbrev impl_LightTree_rs : List (Bool × Ty) := [(true, LI), (true, .bool)]
noncomputable def impl_LightTree_G (N : Nat) : GTab := gOf [(109, impl_isWeighted_S N), (110, impl_Graph_lightest_S N), (111, slices_Clone_LI_int_S N)]
theorem impl_LightTree_gok (N : Nat) : GOk Try.prog (impl_LightTree_G N) := gOf_ok ⟨impl_isWeighted_pc N, impl_Graph_lightest_pc N, slices_Clone_LI_int_pc N, trivial⟩
noncomputable def impl_LightTree_code : Code := (Try.f51.body).getD .skip
noncomputable def impl_LightTree_l0_sh : Sh := ⟨[(1, .one (.ro LI)), (2, .one (.adr 0 0)), (6, .one (.ro I)), (8, .one (.ref 1)), (28, .one (.ro I)), (29, .one (.ro I))], [.box [.ro I, .ro LQII], .sl 3 I .own]⟩
noncomputable def impl_LightTree_l0_ex : List (Ex × Sh) := [(.exit 0, ⟨[(8, .one (.ref 0))], [.sl 3 I .own]⟩)]
noncomputable def impl_LightTree_l0 {R : Type} (N : Nat) (k0 : (List Int) → Option R) : Nat → (List Int) → Int → Int → Int → Int → (List (Int × Int)) → (List Int) → Option R
  | 0, _, _, _, _, _, _, _ => none
  | K + 1, weights1, least, x, x1, o, o1, o2 =>
    (br (ilt x1 x)
      (((slices_Clone_LI_int N o2).bind fun r2 =>
        (chk (room r2.1.1 [x1])
          ((impl_Graph_lightest N (o, o1) weights1 (tApp r2.1.1 [x1])).bind fun r3 =>
          (br r3.1.2.1
            ((br (ieq r3.1.1 least)
              (impl_LightTree_l0 N k0 K weights1 least x (IntKind.i64.wrap (x1 + 1)) o o1 (tApp r2.1.1 [x1]))
              (impl_LightTree_l0 N k0 K weights1 least x (IntKind.i64.wrap (x1 + 1)) o o1 o2)))
            (impl_LightTree_l0 N k0 K weights1 least x (IntKind.i64.wrap (x1 + 1)) o o1 o2))))))
      (k0 o2))
noncomputable def impl_LightTree_l0_again {R : Type} (N : Nat) (ks : (j : Nat) → ((impl_LightTree_l0_ex.getD j (.ret, Sh.none)).2).T → Option R) (k : Nat) (x : impl_LightTree_l0_sh.T) : Option R :=
  impl_LightTree_l0 N (fun y0 => ks 0 (((), ()), (y0, ()))) k x.1.1 x.1.2.2.1 x.1.2.2.2.2.1 x.1.2.2.2.2.2.1 x.2.1.1 x.2.1.2.1 x.2.2.1
noncomputable def impl_LightTree_l0_s (N : Nat) : LSum := ⟨impl_LightTree_l0_sh, impl_LightTree_l0_ex, fun x ks => impl_LightTree_l0_again N ks N x⟩
theorem impl_LightTree_l0_step (N : Nat) (R : Type) (k : Nat) (x : impl_LightTree_l0_sh.T) (ks : (j : Nat) → ((impl_LightTree_l0_ex.getD j (.ret, Sh.none)).2).T → Option R) : impl_LightTree_l0_again N ks (k + 1) x = roundF (impl_LightTree_G N) tab [] (loopAt impl_LightTree_code 0) impl_LightTree_l0_sh impl_LightTree_l0_ex (fun y => impl_LightTree_l0_again N ks k y) ks x := by kernel_rfl
theorem impl_LightTree_l0_ok (N : Nat) : LoopOk Try.prog Try.f51.ntmps (impl_LightTree_l0_s N) (loopAt impl_LightTree_code 0) :=
  loop_ok (l := impl_LightTree_l0_s N) progOk (impl_LightTree_gok N) (draw_ok progOk (impl_LightTree_gok N)) (fun R k x ks => impl_LightTree_l0_again N ks k x) (fun _ _ _ => rfl) (fun R k x ks => impl_LightTree_l0_step N R k x ks) (fun R x ks r h => ⟨N, h⟩) (lsOk_at (L := []) trivial) (by kernel_rfl) (by kernel_rfl)
noncomputable def impl_LightTree (N : Nat) (g : (Int × (List (Int × Int)))) (weights : (List Int)) : Option (((List Int) × Bool × Unit) × (Unit)) :=
  ((impl_isWeighted N (g.1, g.2) weights).bind fun r =>
    (br (!r.1.1)
      (some (([], false, ()), ()))
      (((impl_Graph_lightest N (g.1, g.2) weights []).bind fun r1 =>
        (br (!r1.1.2.1)
          (some (([], false, ()), ()))
          (impl_LightTree_l0 N (fun o => some ((o, true, ()), ())) N weights r1.1.1 (tLen g.2) 0 g.1 g.2 []))))))
noncomputable def impl_LightTree_S (N : Nat) : FSum := ⟨impl_LightTree_ps, impl_LightTree_rs, fun x => impl_LightTree N x.1 x.2.1⟩
theorem impl_LightTree_run (N : Nat) (x : argsT impl_LightTree_ps) : impl_LightTree N x.1 x.2.1 = funF (impl_LightTree_G N) tab [impl_LightTree_l0_s N] Try.f51 impl_LightTree_ps impl_LightTree_rs x := by kernel_rfl
theorem impl_LightTree_pc (N : Nat) : PC Try.prog 51 (impl_LightTree_S N) := by
  have e : impl_LightTree_S N = ⟨impl_LightTree_ps, impl_LightTree_rs, funF (impl_LightTree_G N) tab [impl_LightTree_l0_s N] Try.f51 impl_LightTree_ps impl_LightTree_rs⟩ := congrArg (FSum.mk impl_LightTree_ps impl_LightTree_rs) (funext (impl_LightTree_run N))
  rw [e]
  exact fun_ok (c := impl_LightTree_code) progOk (impl_LightTree_gok N) (draw_ok progOk (impl_LightTree_gok N)) Try.call51 Try.func51 (by kernel_rfl) (lsOk_at (L := [impl_LightTree_l0_s N]) ⟨impl_LightTree_l0_ok N, trivial⟩) (by kernel_rfl) (by kernel_rfl) (by kernel_rfl) (by kernel_rfl) (by kernel_rfl)

/-! ### laws_eqIntS -/
abbrev laws_eqIntS_ps : List (PV.Mode × Ty) := [(.ro, LI), (.ro, LI)]
abbrev laws_eqIntS_rs : List (Bool × Ty) := [(true, .bool)]
noncomputable def laws_eqIntS_G (N : Nat) : GTab := gOf []
theorem laws_eqIntS_gok (N : Nat) : GOk Try.prog (laws_eqIntS_G N) := gOf_ok trivial
noncomputable def laws_eqIntS_code : Code := (Try.f35.body).getD .skip
noncomputable def laws_eqIntS_l0_sh : Sh := ⟨[(0, .one (.ro LI)), (1, .one (.ro LI)), (5, .one (.ro I))], []⟩
noncomputable def laws_eqIntS_l0_ex : List (Ex × Sh) := [(.ret, ⟨[(4, .one (.ro .bool))], []⟩), (.exit 0, ⟨[], []⟩)]
noncomputable def laws_eqIntS_l0 {R : Type} (N : Nat) (k0 : Bool → Option R) (k1 : Unit → Option R) : Nat → (List Int) → (List Int) → Int → Option R
  | 0, _, _, _ => none
  | K + 1, a1, b1, i =>
    (br (ilt i (tLen a1))
      ((chk (inb a1 i)
        (chk (inb b1 i)
        (br (ine (rdI a1 i) (rdI b1 i))
        (k0 false)
        (laws_eqIntS_l0 N k0 k1 K a1 b1 (IntKind.i64.wrap (i + 1)))))))
      (k1 ()))
noncomputable def laws_eqIntS_l0_again {R : Type} (N : Nat) (ks : (j : Nat) → ((laws_eqIntS_l0_ex.getD j (.ret, Sh.none)).2).T → Option R) (k : Nat) (x : laws_eqIntS_l0_sh.T) : Option R :=
  laws_eqIntS_l0 N (fun y0 => ks 0 ((y0, ()), ())) (fun (_ : Unit) => ks 1 ((), ())) k x.1.1 x.1.2.1 x.1.2.2.1
noncomputable def laws_eqIntS_l0_s (N : Nat) : LSum := ⟨laws_eqIntS_l0_sh, laws_eqIntS_l0_ex, fun x ks => laws_eqIntS_l0_again N ks N x⟩
theorem laws_eqIntS_l0_step (N : Nat) (R : Type) (k : Nat) (x : laws_eqIntS_l0_sh.T) (ks : (j : Nat) → ((laws_eqIntS_l0_ex.getD j (.ret, Sh.none)).2).T → Option R) : laws_eqIntS_l0_again N ks (k + 1) x = roundF (laws_eqIntS_G N) tab [] (loopAt laws_eqIntS_code 0) laws_eqIntS_l0_sh laws_eqIntS_l0_ex (fun y => laws_eqIntS_l0_again N ks k y) ks x := by kernel_rfl
theorem laws_eqIntS_l0_ok (N : Nat) : LoopOk Try.prog Try.f35.ntmps (laws_eqIntS_l0_s N) (loopAt laws_eqIntS_code 0) :=
  loop_ok (l := laws_eqIntS_l0_s N) progOk (laws_eqIntS_gok N) (draw_ok progOk (laws_eqIntS_gok N)) (fun R k x ks => laws_eqIntS_l0_again N ks k x) (fun _ _ _ => rfl) (fun R k x ks => laws_eqIntS_l0_step N R k x ks) (fun R x ks r h => ⟨N, h⟩) (lsOk_at (L := []) trivial) (by kernel_rfl) (by kernel_rfl)
noncomputable def laws_eqIntS (N : Nat) (a : (List Int)) (b : (List Int)) : Option ((Bool × Unit) × (Unit)) :=
  (br (ine (tLen a) (tLen b))
    (some ((false, ()), ()))
    (laws_eqIntS_l0 N (fun x => some ((x, ()), ())) (fun (_ : Unit) => some ((true, ()), ())) N a b 0))
noncomputable def laws_eqIntS_S (N : Nat) : FSum := ⟨laws_eqIntS_ps, laws_eqIntS_rs, fun x => laws_eqIntS N x.1 x.2.1⟩
theorem laws_eqIntS_run (N : Nat) (x : argsT laws_eqIntS_ps) : laws_eqIntS N x.1 x.2.1 = funF (laws_eqIntS_G N) tab [laws_eqIntS_l0_s N] Try.f35 laws_eqIntS_ps laws_eqIntS_rs x := by kernel_rfl
theorem laws_eqIntS_pc (N : Nat) : PC Try.prog 35 (laws_eqIntS_S N) := by
  have e : laws_eqIntS_S N = ⟨laws_eqIntS_ps, laws_eqIntS_rs, funF (laws_eqIntS_G N) tab [laws_eqIntS_l0_s N] Try.f35 laws_eqIntS_ps laws_eqIntS_rs⟩ := congrArg (FSum.mk laws_eqIntS_ps laws_eqIntS_rs) (funext (laws_eqIntS_run N))
  rw [e]
  exact fun_ok (c := laws_eqIntS_code) progOk (laws_eqIntS_gok N) (draw_ok progOk (laws_eqIntS_gok N)) Try.call35 Try.func35 (by kernel_rfl) (lsOk_at (L := [laws_eqIntS_l0_s N]) ⟨laws_eqIntS_l0_ok N, trivial⟩) (by kernel_rfl) (by kernel_rfl) (by kernel_rfl) (by kernel_rfl) (by kernel_rfl)

/-! ### laws_eqIntA2 -/
abbrev laws_eqIntA2_ps : List (PV.Mode × Ty) := [(.ro, QII), (.ro, QII)]
abbrev laws_eqIntA2_rs : List (Bool × Ty) := [(true, .bool)]
noncomputable def laws_eqIntA2_G (N : Nat) : GTab := gOf []
theorem laws_eqIntA2_gok (N : Nat) : GOk Try.prog (laws_eqIntA2_G N) := gOf_ok trivial
noncomputable def laws_eqIntA2_code : Code := (Try.f140.body).getD .skip
noncomputable def laws_eqIntA2_l0_sh : Sh := ⟨[(2, .one (.adr 0 0)), (3, .one (.adr 1 0)), (5, .one (.num .i64 0))], [.box [.ro I, .ro I], .box [.ro I, .ro I]]⟩
noncomputable def laws_eqIntA2_l0_ex : List (Ex × Sh) := [(.ret, ⟨[(4, .one (.ro .bool))], []⟩), (.exit 0, ⟨[], []⟩)]
noncomputable def laws_eqIntA2_l0 {R : Type} (N : Nat) (k0 : Bool → Option R) (k1 : Unit → Option R) (_ : Nat) (o4 : Int) (o5 : Int) (o6 : Int) (o7 : Int) : Option R :=
  (br (ine o4 o6)
    (k0 false)
    ((br (ine o5 o7)
      (k0 false)
      (k1 ()))))
noncomputable def laws_eqIntA2_l0_again {R : Type} (N : Nat) (ks : (j : Nat) → ((laws_eqIntA2_l0_ex.getD j (.ret, Sh.none)).2).T → Option R) (x : laws_eqIntA2_l0_sh.T) : Option R :=
  laws_eqIntA2_l0 N (fun y0 => ks 0 ((y0, ()), ())) (fun (_ : Unit) => ks 1 ((), ())) N x.2.1.1 x.2.1.2.1 x.2.2.1.1 x.2.2.1.2.1
noncomputable def laws_eqIntA2_l0_s (N : Nat) : LSum := ⟨laws_eqIntA2_l0_sh, laws_eqIntA2_l0_ex, fun x ks => laws_eqIntA2_l0_again N ks x⟩
theorem laws_eqIntA2_l0_unr (N : Nat) (R : Type) (x : laws_eqIntA2_l0_sh.T) (ks : (j : Nat) → ((laws_eqIntA2_l0_ex.getD j (.ret, Sh.none)).2).T → Option R) : laws_eqIntA2_l0_again N ks x = unrF (laws_eqIntA2_G N) tab (loopAt laws_eqIntA2_code 0) laws_eqIntA2_l0_ex ks 3 (fill laws_eqIntA2_l0_sh x) := by kernel_rfl
theorem laws_eqIntA2_l0_ok (N : Nat) : LoopOk Try.prog Try.f140.ntmps (laws_eqIntA2_l0_s N) (loopAt laws_eqIntA2_code 0) :=
  unroll_ok (l := laws_eqIntA2_l0_s N) progOk (laws_eqIntA2_gok N) (draw_ok progOk (laws_eqIntA2_gok N)) (fun R x ks r h => ⟨3, (laws_eqIntA2_l0_unr N R x ks).symm.trans h⟩) (by kernel_rfl) (by kernel_rfl)
noncomputable def laws_eqIntA2 (N : Nat) (a : (Int × Int)) (b : (Int × Int)) : Option ((Bool × Unit) × (Unit)) :=
  laws_eqIntA2_l0 N (fun x => some ((x, ()), ())) (fun (_ : Unit) => some ((true, ()), ())) N a.1 a.2 b.1 b.2
noncomputable def laws_eqIntA2_S (N : Nat) : FSum := ⟨laws_eqIntA2_ps, laws_eqIntA2_rs, fun x => laws_eqIntA2 N x.1 x.2.1⟩
theorem laws_eqIntA2_run (N : Nat) (x : argsT laws_eqIntA2_ps) : laws_eqIntA2 N x.1 x.2.1 = funF (laws_eqIntA2_G N) tab [laws_eqIntA2_l0_s N] Try.f140 laws_eqIntA2_ps laws_eqIntA2_rs x := by kernel_rfl
theorem laws_eqIntA2_pc (N : Nat) : PC Try.prog 140 (laws_eqIntA2_S N) := by
  have e : laws_eqIntA2_S N = ⟨laws_eqIntA2_ps, laws_eqIntA2_rs, funF (laws_eqIntA2_G N) tab [laws_eqIntA2_l0_s N] Try.f140 laws_eqIntA2_ps laws_eqIntA2_rs⟩ := congrArg (FSum.mk laws_eqIntA2_ps laws_eqIntA2_rs) (funext (laws_eqIntA2_run N))
  rw [e]
  exact fun_ok (c := laws_eqIntA2_code) progOk (laws_eqIntA2_gok N) (draw_ok progOk (laws_eqIntA2_gok N)) Try.call140 Try.func140 (by kernel_rfl) (lsOk_at (L := [laws_eqIntA2_l0_s N]) ⟨laws_eqIntA2_l0_ok N, trivial⟩) (by kernel_rfl) (by kernel_rfl) (by kernel_rfl) (by kernel_rfl) (by kernel_rfl)

/-! ### laws_eqIntA2S -/
abbrev laws_eqIntA2S_ps : List (PV.Mode × Ty) := [(.ro, LQII), (.ro, LQII)]
abbrev laws_eqIntA2S_rs : List (Bool × Ty) := [(true, .bool)]
noncomputable def laws_eqIntA2S_G (N : Nat) : GTab := gOf [(140, laws_eqIntA2_S N)]
theorem laws_eqIntA2S_gok (N : Nat) : GOk Try.prog (laws_eqIntA2S_G N) := gOf_ok ⟨laws_eqIntA2_pc N, trivial⟩
noncomputable def laws_eqIntA2S_code : Code := (Try.f80.body).getD .skip
noncomputable def laws_eqIntA2S_l0_sh : Sh := ⟨[(0, .one (.ro LQII)), (1, .one (.ro LQII)), (5, .one (.ro I))], []⟩
noncomputable def laws_eqIntA2S_l0_ex : List (Ex × Sh) := [(.ret, ⟨[(4, .one (.ro .bool))], []⟩), (.exit 0, ⟨[], []⟩)]
noncomputable def laws_eqIntA2S_l0 {R : Type} (N : Nat) (k0 : Bool → Option R) (k1 : Unit → Option R) : Nat → (List (Int × Int)) → (List (Int × Int)) → Int → Option R
  | 0, _, _, _ => none
  | K + 1, a1, b1, i =>
    (br (ilt i (tLen a1))
      ((chk (inb a1 i)
        (chk (inb b1 i)
        ((laws_eqIntA2 N (rdP a1 i) (rdP b1 i)).bind fun r =>
        (br (!r.1.1)
          (k0 false)
          (laws_eqIntA2S_l0 N k0 k1 K a1 b1 (IntKind.i64.wrap (i + 1))))))))
      (k1 ()))
noncomputable def laws_eqIntA2S_l0_again {R : Type} (N : Nat) (ks : (j : Nat) → ((laws_eqIntA2S_l0_ex.getD j (.ret, Sh.none)).2).T → Option R) (k : Nat) (x : laws_eqIntA2S_l0_sh.T) : Option R :=
  laws_eqIntA2S_l0 N (fun y0 => ks 0 ((y0, ()), ())) (fun (_ : Unit) => ks 1 ((), ())) k x.1.1 x.1.2.1 x.1.2.2.1
noncomputable def laws_eqIntA2S_l0_s (N : Nat) : LSum := ⟨laws_eqIntA2S_l0_sh, laws_eqIntA2S_l0_ex, fun x ks => laws_eqIntA2S_l0_again N ks N x⟩
theorem laws_eqIntA2S_l0_step (N : Nat) (R : Type) (k : Nat) (x : laws_eqIntA2S_l0_sh.T) (ks : (j : Nat) → ((laws_eqIntA2S_l0_ex.getD j (.ret, Sh.none)).2).T → Option R) : laws_eqIntA2S_l0_again N ks (k + 1) x = roundF (laws_eqIntA2S_G N) tab [] (loopAt laws_eqIntA2S_code 0) laws_eqIntA2S_l0_sh laws_eqIntA2S_l0_ex (fun y => laws_eqIntA2S_l0_again N ks k y) ks x := by kernel_rfl
theorem laws_eqIntA2S_l0_ok (N : Nat) : LoopOk Try.prog Try.f80.ntmps (laws_eqIntA2S_l0_s N) (loopAt laws_eqIntA2S_code 0) :=
  loop_ok (l := laws_eqIntA2S_l0_s N) progOk (laws_eqIntA2S_gok N) (draw_ok progOk (laws_eqIntA2S_gok N)) (fun R k x ks => laws_eqIntA2S_l0_again N ks k x) (fun _ _ _ => rfl) (fun R k x ks => laws_eqIntA2S_l0_step N R k x ks) (fun R x ks r h => ⟨N, h⟩) (lsOk_at (L := []) trivial) (by kernel_rfl) (by kernel_rfl)
noncomputable def laws_eqIntA2S (N : Nat) (a : (List (Int × Int))) (b : (List (Int × Int))) : Option ((Bool × Unit) × (Unit)) :=
  (br (ine (tLen a) (tLen b))
    (some ((false, ()), ()))
    (laws_eqIntA2S_l0 N (fun x => some ((x, ()), ())) (fun (_ : Unit) => some ((true, ()), ())) N a b 0))
noncomputable def laws_eqIntA2S_S (N : Nat) : FSum := ⟨laws_eqIntA2S_ps, laws_eqIntA2S_rs, fun x => laws_eqIntA2S N x.1 x.2.1⟩
theorem laws_eqIntA2S_run (N : Nat) (x : argsT laws_eqIntA2S_ps) : laws_eqIntA2S N x.1 x.2.1 = funF (laws_eqIntA2S_G N) tab [laws_eqIntA2S_l0_s N] Try.f80 laws_eqIntA2S_ps laws_eqIntA2S_rs x := by kernel_rfl
theorem laws_eqIntA2S_pc (N : Nat) : PC Try.prog 80 (laws_eqIntA2S_S N) := by
  have e : laws_eqIntA2S_S N = ⟨laws_eqIntA2S_ps, laws_eqIntA2S_rs, funF (laws_eqIntA2S_G N) tab [laws_eqIntA2S_l0_s N] Try.f80 laws_eqIntA2S_ps laws_eqIntA2S_rs⟩ := congrArg (FSum.mk laws_eqIntA2S_ps laws_eqIntA2S_rs) (funext (laws_eqIntA2S_run N))
  rw [e]
  exact fun_ok (c := laws_eqIntA2S_code) progOk (laws_eqIntA2S_gok N) (draw_ok progOk (laws_eqIntA2S_gok N)) Try.call80 Try.func80 (by kernel_rfl) (lsOk_at (L := [laws_eqIntA2S_l0_s N]) ⟨laws_eqIntA2S_l0_ok N, trivial⟩) (by kernel_rfl) (by kernel_rfl) (by kernel_rfl) (by kernel_rfl) (by kernel_rfl)

/-! ### laws_eqGraph -/
abbrev laws_eqGraph_ps : List (PV.Mode × Ty) := [(.ro, QILQII), (.ro, QILQII)]
abbrev laws_eqGraph_rs : List (Bool × Ty) := [(true, .bool)]
noncomputable def laws_eqGraph_G (N : Nat) : GTab := gOf [(80, laws_eqIntA2S_S N)]
theorem laws_eqGraph_gok (N : Nat) : GOk Try.prog (laws_eqGraph_G N) := gOf_ok ⟨laws_eqIntA2S_pc N, trivial⟩
noncomputable def laws_eqGraph_code : Code := (Try.f36.body).getD .skip
noncomputable def laws_eqGraph (N : Nat) (a : (Int × (List (Int × Int)))) (b : (Int × (List (Int × Int)))) : Option ((Bool × Unit) × (Unit)) :=
  (br (ine a.1 b.1)
    (some ((false, ()), ()))
    (((laws_eqIntA2S N a.2 b.2).bind fun r =>
      (br (!r.1.1)
        (some ((false, ()), ()))
        (some ((true, ()), ()))))))
noncomputable def laws_eqGraph_S (N : Nat) : FSum := ⟨laws_eqGraph_ps, laws_eqGraph_rs, fun x => laws_eqGraph N x.1 x.2.1⟩
theorem laws_eqGraph_run (N : Nat) (x : argsT laws_eqGraph_ps) : laws_eqGraph N x.1 x.2.1 = funF (laws_eqGraph_G N) tab [] Try.f36 laws_eqGraph_ps laws_eqGraph_rs x := by kernel_rfl
theorem laws_eqGraph_pc (N : Nat) : PC Try.prog 36 (laws_eqGraph_S N) := by
  have e : laws_eqGraph_S N = ⟨laws_eqGraph_ps, laws_eqGraph_rs, funF (laws_eqGraph_G N) tab [] Try.f36 laws_eqGraph_ps laws_eqGraph_rs⟩ := congrArg (FSum.mk laws_eqGraph_ps laws_eqGraph_rs) (funext (laws_eqGraph_run N))
  rw [e]
  exact fun_ok (c := laws_eqGraph_code) progOk (laws_eqGraph_gok N) (draw_ok progOk (laws_eqGraph_gok N)) Try.call36 Try.func36 (by kernel_rfl) (lsOk_at (L := []) trivial) (by kernel_rfl) (by kernel_rfl) (by kernel_rfl) (by kernel_rfl) (by kernel_rfl)

/-! ### laws_markIntA2S -/
abbrev laws_markIntA2S_ps : List (PV.Mode × Ty) := [(.mut, LQII), (.ro, I)]
abbrev laws_markIntA2S_rs : List (Bool × Ty) := [(true, I)]
noncomputable def laws_markIntA2S_G (N : Nat) : GTab := gOf []
theorem laws_markIntA2S_gok (N : Nat) : GOk Try.prog (laws_markIntA2S_G N) := gOf_ok trivial
noncomputable def laws_markIntA2S_code : Code := (Try.f81.body).getD .skip
noncomputable def laws_markIntA2S_l0_0_sh : Sh := ⟨[(0, .one (.ref 0)), (1, .one (.ro I)), (5, .one (.ro I)), (6, .one (.num .i64 0))], [.sl 97 QII .own]⟩
noncomputable def laws_markIntA2S_l0_0_ex : List (Ex × Sh) := [(.exit 2, ⟨[(0, .one (.ref 0)), (1, .one (.ro I)), (5, .one (.ro I))], [.sl 97 QII .own]⟩)]
noncomputable def laws_markIntA2S_l0_0 {R : Type} (N : Nat) (k0 : Int → Int → (List (Int × Int)) → Option R) (_ : Nat) (kv3 : Int) (i2 : Int) (o2 : (List (Int × Int))) : Option R :=
  (chk (inb o2 i2)
    (chk (inb (tSet o2 i2 (kv3, (rdP o2 i2).2)) i2)
    (k0 (IntKind.i64.wrap ((IntKind.i64.wrap (kv3 + 1)) + 1)) i2 (tSet (tSet o2 i2 (kv3, (rdP o2 i2).2)) i2 ((rdP (tSet o2 i2 (kv3, (rdP o2 i2).2)) i2).1, (IntKind.i64.wrap (kv3 + 1)))))))
noncomputable def laws_markIntA2S_l0_0_again {R : Type} (N : Nat) (ks : (j : Nat) → ((laws_markIntA2S_l0_0_ex.getD j (.ret, Sh.none)).2).T → Option R) (x : laws_markIntA2S_l0_0_sh.T) : Option R :=
  laws_markIntA2S_l0_0 N (fun y0 y1 y2 => ks 0 (((), y0, y1, ()), (y2, ()))) N x.1.2.1 x.1.2.2.1 x.2.1
noncomputable def laws_markIntA2S_l0_0_s (N : Nat) : LSum := ⟨laws_markIntA2S_l0_0_sh, laws_markIntA2S_l0_0_ex, fun x ks => laws_markIntA2S_l0_0_again N ks x⟩
theorem laws_markIntA2S_l0_0_unr (N : Nat) (R : Type) (x : laws_markIntA2S_l0_0_sh.T) (ks : (j : Nat) → ((laws_markIntA2S_l0_0_ex.getD j (.ret, Sh.none)).2).T → Option R) : laws_markIntA2S_l0_0_again N ks x = unrF (laws_markIntA2S_G N) tab (loopAt (loopAt laws_markIntA2S_code 0) 0) laws_markIntA2S_l0_0_ex ks 3 (fill laws_markIntA2S_l0_0_sh x) := by kernel_rfl
theorem laws_markIntA2S_l0_0_ok (N : Nat) : LoopOk Try.prog Try.f81.ntmps (laws_markIntA2S_l0_0_s N) (loopAt (loopAt laws_markIntA2S_code 0) 0) :=
  unroll_ok (l := laws_markIntA2S_l0_0_s N) progOk (laws_markIntA2S_gok N) (draw_ok progOk (laws_markIntA2S_gok N)) (fun R x ks r h => ⟨3, (laws_markIntA2S_l0_0_unr N R x ks).symm.trans h⟩) (by kernel_rfl) (by kernel_rfl)
noncomputable def laws_markIntA2S_l0_sh : Sh := ⟨[(0, .one (.ref 0)), (1, .one (.ro I)), (5, .one (.ro I))], [.sl 97 QII .own]⟩
noncomputable def laws_markIntA2S_l0_ex : List (Ex × Sh) := [(.exit 0, ⟨[(0, .one (.ref 0)), (1, .one (.ro I))], [.sl 97 QII .own]⟩)]
noncomputable def laws_markIntA2S_l0 {R : Type} (N : Nat) (k0 : Int → (List (Int × Int)) → Option R) : Nat → Int → Int → (List (Int × Int)) → Option R
  | 0, _, _, _ => none
  | K + 1, kv1, i, o =>
    (br (ilt i (tLen o))
      (laws_markIntA2S_l0_0 N (fun kv2 i1 o1 => laws_markIntA2S_l0 N k0 K kv2 (IntKind.i64.wrap (i1 + 1)) o1) N kv1 i o)
      (k0 kv1 o))
noncomputable def laws_markIntA2S_l0_again {R : Type} (N : Nat) (ks : (j : Nat) → ((laws_markIntA2S_l0_ex.getD j (.ret, Sh.none)).2).T → Option R) (k : Nat) (x : laws_markIntA2S_l0_sh.T) : Option R :=
  laws_markIntA2S_l0 N (fun y0 y1 => ks 0 (((), y0, ()), (y1, ()))) k x.1.2.1 x.1.2.2.1 x.2.1
noncomputable def laws_markIntA2S_l0_s (N : Nat) : LSum := ⟨laws_markIntA2S_l0_sh, laws_markIntA2S_l0_ex, fun x ks => laws_markIntA2S_l0_again N ks N x⟩
theorem laws_markIntA2S_l0_step (N : Nat) (R : Type) (k : Nat) (x : laws_markIntA2S_l0_sh.T) (ks : (j : Nat) → ((laws_markIntA2S_l0_ex.getD j (.ret, Sh.none)).2).T → Option R) : laws_markIntA2S_l0_again N ks (k + 1) x = roundF (laws_markIntA2S_G N) tab [laws_markIntA2S_l0_0_s N] (loopAt laws_markIntA2S_code 0) laws_markIntA2S_l0_sh laws_markIntA2S_l0_ex (fun y => laws_markIntA2S_l0_again N ks k y) ks x := by kernel_rfl
theorem laws_markIntA2S_l0_ok (N : Nat) : LoopOk Try.prog Try.f81.ntmps (laws_markIntA2S_l0_s N) (loopAt laws_markIntA2S_code 0) :=
  loop_ok (l := laws_markIntA2S_l0_s N) progOk (laws_markIntA2S_gok N) (draw_ok progOk (laws_markIntA2S_gok N)) (fun R k x ks => laws_markIntA2S_l0_again N ks k x) (fun _ _ _ => rfl) (fun R k x ks => laws_markIntA2S_l0_step N R k x ks) (fun R x ks r h => ⟨N, h⟩) (lsOk_at (L := [laws_markIntA2S_l0_0_s N]) ⟨laws_markIntA2S_l0_0_ok N, trivial⟩) (by kernel_rfl) (by kernel_rfl)
noncomputable def laws_markIntA2S (N : Nat) (a : (List (Int × Int))) (kv : Int) : Option ((Int × Unit) × ((List (Int × Int)) × Unit)) :=
  laws_markIntA2S_l0 N (fun kv1 o => some ((kv1, ()), (o, ()))) N kv 0 a
noncomputable def laws_markIntA2S_S (N : Nat) : FSum := ⟨laws_markIntA2S_ps, laws_markIntA2S_rs, fun x => laws_markIntA2S N x.1 x.2.1⟩
theorem laws_markIntA2S_run (N : Nat) (x : argsT laws_markIntA2S_ps) : laws_markIntA2S N x.1 x.2.1 = funF (laws_markIntA2S_G N) tab [laws_markIntA2S_l0_s N] Try.f81 laws_markIntA2S_ps laws_markIntA2S_rs x := by kernel_rfl
theorem laws_markIntA2S_pc (N : Nat) : PC Try.prog 81 (laws_markIntA2S_S N) := by
  have e : laws_markIntA2S_S N = ⟨laws_markIntA2S_ps, laws_markIntA2S_rs, funF (laws_markIntA2S_G N) tab [laws_markIntA2S_l0_s N] Try.f81 laws_markIntA2S_ps laws_markIntA2S_rs⟩ := congrArg (FSum.mk laws_markIntA2S_ps laws_markIntA2S_rs) (funext (laws_markIntA2S_run N))
  rw [e]
  exact fun_ok (c := laws_markIntA2S_code) progOk (laws_markIntA2S_gok N) (draw_ok progOk (laws_markIntA2S_gok N)) Try.call81 Try.func81 (by kernel_rfl) (lsOk_at (L := [laws_markIntA2S_l0_s N]) ⟨laws_markIntA2S_l0_ok N, trivial⟩) (by kernel_rfl) (by kernel_rfl) (by kernel_rfl) (by kernel_rfl) (by kernel_rfl)
end Go.Proofs.Ythkejedgfhjdiaa
