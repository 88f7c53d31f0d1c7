/- Functions of the program as functions on data. -/
import Derived.Test.YtgelipdkheahdaaGreatKempeSpaceFa
set_option linter.all false
namespace Go.Proofs.YtgelipdkheahdaaGreat
open Go Go.PV
/-! ### cmp_isNaN_int -/
abbrev cmp_isNaN_int_ps : List (PV.Mode × Ty) := [(.ro, I)]
abbrev cmp_isNaN_int_rs : List (Bool × Ty) := [(true, .bool)]
noncomputable def cmp_isNaN_int_G (N : Nat) : GTab := gOf []
theorem cmp_isNaN_int_gok (N : Nat) : GOk Tryz.prog (cmp_isNaN_int_G N) := gOf_ok trivial
noncomputable def cmp_isNaN_int_code : Code := (Tryz.f176.body).getD .skip
noncomputable def cmp_isNaN_int (N : Nat) (x : Int) : Option ((Bool × Unit) × (Unit)) :=
  some (((ine x x), ()), ())
noncomputable def cmp_isNaN_int_S (N : Nat) : FSum := ⟨cmp_isNaN_int_ps, cmp_isNaN_int_rs, fun x => cmp_isNaN_int N x.1⟩
theorem cmp_isNaN_int_run (N : Nat) (x : argsT cmp_isNaN_int_ps) : cmp_isNaN_int N x.1 = funF (cmp_isNaN_int_G N) tab [] Tryz.f176 cmp_isNaN_int_ps cmp_isNaN_int_rs x := by kernel_rfl
theorem cmp_isNaN_int_pc (N : Nat) : PC Tryz.prog 176 (cmp_isNaN_int_S N) := by
  have e : cmp_isNaN_int_S N = ⟨cmp_isNaN_int_ps, cmp_isNaN_int_rs, funF (cmp_isNaN_int_G N) tab [] Tryz.f176 cmp_isNaN_int_ps cmp_isNaN_int_rs⟩ := congrArg (FSum.mk cmp_isNaN_int_ps cmp_isNaN_int_rs) (funext (cmp_isNaN_int_run N))
  rw [e]
  exact fun_ok (c := cmp_isNaN_int_code) progOk (cmp_isNaN_int_gok N) (draw_ok progOk (cmp_isNaN_int_gok N)) Tryz.call176 Tryz.func176 (by kernel_rfl) (lsOk_at (L := []) trivial) (by kernel_rfl) (by kernel_rfl) (by kernel_rfl) (by kernel_rfl) (by kernel_rfl)

/-! ### cmp_Compare_int -/
abbrev cmp_Compare_int_ps : List (PV.Mode × Ty) := [(.ro, I), (.ro, I)]
abbrev cmp_Compare_int_rs : List (Bool × Ty) := [(true, I)]
noncomputable def cmp_Compare_int_G (N : Nat) : GTab := gOf [(176, cmp_isNaN_int_S N)]
theorem cmp_Compare_int_gok (N : Nat) : GOk Tryz.prog (cmp_Compare_int_G N) := gOf_ok ⟨cmp_isNaN_int_pc N, trivial⟩
noncomputable def cmp_Compare_int_code : Code := (Tryz.f131.body).getD .skip
noncomputable def cmp_Compare_int (N : Nat) (x : Int) (y : Int) : Option ((Int × Unit) × (Unit)) :=
  ((cmp_isNaN_int N x).bind fun r =>
    ((cmp_isNaN_int N y).bind fun r1 =>
      (br r.1.1
        ((br r1.1.1
          (some ((0, ()), ()))
          (some (((-1), ()), ()))))
        ((br r1.1.1
          (some ((1, ()), ()))
          ((br (ilt x y)
            (some (((-1), ()), ()))
            ((br (ilt y x)
              (some ((1, ()), ()))
              (some ((0, ()), ())))))))))))
noncomputable def cmp_Compare_int_S (N : Nat) : FSum := ⟨cmp_Compare_int_ps, cmp_Compare_int_rs, fun x => cmp_Compare_int N x.1 x.2.1⟩
theorem cmp_Compare_int_run (N : Nat) (x : argsT cmp_Compare_int_ps) : cmp_Compare_int N x.1 x.2.1 = funF (cmp_Compare_int_G N) tab [] Tryz.f131 cmp_Compare_int_ps cmp_Compare_int_rs x := by kernel_rfl
theorem cmp_Compare_int_pc (N : Nat) : PC Tryz.prog 131 (cmp_Compare_int_S N) := by
  have e : cmp_Compare_int_S N = ⟨cmp_Compare_int_ps, cmp_Compare_int_rs, funF (cmp_Compare_int_G N) tab [] Tryz.f131 cmp_Compare_int_ps cmp_Compare_int_rs⟩ := congrArg (FSum.mk cmp_Compare_int_ps cmp_Compare_int_rs) (funext (cmp_Compare_int_run N))
  rw [e]
  exact fun_ok (c := cmp_Compare_int_code) progOk (cmp_Compare_int_gok N) (draw_ok progOk (cmp_Compare_int_gok N)) Tryz.call131 Tryz.func131 (by kernel_rfl) (lsOk_at (L := []) trivial) (by kernel_rfl) (by kernel_rfl) (by kernel_rfl) (by kernel_rfl) (by kernel_rfl)

/-! ### cmp_Or_int -/
abbrev cmp_Or_int_ps : List (PV.Mode × Ty) := [(.ro, LI)]
abbrev cmp_Or_int_rs : List (Bool × Ty) := [(true, I)]
noncomputable def cmp_Or_int_G (N : Nat) : GTab := gOf []
theorem cmp_Or_int_gok (N : Nat) : GOk Tryz.prog (cmp_Or_int_G N) := gOf_ok trivial
noncomputable def cmp_Or_int_code : Code := (Tryz.f218.body).getD .skip
noncomputable def cmp_Or_int_l0_sh : Sh := ⟨[(3, .one (.ro I)), (6, .one (.ro LI)), (7, .one (.ro I)), (8, .one (.ro I))], []⟩
noncomputable def cmp_Or_int_l0_ex : List (Ex × Sh) := [(.ret, ⟨[(2, .one (.ro I))], []⟩), (.exit 0, ⟨[(3, .one (.ro I))], []⟩)]
noncomputable def cmp_Or_int_l0 {R : Type} (N : Nat) (k0 : Int → Option R) (k1 : Int → Option R) : Nat → Int → (List Int) → Int → Int → Option R
  | 0, _, _, _, _ => none
  | K + 1, zero, x, x1, x2 =>
    (br (ilt x2 x1)
      ((chk (inb x x2)
        (br (ine (rdI x x2) zero)
        (k0 (rdI x x2))
        (cmp_Or_int_l0 N k0 k1 K zero x x1 (IntKind.i64.wrap (x2 + 1))))))
      (k1 zero))
noncomputable def cmp_Or_int_l0_again {R : Type} (N : Nat) (ks : (j : Nat) → ((cmp_Or_int_l0_ex.getD j (.ret, Sh.none)).2).T → Option R) (k : Nat) (x : cmp_Or_int_l0_sh.T) : Option R :=
  cmp_Or_int_l0 N (fun y0 => ks 0 ((y0, ()), ())) (fun y0 => ks 1 ((y0, ()), ())) k x.1.1 x.1.2.1 x.1.2.2.1 x.1.2.2.2.1
noncomputable def cmp_Or_int_l0_s (N : Nat) : LSum := ⟨cmp_Or_int_l0_sh, cmp_Or_int_l0_ex, fun x ks => cmp_Or_int_l0_again N ks N x⟩
theorem cmp_Or_int_l0_step (N : Nat) (R : Type) (k : Nat) (x : cmp_Or_int_l0_sh.T) (ks : (j : Nat) → ((cmp_Or_int_l0_ex.getD j (.ret, Sh.none)).2).T → Option R) : cmp_Or_int_l0_again N ks (k + 1) x = roundF (cmp_Or_int_G N) tab [] (loopAt cmp_Or_int_code 0) cmp_Or_int_l0_sh cmp_Or_int_l0_ex (fun y => cmp_Or_int_l0_again N ks k y) ks x := by kernel_rfl
theorem cmp_Or_int_l0_ok (N : Nat) : LoopOk Tryz.prog Tryz.f218.ntmps (cmp_Or_int_l0_s N) (loopAt cmp_Or_int_code 0) :=
  loop_ok (l := cmp_Or_int_l0_s N) progOk (cmp_Or_int_gok N) (draw_ok progOk (cmp_Or_int_gok N)) (fun R k x ks => cmp_Or_int_l0_again N ks k x) (fun _ _ _ => rfl) (fun R k x ks => cmp_Or_int_l0_step N R k x ks) (fun R x ks r h => ⟨N, h⟩) (lsOk_at (L := []) trivial) (by kernel_rfl) (by kernel_rfl)
noncomputable def cmp_Or_int (N : Nat) (vals : (List Int)) : Option ((Int × Unit) × (Unit)) :=
  cmp_Or_int_l0 N (fun x => some ((x, ()), ())) (fun zero => some ((zero, ()), ())) N 0 vals (tLen vals) 0
noncomputable def cmp_Or_int_S (N : Nat) : FSum := ⟨cmp_Or_int_ps, cmp_Or_int_rs, fun x => cmp_Or_int N x.1⟩
theorem cmp_Or_int_run (N : Nat) (x : argsT cmp_Or_int_ps) : cmp_Or_int N x.1 = funF (cmp_Or_int_G N) tab [cmp_Or_int_l0_s N] Tryz.f218 cmp_Or_int_ps cmp_Or_int_rs x := by kernel_rfl
theorem cmp_Or_int_pc (N : Nat) : PC Tryz.prog 218 (cmp_Or_int_S N) := by
  have e : cmp_Or_int_S N = ⟨cmp_Or_int_ps, cmp_Or_int_rs, funF (cmp_Or_int_G N) tab [cmp_Or_int_l0_s N] Tryz.f218 cmp_Or_int_ps cmp_Or_int_rs⟩ := congrArg (FSum.mk cmp_Or_int_ps cmp_Or_int_rs) (funext (cmp_Or_int_run N))
  rw [e]
  exact fun_ok (c := cmp_Or_int_code) progOk (cmp_Or_int_gok N) (draw_ok progOk (cmp_Or_int_gok N)) Tryz.call218 Tryz.func218 (by kernel_rfl) (lsOk_at (L := [cmp_Or_int_l0_s N]) ⟨cmp_Or_int_l0_ok N, trivial⟩) (by kernel_rfl) (by kernel_rfl) (by kernel_rfl) (by kernel_rfl) (by kernel_rfl)

/-! ### impl_comparePairs -/
abbrev impl_comparePairs_ps : List (PV.Mode × Ty) := [(.ro, QII), (.ro, QII)]
abbrev impl_comparePairs_rs : List (Bool × Ty) := [(true, I)]
noncomputable def impl_comparePairs_G (N : Nat) : GTab := gOf [(131, cmp_Compare_int_S N), (218, cmp_Or_int_S N)]
theorem impl_comparePairs_gok (N : Nat) : GOk Tryz.prog (impl_comparePairs_G N) := gOf_ok ⟨cmp_Compare_int_pc N, cmp_Or_int_pc N, trivial⟩
noncomputable def impl_comparePairs_code : Code := (Tryz.f202.body).getD .skip
noncomputable def impl_comparePairs (N : Nat) (a : (Int × Int)) (b : (Int × Int)) : Option ((Int × Unit) × (Unit)) :=
  ((cmp_Compare_int N a.1 b.1).bind fun r =>
    ((cmp_Compare_int N a.2 b.2).bind fun r1 =>
      ((cmp_Or_int N [r.1.1, r1.1.1]).bind fun r2 =>
        some ((r2.1.1, ()), ()))))
noncomputable def impl_comparePairs_S (N : Nat) : FSum := ⟨impl_comparePairs_ps, impl_comparePairs_rs, fun x => impl_comparePairs N x.1 x.2.1⟩
theorem impl_comparePairs_run (N : Nat) (x : argsT impl_comparePairs_ps) : impl_comparePairs N x.1 x.2.1 = funF (impl_comparePairs_G N) tab [] Tryz.f202 impl_comparePairs_ps impl_comparePairs_rs x := by kernel_rfl
theorem impl_comparePairs_pc (N : Nat) : PC Tryz.prog 202 (impl_comparePairs_S N) := by
  have e : impl_comparePairs_S N = ⟨impl_comparePairs_ps, impl_comparePairs_rs, funF (impl_comparePairs_G N) tab [] Tryz.f202 impl_comparePairs_ps impl_comparePairs_rs⟩ := congrArg (FSum.mk impl_comparePairs_ps impl_comparePairs_rs) (funext (impl_comparePairs_run N))
  rw [e]
  exact fun_ok (c := impl_comparePairs_code) progOk (impl_comparePairs_gok N) (draw_ok progOk (impl_comparePairs_gok N)) Tryz.call202 Tryz.func202 (by kernel_rfl) (lsOk_at (L := []) trivial) (by kernel_rfl) (by kernel_rfl) (by kernel_rfl) (by kernel_rfl) (by kernel_rfl)

/-! ### impl_isPairs -/
abbrev impl_isPairs_ps : List (PV.Mode × Ty) := [(.ro, LQII), (.ro, I)]
abbrev impl_isPairs_rs : List (Bool × Ty) := [(true, .bool)]
noncomputable def impl_isPairs_G (N : Nat) : GTab := gOf [(202, impl_comparePairs_S N)]
theorem impl_isPairs_gok (N : Nat) : GOk Tryz.prog (impl_isPairs_G N) := gOf_ok ⟨impl_comparePairs_pc N, trivial⟩
noncomputable def impl_isPairs_code : Code := (Tryz.f163.body).getD .skip
noncomputable def impl_isPairs_l0_sh : Sh := ⟨[(0, .one (.ro LQII)), (1, .one (.ro I)), (7, .one (.ro LQII)), (8, .one (.ro I)), (9, .one (.ro I))], []⟩
noncomputable def impl_isPairs_l0_ex : List (Ex × Sh) := [(.ret, ⟨[(4, .one (.ro .bool))], []⟩), (.exit 0, ⟨[], []⟩)]
noncomputable def impl_isPairs_l0 {R : Type} (N : Nat) (k0 : Bool → Option R) (k1 : Unit → Option R) : Nat → (List (Int × Int)) → Int → (List (Int × Int)) → Int → Int → Option R
  | 0, _, _, _, _, _ => none
  | K + 1, list1, below1, x, x1, x2 =>
    (br (ilt x2 x1)
      ((chk (inb x x2)
        (br (ilt ((rdP x x2).1) 0)
        (k0 false)
        ((br (ile ((rdP x x2).2) ((rdP x x2).1))
          (k0 false)
          ((br (ile below1 ((rdP x x2).2))
            (k0 false)
            ((br (ilt 0 x2)
              ((chk (inb list1 (IntKind.i64.wrap (x2 - 1)))
                ((impl_comparePairs N (rdP list1 (IntKind.i64.wrap (x2 - 1))) ((rdP x x2).1, (rdP x x2).2)).bind fun r =>
                (br (ile 0 r.1.1)
                  (k0 false)
                  (impl_isPairs_l0 N k0 k1 K list1 below1 x x1 (IntKind.i64.wrap (x2 + 1)))))))
              (impl_isPairs_l0 N k0 k1 K list1 below1 x x1 (IntKind.i64.wrap (x2 + 1))))))))))))
      (k1 ()))
noncomputable def impl_isPairs_l0_again {R : Type} (N : Nat) (ks : (j : Nat) → ((impl_isPairs_l0_ex.getD j (.ret, Sh.none)).2).T → Option R) (k : Nat) (x : impl_isPairs_l0_sh.T) : Option R :=
  impl_isPairs_l0 N (fun y0 => ks 0 ((y0, ()), ())) (fun (_ : Unit) => ks 1 ((), ())) k x.1.1 x.1.2.1 x.1.2.2.1 x.1.2.2.2.1 x.1.2.2.2.2.1
noncomputable def impl_isPairs_l0_s (N : Nat) : LSum := ⟨impl_isPairs_l0_sh, impl_isPairs_l0_ex, fun x ks => impl_isPairs_l0_again N ks N x⟩
theorem impl_isPairs_l0_step (N : Nat) (R : Type) (k : Nat) (x : impl_isPairs_l0_sh.T) (ks : (j : Nat) → ((impl_isPairs_l0_ex.getD j (.ret, Sh.none)).2).T → Option R) : impl_isPairs_l0_again N ks (k + 1) x = roundF (impl_isPairs_G N) tab [] (loopAt impl_isPairs_code 0) impl_isPairs_l0_sh impl_isPairs_l0_ex (fun y => impl_isPairs_l0_again N ks k y) ks x := by kernel_rfl
theorem impl_isPairs_l0_ok (N : Nat) : LoopOk Tryz.prog Tryz.f163.ntmps (impl_isPairs_l0_s N) (loopAt impl_isPairs_code 0) :=
  loop_ok (l := impl_isPairs_l0_s N) progOk (impl_isPairs_gok N) (draw_ok progOk (impl_isPairs_gok N)) (fun R k x ks => impl_isPairs_l0_again N ks k x) (fun _ _ _ => rfl) (fun R k x ks => impl_isPairs_l0_step N R k x ks) (fun R x ks r h => ⟨N, h⟩) (lsOk_at (L := []) trivial) (by kernel_rfl) (by kernel_rfl)
noncomputable def impl_isPairs (N : Nat) (list : (List (Int × Int))) (below : Int) : Option ((Bool × Unit) × (Unit)) :=
  impl_isPairs_l0 N (fun x => some ((x, ()), ())) (fun (_ : Unit) => some ((true, ()), ())) N list below list (tLen list) 0
noncomputable def impl_isPairs_S (N : Nat) : FSum := ⟨impl_isPairs_ps, impl_isPairs_rs, fun x => impl_isPairs N x.1 x.2.1⟩
theorem impl_isPairs_run (N : Nat) (x : argsT impl_isPairs_ps) : impl_isPairs N x.1 x.2.1 = funF (impl_isPairs_G N) tab [impl_isPairs_l0_s N] Tryz.f163 impl_isPairs_ps impl_isPairs_rs x := by kernel_rfl
theorem impl_isPairs_pc (N : Nat) : PC Tryz.prog 163 (impl_isPairs_S N) := by
  have e : impl_isPairs_S N = ⟨impl_isPairs_ps, impl_isPairs_rs, funF (impl_isPairs_G N) tab [impl_isPairs_l0_s N] Tryz.f163 impl_isPairs_ps impl_isPairs_rs⟩ := congrArg (FSum.mk impl_isPairs_ps impl_isPairs_rs) (funext (impl_isPairs_run N))
  rw [e]
  exact fun_ok (c := impl_isPairs_code) progOk (impl_isPairs_gok N) (draw_ok progOk (impl_isPairs_gok N)) Tryz.call163 Tryz.func163 (by kernel_rfl) (lsOk_at (L := [impl_isPairs_l0_s N]) ⟨impl_isPairs_l0_ok N, trivial⟩) (by kernel_rfl) (by kernel_rfl) (by kernel_rfl) (by kernel_rfl) (by kernel_rfl)

/-! ### impl_IsGraph -/
abbrev impl_IsGraph_ps : List (PV.Mode × Ty) := [(.ro, QILQII)]
abbrev impl_IsGraph_rs : List (Bool × Ty) := [(true, .bool)]
noncomputable def impl_IsGraph_G (N : Nat) : GTab := gOf [(124, impl_between_S N), (163, impl_isPairs_S N)]
theorem impl_IsGraph_gok (N : Nat) : GOk Tryz.prog (impl_IsGraph_G N) := gOf_ok ⟨impl_between_pc N, impl_isPairs_pc N, trivial⟩
noncomputable def impl_IsGraph_code : Code := (Tryz.f123.body).getD .skip
noncomputable def impl_IsGraph (N : Nat) (g : (Int × (List (Int × Int)))) : Option ((Bool × Unit) × (Unit)) :=
  ((impl_between N g.1 0 8).bind fun r =>
    (br r.1.1
      (((impl_isPairs N g.2 g.1).bind fun r1 =>
        some ((r1.1.1, ()), ())))
      (some ((false, ()), ()))))
noncomputable def impl_IsGraph_S (N : Nat) : FSum := ⟨impl_IsGraph_ps, impl_IsGraph_rs, fun x => impl_IsGraph N x.1⟩
theorem impl_IsGraph_run (N : Nat) (x : argsT impl_IsGraph_ps) : impl_IsGraph N x.1 = funF (impl_IsGraph_G N) tab [] Tryz.f123 impl_IsGraph_ps impl_IsGraph_rs x := by kernel_rfl
theorem impl_IsGraph_pc (N : Nat) : PC Tryz.prog 123 (impl_IsGraph_S N) := by
  have e : impl_IsGraph_S N = ⟨impl_IsGraph_ps, impl_IsGraph_rs, funF (impl_IsGraph_G N) tab [] Tryz.f123 impl_IsGraph_ps impl_IsGraph_rs⟩ := congrArg (FSum.mk impl_IsGraph_ps impl_IsGraph_rs) (funext (impl_IsGraph_run N))
  rw [e]
  exact fun_ok (c := impl_IsGraph_code) progOk (impl_IsGraph_gok N) (draw_ok progOk (impl_IsGraph_gok N)) Tryz.call123 Tryz.func123 (by kernel_rfl) (lsOk_at (L := []) trivial) (by kernel_rfl) (by kernel_rfl) (by kernel_rfl) (by kernel_rfl) (by kernel_rfl)

/-! ### impl_isColourCase -/
abbrev impl_isColourCase_ps : List (PV.Mode × Ty) := [(.ro, QILQII), (.ro, I)]
abbrev impl_isColourCase_rs : List (Bool × Ty) := [(true, .bool)]
noncomputable def impl_isColourCase_G (N : Nat) : GTab := gOf [(123, impl_IsGraph_S N), (124, impl_between_S N)]
theorem impl_isColourCase_gok (N : Nat) : GOk Tryz.prog (impl_isColourCase_G N) := gOf_ok ⟨impl_IsGraph_pc N, impl_between_pc N, trivial⟩
noncomputable def impl_isColourCase_code : Code := (Tryz.f80.body).getD .skip
noncomputable def impl_isColourCase (N : Nat) (g : (Int × (List (Int × Int)))) (kv : Int) : Option ((Bool × Unit) × (Unit)) :=
  ((impl_IsGraph N (g.1, g.2)).bind fun r =>
    (br r.1.1
      (((impl_between N kv 1 5).bind fun r1 =>
        some ((r1.1.1, ()), ())))
      (some ((false, ()), ()))))
noncomputable def impl_isColourCase_S (N : Nat) : FSum := ⟨impl_isColourCase_ps, impl_isColourCase_rs, fun x => impl_isColourCase N x.1 x.2.1⟩
theorem impl_isColourCase_run (N : Nat) (x : argsT impl_isColourCase_ps) : impl_isColourCase N x.1 x.2.1 = funF (impl_isColourCase_G N) tab [] Tryz.f80 impl_isColourCase_ps impl_isColourCase_rs x := by kernel_rfl
theorem impl_isColourCase_pc (N : Nat) : PC Tryz.prog 80 (impl_isColourCase_S N) := by
  have e : impl_isColourCase_S N = ⟨impl_isColourCase_ps, impl_isColourCase_rs, funF (impl_isColourCase_G N) tab [] Tryz.f80 impl_isColourCase_ps impl_isColourCase_rs⟩ := congrArg (FSum.mk impl_isColourCase_ps impl_isColourCase_rs) (funext (impl_isColourCase_run N))
  rw [e]
  exact fun_ok (c := impl_isColourCase_code) progOk (impl_isColourCase_gok N) (draw_ok progOk (impl_isColourCase_gok N)) Tryz.call80 Tryz.func80 (by kernel_rfl) (lsOk_at (L := []) trivial) (by kernel_rfl) (by kernel_rfl) (by kernel_rfl) (by kernel_rfl) (by kernel_rfl)

/-! ### slices_Clone_LI_int -/
abbrev slices_Clone_LI_int_ps : List (PV.Mode × Ty) := [(.ro, LI)]
abbrev slices_Clone_LI_int_rs : List (Bool × Ty) := [(true, LI)]
noncomputable def slices_Clone_LI_int_G (N : Nat) : GTab := gOf []
theorem slices_Clone_LI_int_gok (N : Nat) : GOk Tryz.prog (slices_Clone_LI_int_G N) := gOf_ok trivial
noncomputable def slices_Clone_LI_int_code : Code := (Tryz.f84.body).getD .skip
noncomputable def slices_Clone_LI_int (N : Nat) (s : (List Int)) : Option (((List Int) × Unit) × (Unit)) :=
  (br (ieq (tLen s) 0)
    ((amb
      (some (([], ()), ()))
      ((chk (room (α := Int) (β := Int) [] s)
        (some (((tApp [] s), ()), ()))))))
    ((chk (room (α := Int) (β := Int) [] s)
      (some (((tApp [] s), ()), ())))))
noncomputable def slices_Clone_LI_int_S (N : Nat) : FSum := ⟨slices_Clone_LI_int_ps, slices_Clone_LI_int_rs, fun x => slices_Clone_LI_int N x.1⟩
theorem slices_Clone_LI_int_run (N : Nat) (x : argsT slices_Clone_LI_int_ps) : slices_Clone_LI_int N x.1 = funF (slices_Clone_LI_int_G N) tab [] Tryz.f84 slices_Clone_LI_int_ps slices_Clone_LI_int_rs x := by kernel_rfl
theorem slices_Clone_LI_int_pc (N : Nat) : PC Tryz.prog 84 (slices_Clone_LI_int_S N) := by
  have e : slices_Clone_LI_int_S N = ⟨slices_Clone_LI_int_ps, slices_Clone_LI_int_rs, funF (slices_Clone_LI_int_G N) tab [] Tryz.f84 slices_Clone_LI_int_ps slices_Clone_LI_int_rs⟩ := congrArg (FSum.mk slices_Clone_LI_int_ps slices_Clone_LI_int_rs) (funext (slices_Clone_LI_int_run N))
  rw [e]
  exact fun_ok (c := slices_Clone_LI_int_code) progOk (slices_Clone_LI_int_gok N) (draw_ok progOk (slices_Clone_LI_int_gok N)) Tryz.call84 Tryz.func84 (by kernel_rfl) (lsOk_at (L := []) trivial) (by kernel_rfl) (by kernel_rfl) (by kernel_rfl) (by kernel_rfl) (by kernel_rfl)

/-! ### impl_pair -/
abbrev impl_pair_ps : List (PV.Mode × Ty) := [(.ro, I), (.ro, I)]
abbrev impl_pair_rs : List (Bool × Ty) := [(true, QII)]
noncomputable def impl_pair_G (N : Nat) : GTab := gOf []
theorem impl_pair_gok (N : Nat) : GOk Tryz.prog (impl_pair_G N) := gOf_ok trivial
noncomputable def impl_pair_code : Code := (Tryz.f204.body).getD .skip
noncomputable def impl_pair (N : Nat) (a : Int) (b : Int) : Option (((Int × Int) × Unit) × (Unit)) :=
  some ((((if b < a then b else a), (if b > a then b else a)), ()), ())
noncomputable def impl_pair_S (N : Nat) : FSum := ⟨impl_pair_ps, impl_pair_rs, fun x => impl_pair N x.1 x.2.1⟩
theorem impl_pair_run (N : Nat) (x : argsT impl_pair_ps) : impl_pair N x.1 x.2.1 = funF (impl_pair_G N) tab [] Tryz.f204 impl_pair_ps impl_pair_rs x := by kernel_rfl
theorem impl_pair_pc (N : Nat) : PC Tryz.prog 204 (impl_pair_S N) := by
  have e : impl_pair_S N = ⟨impl_pair_ps, impl_pair_rs, funF (impl_pair_G N) tab [] Tryz.f204 impl_pair_ps impl_pair_rs⟩ := congrArg (FSum.mk impl_pair_ps impl_pair_rs) (funext (impl_pair_run N))
  rw [e]
  exact fun_ok (c := impl_pair_code) progOk (impl_pair_gok N) (draw_ok progOk (impl_pair_gok N)) Tryz.call204 Tryz.func204 (by kernel_rfl) (lsOk_at (L := []) trivial) (by kernel_rfl) (by kernel_rfl) (by kernel_rfl) (by kernel_rfl) (by kernel_rfl)

/-! ### slices_Index_LP_P2 -/
abbrev slices_Index_LP_P2_ps : List (PV.Mode × Ty) := [(.ro, LQII), (.ro, QII)]
abbrev slices_Index_LP_P2_rs : List (Bool × Ty) := [(true, I)]
noncomputable def slices_Index_LP_P2_G (N : Nat) : GTab := gOf []
theorem slices_Index_LP_P2_gok (N : Nat) : GOk Tryz.prog (slices_Index_LP_P2_G N) := gOf_ok trivial
noncomputable def slices_Index_LP_P2_code : Code := (Tryz.f219.body).getD .skip
noncomputable def slices_Index_LP_P2_l0_sh : Sh := ⟨[(0, .one (.ro LQII)), (3, .one (.adr 0 0)), (7, .one (.ro I)), (8, .one (.ro I))], [.box [.ro I, .ro I]]⟩
noncomputable def slices_Index_LP_P2_l0_ex : List (Ex × Sh) := [(.ret, ⟨[(4, .one (.ro I))], []⟩), (.exit 0, ⟨[], []⟩)]
noncomputable def slices_Index_LP_P2_l0 {R : Type} (N : Nat) (k0 : Int → Option R) (k1 : Unit → Option R) : Nat → (List (Int × Int)) → Int → Int → Int → Int → Option R
  | 0, _, _, _, _, _ => none
  | K + 1, s1, x, x1, o, o1 =>
    (br (ilt x1 x)
      ((chk (inb s1 x1)
        (br (ieq o ((rdP s1 x1).1) && ieq o1 ((rdP s1 x1).2))
        (k0 x1)
        (slices_Index_LP_P2_l0 N k0 k1 K s1 x (IntKind.i64.wrap (x1 + 1)) o o1))))
      (k1 ()))
noncomputable def slices_Index_LP_P2_l0_again {R : Type} (N : Nat) (ks : (j : Nat) → ((slices_Index_LP_P2_l0_ex.getD j (.ret, Sh.none)).2).T → Option R) (k : Nat) (x : slices_Index_LP_P2_l0_sh.T) : Option R :=
  slices_Index_LP_P2_l0 N (fun y0 => ks 0 ((y0, ()), ())) (fun (_ : Unit) => ks 1 ((), ())) k x.1.1 x.1.2.2.1 x.1.2.2.2.1 x.2.1.1 x.2.1.2.1
noncomputable def slices_Index_LP_P2_l0_s (N : Nat) : LSum := ⟨slices_Index_LP_P2_l0_sh, slices_Index_LP_P2_l0_ex, fun x ks => slices_Index_LP_P2_l0_again N ks N x⟩
theorem slices_Index_LP_P2_l0_step (N : Nat) (R : Type) (k : Nat) (x : slices_Index_LP_P2_l0_sh.T) (ks : (j : Nat) → ((slices_Index_LP_P2_l0_ex.getD j (.ret, Sh.none)).2).T → Option R) : slices_Index_LP_P2_l0_again N ks (k + 1) x = roundF (slices_Index_LP_P2_G N) tab [] (loopAt slices_Index_LP_P2_code 0) slices_Index_LP_P2_l0_sh slices_Index_LP_P2_l0_ex (fun y => slices_Index_LP_P2_l0_again N ks k y) ks x := by kernel_rfl
theorem slices_Index_LP_P2_l0_ok (N : Nat) : LoopOk Tryz.prog Tryz.f219.ntmps (slices_Index_LP_P2_l0_s N) (loopAt slices_Index_LP_P2_code 0) :=
  loop_ok (l := slices_Index_LP_P2_l0_s N) progOk (slices_Index_LP_P2_gok N) (draw_ok progOk (slices_Index_LP_P2_gok N)) (fun R k x ks => slices_Index_LP_P2_l0_again N ks k x) (fun _ _ _ => rfl) (fun R k x ks => slices_Index_LP_P2_l0_step N R k x ks) (fun R x ks r h => ⟨N, h⟩) (lsOk_at (L := []) trivial) (by kernel_rfl) (by kernel_rfl)
noncomputable def slices_Index_LP_P2 (N : Nat) (s : (List (Int × Int))) (v : (Int × Int)) : Option ((Int × Unit) × (Unit)) :=
  slices_Index_LP_P2_l0 N (fun x => some ((x, ()), ())) (fun (_ : Unit) => some (((-1), ()), ())) N s (tLen s) 0 v.1 v.2
noncomputable def slices_Index_LP_P2_S (N : Nat) : FSum := ⟨slices_Index_LP_P2_ps, slices_Index_LP_P2_rs, fun x => slices_Index_LP_P2 N x.1 x.2.1⟩
theorem slices_Index_LP_P2_run (N : Nat) (x : argsT slices_Index_LP_P2_ps) : slices_Index_LP_P2 N x.1 x.2.1 = funF (slices_Index_LP_P2_G N) tab [slices_Index_LP_P2_l0_s N] Tryz.f219 slices_Index_LP_P2_ps slices_Index_LP_P2_rs x := by kernel_rfl
theorem slices_Index_LP_P2_pc (N : Nat) : PC Tryz.prog 219 (slices_Index_LP_P2_S N) := by
  have e : slices_Index_LP_P2_S N = ⟨slices_Index_LP_P2_ps, slices_Index_LP_P2_rs, funF (slices_Index_LP_P2_G N) tab [slices_Index_LP_P2_l0_s N] Tryz.f219 slices_Index_LP_P2_ps slices_Index_LP_P2_rs⟩ := congrArg (FSum.mk slices_Index_LP_P2_ps slices_Index_LP_P2_rs) (funext (slices_Index_LP_P2_run N))
  rw [e]
  exact fun_ok (c := slices_Index_LP_P2_code) progOk (slices_Index_LP_P2_gok N) (draw_ok progOk (slices_Index_LP_P2_gok N)) Tryz.call219 Tryz.func219 (by kernel_rfl) (lsOk_at (L := [slices_Index_LP_P2_l0_s N]) ⟨slices_Index_LP_P2_l0_ok N, trivial⟩) (by kernel_rfl) (by kernel_rfl) (by kernel_rfl) (by kernel_rfl) (by kernel_rfl)

/-! ### slices_Contains_LP_P2 -/
abbrev slices_Contains_LP_P2_ps : List (PV.Mode × Ty) := [(.ro, LQII), (.ro, QII)]
abbrev slices_Contains_LP_P2_rs : List (Bool × Ty) := [(true, .bool)]
noncomputable def slices_Contains_LP_P2_G (N : Nat) : GTab := gOf [(219, slices_Index_LP_P2_S N)]
theorem slices_Contains_LP_P2_gok (N : Nat) : GOk Tryz.prog (slices_Contains_LP_P2_G N) := gOf_ok ⟨slices_Index_LP_P2_pc N, trivial⟩
noncomputable def slices_Contains_LP_P2_code : Code := (Tryz.f203.body).getD .skip
noncomputable def slices_Contains_LP_P2 (N : Nat) (s : (List (Int × Int))) (v : (Int × Int)) : Option ((Bool × Unit) × (Unit)) :=
  ((slices_Index_LP_P2 N s (v.1, v.2)).bind fun r =>
    some (((ile 0 r.1.1), ()), ()))
noncomputable def slices_Contains_LP_P2_S (N : Nat) : FSum := ⟨slices_Contains_LP_P2_ps, slices_Contains_LP_P2_rs, fun x => slices_Contains_LP_P2 N x.1 x.2.1⟩
theorem slices_Contains_LP_P2_run (N : Nat) (x : argsT slices_Contains_LP_P2_ps) : slices_Contains_LP_P2 N x.1 x.2.1 = funF (slices_Contains_LP_P2_G N) tab [] Tryz.f203 slices_Contains_LP_P2_ps slices_Contains_LP_P2_rs x := by kernel_rfl
theorem slices_Contains_LP_P2_pc (N : Nat) : PC Tryz.prog 203 (slices_Contains_LP_P2_S N) := by
  have e : slices_Contains_LP_P2_S N = ⟨slices_Contains_LP_P2_ps, slices_Contains_LP_P2_rs, funF (slices_Contains_LP_P2_G N) tab [] Tryz.f203 slices_Contains_LP_P2_ps slices_Contains_LP_P2_rs⟩ := congrArg (FSum.mk slices_Contains_LP_P2_ps slices_Contains_LP_P2_rs) (funext (slices_Contains_LP_P2_run N))
  rw [e]
  exact fun_ok (c := slices_Contains_LP_P2_code) progOk (slices_Contains_LP_P2_gok N) (draw_ok progOk (slices_Contains_LP_P2_gok N)) Tryz.call203 Tryz.func203 (by kernel_rfl) (lsOk_at (L := []) trivial) (by kernel_rfl) (by kernel_rfl) (by kernel_rfl) (by kernel_rfl) (by kernel_rfl)

/-! ### impl_Graph_has -/
abbrev impl_Graph_has_ps : List (PV.Mode × Ty) := [(.ro, QILQII), (.ro, I), (.ro, I)]
abbrev impl_Graph_has_rs : List (Bool × Ty) := [(true, .bool)]
noncomputable def impl_Graph_has_G (N : Nat) : GTab := gOf [(204, impl_pair_S N), (203, slices_Contains_LP_P2_S N)]
theorem impl_Graph_has_gok (N : Nat) : GOk Tryz.prog (impl_Graph_has_G N) := gOf_ok ⟨impl_pair_pc N, slices_Contains_LP_P2_pc N, trivial⟩
noncomputable def impl_Graph_has_code : Code := (Tryz.f165.body).getD .skip
noncomputable def impl_Graph_has (N : Nat) (g : (Int × (List (Int × Int)))) (a : Int) (b : Int) : Option ((Bool × Unit) × (Unit)) :=
  ((impl_pair N a b).bind fun r =>
    ((slices_Contains_LP_P2 N g.2 (r.1.1.1, r.1.1.2)).bind fun r1 =>
      some ((r1.1.1, ()), ())))
noncomputable def impl_Graph_has_S (N : Nat) : FSum := ⟨impl_Graph_has_ps, impl_Graph_has_rs, fun x => impl_Graph_has N x.1 x.2.1 x.2.2.1⟩
theorem impl_Graph_has_run (N : Nat) (x : argsT impl_Graph_has_ps) : impl_Graph_has N x.1 x.2.1 x.2.2.1 = funF (impl_Graph_has_G N) tab [] Tryz.f165 impl_Graph_has_ps impl_Graph_has_rs x := by kernel_rfl
theorem impl_Graph_has_pc (N : Nat) : PC Tryz.prog 165 (impl_Graph_has_S N) := by
  have e : impl_Graph_has_S N = ⟨impl_Graph_has_ps, impl_Graph_has_rs, funF (impl_Graph_has_G N) tab [] Tryz.f165 impl_Graph_has_ps impl_Graph_has_rs⟩ := congrArg (FSum.mk impl_Graph_has_ps impl_Graph_has_rs) (funext (impl_Graph_has_run N))
  rw [e]
  exact fun_ok (c := impl_Graph_has_code) progOk (impl_Graph_has_gok N) (draw_ok progOk (impl_Graph_has_gok N)) Tryz.call165 Tryz.func165 (by kernel_rfl) (lsOk_at (L := []) trivial) (by kernel_rfl) (by kernel_rfl) (by kernel_rfl) (by kernel_rfl) (by kernel_rfl)

/-! ### impl_Graph_neighbors -/
abbrev impl_Graph_neighbors_ps : List (PV.Mode × Ty) := [(.ro, QILQII), (.ro, I)]
abbrev impl_Graph_neighbors_rs : List (Bool × Ty) := [(true, LI)]
noncomputable def impl_Graph_neighbors_G (N : Nat) : GTab := gOf [(165, impl_Graph_has_S N)]
theorem impl_Graph_neighbors_gok (N : Nat) : GOk Tryz.prog (impl_Graph_neighbors_G N) := gOf_ok ⟨impl_Graph_has_pc N, trivial⟩
noncomputable def impl_Graph_neighbors_code : Code := (Tryz.f127.body).getD .skip
noncomputable def impl_Graph_neighbors_l0_sh : Sh := ⟨[(1, .one (.ro I)), (2, .one (.adr 0 0)), (5, .one (.ref 1)), (9, .one (.ro I)), (10, .one (.ro I))], [.box [.ro I, .ro LQII], .sl 3 I .own]⟩
noncomputable def impl_Graph_neighbors_l0_ex : List (Ex × Sh) := [(.exit 0, ⟨[(5, .one (.ref 0))], [.sl 3 I .own]⟩)]
noncomputable def impl_Graph_neighbors_l0 {R : Type} (N : Nat) (k0 : (List Int) → Option R) : Nat → Int → Int → Int → Int → (List (Int × Int)) → (List Int) → Option R
  | 0, _, _, _, _, _, _ => none
  | K + 1, x1, x2, x3, o, o1, o2 =>
    (br (ilt x3 x2)
      ((br (ine x3 x1)
        (((impl_Graph_has N (o, o1) x1 x3).bind fun r =>
          (br r.1.1
            ((chk (room o2 [x3])
              (impl_Graph_neighbors_l0 N k0 K x1 x2 (IntKind.i64.wrap (x3 + 1)) o o1 (tApp o2 [x3]))))
            (impl_Graph_neighbors_l0 N k0 K x1 x2 (IntKind.i64.wrap (x3 + 1)) o o1 o2))))
        (impl_Graph_neighbors_l0 N k0 K x1 x2 (IntKind.i64.wrap (x3 + 1)) o o1 o2)))
      (k0 o2))
noncomputable def impl_Graph_neighbors_l0_again {R : Type} (N : Nat) (ks : (j : Nat) → ((impl_Graph_neighbors_l0_ex.getD j (.ret, Sh.none)).2).T → Option R) (k : Nat) (x : impl_Graph_neighbors_l0_sh.T) : Option R :=
  impl_Graph_neighbors_l0 N (fun y0 => ks 0 (((), ()), (y0, ()))) k x.1.1 x.1.2.2.2.1 x.1.2.2.2.2.1 x.2.1.1 x.2.1.2.1 x.2.2.1
noncomputable def impl_Graph_neighbors_l0_s (N : Nat) : LSum := ⟨impl_Graph_neighbors_l0_sh, impl_Graph_neighbors_l0_ex, fun x ks => impl_Graph_neighbors_l0_again N ks N x⟩
theorem impl_Graph_neighbors_l0_step (N : Nat) (R : Type) (k : Nat) (x : impl_Graph_neighbors_l0_sh.T) (ks : (j : Nat) → ((impl_Graph_neighbors_l0_ex.getD j (.ret, Sh.none)).2).T → Option R) : impl_Graph_neighbors_l0_again N ks (k + 1) x = roundF (impl_Graph_neighbors_G N) tab [] (loopAt impl_Graph_neighbors_code 0) impl_Graph_neighbors_l0_sh impl_Graph_neighbors_l0_ex (fun y => impl_Graph_neighbors_l0_again N ks k y) ks x := by kernel_rfl
theorem impl_Graph_neighbors_l0_ok (N : Nat) : LoopOk Tryz.prog Tryz.f127.ntmps (impl_Graph_neighbors_l0_s N) (loopAt impl_Graph_neighbors_code 0) :=
  loop_ok (l := impl_Graph_neighbors_l0_s N) progOk (impl_Graph_neighbors_gok N) (draw_ok progOk (impl_Graph_neighbors_gok N)) (fun R k x ks => impl_Graph_neighbors_l0_again N ks k x) (fun _ _ _ => rfl) (fun R k x ks => impl_Graph_neighbors_l0_step N R k x ks) (fun R x ks r h => ⟨N, h⟩) (lsOk_at (L := []) trivial) (by kernel_rfl) (by kernel_rfl)
noncomputable def impl_Graph_neighbors (N : Nat) (g : (Int × (List (Int × Int)))) (x : Int) : Option (((List Int) × Unit) × (Unit)) :=
  impl_Graph_neighbors_l0 N (fun o => some ((o, ()), ())) N x g.1 0 g.1 g.2 []
noncomputable def impl_Graph_neighbors_S (N : Nat) : FSum := ⟨impl_Graph_neighbors_ps, impl_Graph_neighbors_rs, fun x => impl_Graph_neighbors N x.1 x.2.1⟩
theorem impl_Graph_neighbors_run (N : Nat) (x : argsT impl_Graph_neighbors_ps) : impl_Graph_neighbors N x.1 x.2.1 = funF (impl_Graph_neighbors_G N) tab [impl_Graph_neighbors_l0_s N] Tryz.f127 impl_Graph_neighbors_ps impl_Graph_neighbors_rs x := by kernel_rfl
theorem impl_Graph_neighbors_pc (N : Nat) : PC Tryz.prog 127 (impl_Graph_neighbors_S N) := by
  have e : impl_Graph_neighbors_S N = ⟨impl_Graph_neighbors_ps, impl_Graph_neighbors_rs, funF (impl_Graph_neighbors_G N) tab [impl_Graph_neighbors_l0_s N] Tryz.f127 impl_Graph_neighbors_ps impl_Graph_neighbors_rs⟩ := congrArg (FSum.mk impl_Graph_neighbors_ps impl_Graph_neighbors_rs) (funext (impl_Graph_neighbors_run N))
  rw [e]
  exact fun_ok (c := impl_Graph_neighbors_code) progOk (impl_Graph_neighbors_gok N) (draw_ok progOk (impl_Graph_neighbors_gok N)) Tryz.call127 Tryz.func127 (by kernel_rfl) (lsOk_at (L := [impl_Graph_neighbors_l0_s N]) ⟨impl_Graph_neighbors_l0_ok N, trivial⟩) (by kernel_rfl) (by kernel_rfl) (by kernel_rfl) (by kernel_rfl) (by kernel_rfl)

/-! ### slices_IndexFunc_LI_int -/
abbrev slices_IndexFunc_LI_int_ps : List (PV.Mode × Ty) := [(.ro, LI), (.ro, FIBo)]
abbrev slices_IndexFunc_LI_int_rs : List (Bool × Ty) := [(true, I)]
noncomputable def slices_IndexFunc_LI_int_G (N : Nat) : GTab := gOf []
theorem slices_IndexFunc_LI_int_gok (N : Nat) : GOk Tryz.prog (slices_IndexFunc_LI_int_G N) := gOf_ok trivial
noncomputable def slices_IndexFunc_LI_int_code : Code := (Tryz.f164.body).getD .skip
noncomputable def slices_IndexFunc_LI_int_l0_sh : Sh := ⟨[(0, .one (.ro LI)), (1, .one (.ro FIBo)), (7, .one (.ro I)), (8, .one (.ro I))], []⟩
noncomputable def slices_IndexFunc_LI_int_l0_ex : List (Ex × Sh) := [(.ret, ⟨[(4, .one (.ro I))], []⟩), (.exit 0, ⟨[], []⟩)]
noncomputable def slices_IndexFunc_LI_int_l0 {R : Type} (N : Nat) (k0 : Int → Option R) (k1 : Unit → Option R) : Nat → (List Int) → (Int → Option Bool) → Int → Int → Option R
  | 0, _, _, _, _ => none
  | K + 1, s1, f1, x, x1 =>
    (br (ilt x1 x)
      ((chk (inb s1 x1)
        ((f1 (rdI s1 x1)).bind fun v =>
        (br v
        (k0 x1)
        (slices_IndexFunc_LI_int_l0 N k0 k1 K s1 f1 x (IntKind.i64.wrap (x1 + 1)))))))
      (k1 ()))
noncomputable def slices_IndexFunc_LI_int_l0_again {R : Type} (N : Nat) (ks : (j : Nat) → ((slices_IndexFunc_LI_int_l0_ex.getD j (.ret, Sh.none)).2).T → Option R) (k : Nat) (x : slices_IndexFunc_LI_int_l0_sh.T) : Option R :=
  slices_IndexFunc_LI_int_l0 N (fun y0 => ks 0 ((y0, ()), ())) (fun (_ : Unit) => ks 1 ((), ())) k x.1.1 x.1.2.1 x.1.2.2.1 x.1.2.2.2.1
noncomputable def slices_IndexFunc_LI_int_l0_s (N : Nat) : LSum := ⟨slices_IndexFunc_LI_int_l0_sh, slices_IndexFunc_LI_int_l0_ex, fun x ks => slices_IndexFunc_LI_int_l0_again N ks N x⟩
theorem slices_IndexFunc_LI_int_l0_step (N : Nat) (R : Type) (k : Nat) (x : slices_IndexFunc_LI_int_l0_sh.T) (ks : (j : Nat) → ((slices_IndexFunc_LI_int_l0_ex.getD j (.ret, Sh.none)).2).T → Option R) : slices_IndexFunc_LI_int_l0_again N ks (k + 1) x = roundF (slices_IndexFunc_LI_int_G N) tab [] (loopAt slices_IndexFunc_LI_int_code 0) slices_IndexFunc_LI_int_l0_sh slices_IndexFunc_LI_int_l0_ex (fun y => slices_IndexFunc_LI_int_l0_again N ks k y) ks x := by kernel_rfl
theorem slices_IndexFunc_LI_int_l0_ok (N : Nat) : LoopOk Tryz.prog Tryz.f164.ntmps (slices_IndexFunc_LI_int_l0_s N) (loopAt slices_IndexFunc_LI_int_code 0) :=
  loop_ok (l := slices_IndexFunc_LI_int_l0_s N) progOk (slices_IndexFunc_LI_int_gok N) (draw_ok progOk (slices_IndexFunc_LI_int_gok N)) (fun R k x ks => slices_IndexFunc_LI_int_l0_again N ks k x) (fun _ _ _ => rfl) (fun R k x ks => slices_IndexFunc_LI_int_l0_step N R k x ks) (fun R x ks r h => ⟨N, h⟩) (lsOk_at (L := []) trivial) (by kernel_rfl) (by kernel_rfl)
noncomputable def slices_IndexFunc_LI_int (N : Nat) (s : (List Int)) (f : (Int → Option Bool)) : Option ((Int × Unit) × (Unit)) :=
  slices_IndexFunc_LI_int_l0 N (fun x => some ((x, ()), ())) (fun (_ : Unit) => some (((-1), ()), ())) N s f (tLen s) 0
noncomputable def slices_IndexFunc_LI_int_S (N : Nat) : FSum := ⟨slices_IndexFunc_LI_int_ps, slices_IndexFunc_LI_int_rs, fun x => slices_IndexFunc_LI_int N x.1 x.2.1⟩
theorem slices_IndexFunc_LI_int_run (N : Nat) (x : argsT slices_IndexFunc_LI_int_ps) : slices_IndexFunc_LI_int N x.1 x.2.1 = funF (slices_IndexFunc_LI_int_G N) tab [slices_IndexFunc_LI_int_l0_s N] Tryz.f164 slices_IndexFunc_LI_int_ps slices_IndexFunc_LI_int_rs x := by kernel_rfl
theorem slices_IndexFunc_LI_int_pc (N : Nat) : PC Tryz.prog 164 (slices_IndexFunc_LI_int_S N) := by
  have e : slices_IndexFunc_LI_int_S N = ⟨slices_IndexFunc_LI_int_ps, slices_IndexFunc_LI_int_rs, funF (slices_IndexFunc_LI_int_G N) tab [slices_IndexFunc_LI_int_l0_s N] Tryz.f164 slices_IndexFunc_LI_int_ps slices_IndexFunc_LI_int_rs⟩ := congrArg (FSum.mk slices_IndexFunc_LI_int_ps slices_IndexFunc_LI_int_rs) (funext (slices_IndexFunc_LI_int_run N))
  rw [e]
  exact fun_ok (c := slices_IndexFunc_LI_int_code) progOk (slices_IndexFunc_LI_int_gok N) (draw_ok progOk (slices_IndexFunc_LI_int_gok N)) Tryz.call164 Tryz.func164 (by kernel_rfl) (lsOk_at (L := [slices_IndexFunc_LI_int_l0_s N]) ⟨slices_IndexFunc_LI_int_l0_ok N, trivial⟩) (by kernel_rfl) (by kernel_rfl) (by kernel_rfl) (by kernel_rfl) (by kernel_rfl)

/-! ### slices_ContainsFunc_LI_int -/
abbrev slices_ContainsFunc_LI_int_ps : List (PV.Mode × Ty) := [(.ro, LI), (.ro, FIBo)]
abbrev slices_ContainsFunc_LI_int_rs : List (Bool × Ty) := [(true, .bool)]
noncomputable def slices_ContainsFunc_LI_int_G (N : Nat) : GTab := gOf [(164, slices_IndexFunc_LI_int_S N)]
theorem slices_ContainsFunc_LI_int_gok (N : Nat) : GOk Tryz.prog (slices_ContainsFunc_LI_int_G N) := gOf_ok ⟨slices_IndexFunc_LI_int_pc N, trivial⟩
noncomputable def slices_ContainsFunc_LI_int_code : Code := (Tryz.f126.body).getD .skip
noncomputable def slices_ContainsFunc_LI_int (N : Nat) (s : (List Int)) (f : (Int → Option Bool)) : Option ((Bool × Unit) × (Unit)) :=
  ((slices_IndexFunc_LI_int N s f).bind fun r =>
    some (((ile 0 r.1.1), ()), ()))
noncomputable def slices_ContainsFunc_LI_int_S (N : Nat) : FSum := ⟨slices_ContainsFunc_LI_int_ps, slices_ContainsFunc_LI_int_rs, fun x => slices_ContainsFunc_LI_int N x.1 x.2.1⟩
theorem slices_ContainsFunc_LI_int_run (N : Nat) (x : argsT slices_ContainsFunc_LI_int_ps) : slices_ContainsFunc_LI_int N x.1 x.2.1 = funF (slices_ContainsFunc_LI_int_G N) tab [] Tryz.f126 slices_ContainsFunc_LI_int_ps slices_ContainsFunc_LI_int_rs x := by kernel_rfl
theorem slices_ContainsFunc_LI_int_pc (N : Nat) : PC Tryz.prog 126 (slices_ContainsFunc_LI_int_S N) := by
  have e : slices_ContainsFunc_LI_int_S N = ⟨slices_ContainsFunc_LI_int_ps, slices_ContainsFunc_LI_int_rs, funF (slices_ContainsFunc_LI_int_G N) tab [] Tryz.f126 slices_ContainsFunc_LI_int_ps slices_ContainsFunc_LI_int_rs⟩ := congrArg (FSum.mk slices_ContainsFunc_LI_int_ps slices_ContainsFunc_LI_int_rs) (funext (slices_ContainsFunc_LI_int_run N))
  rw [e]
  exact fun_ok (c := slices_ContainsFunc_LI_int_code) progOk (slices_ContainsFunc_LI_int_gok N) (draw_ok progOk (slices_ContainsFunc_LI_int_gok N)) Tryz.call126 Tryz.func126 (by kernel_rfl) (lsOk_at (L := []) trivial) (by kernel_rfl) (by kernel_rfl) (by kernel_rfl) (by kernel_rfl) (by kernel_rfl)

/-! ### impl_Graph_colourings_c1_c1 -/
abbrev impl_Graph_colourings_c1_c1_ps : List (PV.Mode × Ty) := [(.ro, I), (.ro, AI), (.ro, ALI), (.ro, AI)]
abbrev impl_Graph_colourings_c1_c1_rs : List (Bool × Ty) := [(true, .bool)]
noncomputable def impl_Graph_colourings_c1_c1_G (N : Nat) : GTab := gOf []
theorem impl_Graph_colourings_c1_c1_gok (N : Nat) : GOk Tryz.prog (impl_Graph_colourings_c1_c1_G N) := gOf_ok trivial
noncomputable def impl_Graph_colourings_c1_c1_code : Code := (Tryz.f128.body).getD .skip
noncomputable def impl_Graph_colourings_c1_c1 (N : Nat) (y : Int) (c : Int) (c1 : (List Int)) (c2 : Int) : Option ((Bool × Unit) × (Unit)) :=
  (br (ilt y c)
    ((chk (inb c1 y)
      (some (((ieq (rdI c1 y) c2), ()), ()))))
    (some ((false, ()), ())))
noncomputable def impl_Graph_colourings_c1_c1_S (N : Nat) : FSum := ⟨impl_Graph_colourings_c1_c1_ps, impl_Graph_colourings_c1_c1_rs, fun x => impl_Graph_colourings_c1_c1 N x.1 x.2.1 x.2.2.1 x.2.2.2.1⟩
theorem impl_Graph_colourings_c1_c1_run (N : Nat) (x : argsT impl_Graph_colourings_c1_c1_ps) : impl_Graph_colourings_c1_c1 N x.1 x.2.1 x.2.2.1 x.2.2.2.1 = funF (impl_Graph_colourings_c1_c1_G N) tab [] Tryz.f128 impl_Graph_colourings_c1_c1_ps impl_Graph_colourings_c1_c1_rs x := by kernel_rfl
theorem impl_Graph_colourings_c1_c1_pc (N : Nat) : PC Tryz.prog 128 (impl_Graph_colourings_c1_c1_S N) := by
  have e : impl_Graph_colourings_c1_c1_S N = ⟨impl_Graph_colourings_c1_c1_ps, impl_Graph_colourings_c1_c1_rs, funF (impl_Graph_colourings_c1_c1_G N) tab [] Tryz.f128 impl_Graph_colourings_c1_c1_ps impl_Graph_colourings_c1_c1_rs⟩ := congrArg (FSum.mk impl_Graph_colourings_c1_c1_ps impl_Graph_colourings_c1_c1_rs) (funext (impl_Graph_colourings_c1_c1_run N))
  rw [e]
  exact fun_ok (c := impl_Graph_colourings_c1_c1_code) progOk (impl_Graph_colourings_c1_c1_gok N) (draw_ok progOk (impl_Graph_colourings_c1_c1_gok N)) Tryz.call128 Tryz.func128 (by kernel_rfl) (lsOk_at (L := []) trivial) (by kernel_rfl) (by kernel_rfl) (by kernel_rfl) (by kernel_rfl) (by kernel_rfl)

/-! ### impl_Graph_colourings_c1 -/
abbrev impl_Graph_colourings_c1_ps : List (PV.Mode × Ty) := [(.ro, I), (.ro, AQILQII), (.mut, BLLI), (.mut, BLI), (.ro, AI), (.ro, S125)]
abbrev impl_Graph_colourings_c1_rs : List (Bool × Ty) := [(true, .bool)]
noncomputable def impl_Graph_colourings_c1_T (slf : (Int → (Int × (List (Int × Int))) → (List (List Int)) → (List Int) → Int → Unit → Option ((Bool × Unit) × ((List (List Int)) × (List Int) × Unit)))) : FSum := ⟨impl_Graph_colourings_c1_ps, impl_Graph_colourings_c1_rs, fun x => slf x.1 x.2.1 x.2.2.1 x.2.2.2.1 x.2.2.2.2.1 x.2.2.2.2.2.1⟩
noncomputable def impl_Graph_colourings_c1_G (N : Nat) (slf : (Int → (Int × (List (Int × Int))) → (List (List Int)) → (List Int) → Int → Unit → Option ((Bool × Unit) × ((List (List Int)) × (List Int) × Unit)))) : GTab := gOf [(125, impl_Graph_colourings_c1_T slf), (84, slices_Clone_LI_int_S N), (127, impl_Graph_neighbors_S N), (126, slices_ContainsFunc_LI_int_S N), (128, impl_Graph_colourings_c1_c1_S N)]
theorem impl_Graph_colourings_c1_gok (N : Nat) (slf : (Int → (Int × (List (Int × Int))) → (List (List Int)) → (List Int) → Int → Unit → Option ((Bool × Unit) × ((List (List Int)) × (List Int) × Unit)))) (hslf : PC Tryz.prog 125 (impl_Graph_colourings_c1_T slf)) : GOk Tryz.prog (impl_Graph_colourings_c1_G N slf) := gOf_ok ⟨hslf, slices_Clone_LI_int_pc N, impl_Graph_neighbors_pc N, slices_ContainsFunc_LI_int_pc N, impl_Graph_colourings_c1_c1_pc N, trivial⟩
noncomputable def impl_Graph_colourings_c1_code : Code := (Tryz.f125.body).getD .skip
noncomputable def impl_Graph_colourings_c1_l0_sh : Sh := ⟨[(1, .one (.ro AQILQII)), (2, .one (.adr 0 0)), (3, .one (.adr 1 0)), (5, .one (.sadr 125 [.ro QILQII, .id 0, .id 1, .ro I, .me])), (6, .one (.adr 2 0)), (22, .one (.ro I)), (23, .one (.ro I))], [.mbox LLI, .mbox LI, .box [.ro I]]⟩
noncomputable def impl_Graph_colourings_c1_l0_ex : List (Ex × Sh) := [(.ret, ⟨[(2, .one (.adr 0 0)), (3, .one (.adr 1 0)), (7, .one (.ro .bool))], [.mbox LLI, .mbox LI]⟩), (.exit 0, ⟨[(2, .one (.adr 0 0)), (3, .one (.adr 1 0))], [.mbox LLI, .mbox LI]⟩)]
noncomputable def impl_Graph_colourings_c1_l0 {R : Type} (N : Nat) (slf : (Int → (Int × (List (Int × Int))) → (List (List Int)) → (List Int) → Int → Unit → Option ((Bool × Unit) × ((List (List Int)) × (List Int) × Unit)))) (k0 : Bool → (List (List Int)) → (List Int) → Option R) (k1 : (List (List Int)) → (List Int) → Option R) : Nat → (Int × (List (Int × Int))) → (Int × (List (Int × Int))) → Int → Int → Int → (List (List Int)) → (List Int) → Int → Option R
  | 0, _, _, _, _, _, _, _, _ => none
  | K + 1, x1, x2, x3, x4, x5, o, o1, o2 =>
    (br (ilt x5 x4)
      (((impl_Graph_neighbors N x1 o2).bind fun r1 =>
        ((slices_ContainsFunc_LI_int N r1.1.1 (fun y0 => (impl_Graph_colourings_c1_c1 N y0 o2 o1 x5).bind fun z => some z.1.1)).bind fun r2 =>
          (chk (inb o1 o2)
            (br (!r2.1.1)
            (((slf (IntKind.i64.wrap (o2 + 1)) x2 o (tSet o1 o2 x5) x3 ()).bind fun r3 =>
              (br (!r3.1.1)
                (k0 false r3.2.1 r3.2.2.1)
                (impl_Graph_colourings_c1_l0 N slf k0 k1 K x1 x2 x3 x4 (IntKind.i64.wrap (x5 + 1)) r3.2.1 r3.2.2.1 o2))))
            (impl_Graph_colourings_c1_l0 N slf k0 k1 K x1 x2 x3 x4 (IntKind.i64.wrap (x5 + 1)) o (tSet o1 o2 x5) o2))))))
      (k1 o o1))
noncomputable def impl_Graph_colourings_c1_l0_again {R : Type} (N : Nat) (slf : (Int → (Int × (List (Int × Int))) → (List (List Int)) → (List Int) → Int → Unit → Option ((Bool × Unit) × ((List (List Int)) × (List Int) × Unit)))) (ks : (j : Nat) → ((impl_Graph_colourings_c1_l0_ex.getD j (.ret, Sh.none)).2).T → Option R) (k : Nat) (x : impl_Graph_colourings_c1_l0_sh.T) : Option R :=
  impl_Graph_colourings_c1_l0 N slf (fun y0 y1 y2 => ks 0 (((), (), y0, ()), (y1, y2, ()))) (fun y0 y1 => ks 1 (((), (), ()), (y0, y1, ()))) k x.1.1 x.1.2.2.2.1.1 x.1.2.2.2.1.2.2.2.1 x.1.2.2.2.2.2.1 x.1.2.2.2.2.2.2.1 x.2.1 x.2.2.1 x.2.2.2.1.1
noncomputable def impl_Graph_colourings_c1_l0_s (N : Nat) (slf : (Int → (Int × (List (Int × Int))) → (List (List Int)) → (List Int) → Int → Unit → Option ((Bool × Unit) × ((List (List Int)) × (List Int) × Unit)))) : LSum := ⟨impl_Graph_colourings_c1_l0_sh, impl_Graph_colourings_c1_l0_ex, fun x ks => impl_Graph_colourings_c1_l0_again N slf ks N x⟩
theorem impl_Graph_colourings_c1_l0_step (N : Nat) (slf : (Int → (Int × (List (Int × Int))) → (List (List Int)) → (List Int) → Int → Unit → Option ((Bool × Unit) × ((List (List Int)) × (List Int) × Unit)))) (R : Type) (k : Nat) (x : impl_Graph_colourings_c1_l0_sh.T) (ks : (j : Nat) → ((impl_Graph_colourings_c1_l0_ex.getD j (.ret, Sh.none)).2).T → Option R) : impl_Graph_colourings_c1_l0_again N slf ks (k + 1) x = roundF (impl_Graph_colourings_c1_G N slf) tab [] (loopAt impl_Graph_colourings_c1_code 0) impl_Graph_colourings_c1_l0_sh impl_Graph_colourings_c1_l0_ex (fun y => impl_Graph_colourings_c1_l0_again N slf ks k y) ks x := by kernel_rfl
theorem impl_Graph_colourings_c1_l0_ok (N : Nat) (slf : (Int → (Int × (List (Int × Int))) → (List (List Int)) → (List Int) → Int → Unit → Option ((Bool × Unit) × ((List (List Int)) × (List Int) × Unit)))) (hslf : PC Tryz.prog 125 (impl_Graph_colourings_c1_T slf)) : LoopOk Tryz.prog Tryz.f125.ntmps (impl_Graph_colourings_c1_l0_s N slf) (loopAt impl_Graph_colourings_c1_code 0) :=
  loop_ok (l := impl_Graph_colourings_c1_l0_s N slf) progOk (impl_Graph_colourings_c1_gok N slf hslf) (draw_ok progOk (impl_Graph_colourings_c1_gok N slf hslf)) (fun R k x ks => impl_Graph_colourings_c1_l0_again N slf ks k x) (fun _ _ _ => rfl) (fun R k x ks => impl_Graph_colourings_c1_l0_step N slf R k x ks) (fun R x ks r h => ⟨N, h⟩) (lsOk_at (L := []) trivial) (by kernel_rfl) (by kernel_rfl)
noncomputable def impl_Graph_colourings_c1_b (N : Nat) (slf : (Int → (Int × (List (Int × Int))) → (List (List Int)) → (List Int) → Int → Unit → Option ((Bool × Unit) × ((List (List Int)) × (List Int) × Unit)))) (x : Int) (c : (Int × (List (Int × Int)))) (c1 : (List (List Int))) (c2 : (List Int)) (c3 : Int) (c4 : Unit) : Option ((Bool × Unit) × ((List (List Int)) × (List Int) × Unit)) :=
  (br (ieq x c.1)
    (((slices_Clone_LI_int N c2).bind fun r =>
      (chk (room c1 [r.1.1])
        (some (((ile (tLen (tApp c1 [r.1.1])) 300), ()), ((tApp c1 [r.1.1]), c2, ()))))))
    (impl_Graph_colourings_c1_l0 N slf (fun x1 o o1 => some ((x1, ()), (o, o1, ()))) (fun o2 o3 => some ((true, ()), (o2, o3, ()))) N c c c3 c3 0 c1 c2 x))
theorem impl_Graph_colourings_c1_run (N : Nat) (slf : (Int → (Int × (List (Int × Int))) → (List (List Int)) → (List Int) → Int → Unit → Option ((Bool × Unit) × ((List (List Int)) × (List Int) × Unit)))) (x : argsT impl_Graph_colourings_c1_ps) : impl_Graph_colourings_c1_b N slf x.1 x.2.1 x.2.2.1 x.2.2.2.1 x.2.2.2.2.1 x.2.2.2.2.2.1 = funF (impl_Graph_colourings_c1_G N slf) tab [impl_Graph_colourings_c1_l0_s N slf] Tryz.f125 impl_Graph_colourings_c1_ps impl_Graph_colourings_c1_rs x := by kernel_rfl
theorem impl_Graph_colourings_c1_bpc (N : Nat) (slf : (Int → (Int × (List (Int × Int))) → (List (List Int)) → (List Int) → Int → Unit → Option ((Bool × Unit) × ((List (List Int)) × (List Int) × Unit)))) (hslf : PC Tryz.prog 125 (impl_Graph_colourings_c1_T slf)) : PC Tryz.prog 125 (impl_Graph_colourings_c1_T (impl_Graph_colourings_c1_b N slf)) := by
  have e : impl_Graph_colourings_c1_T (impl_Graph_colourings_c1_b N slf) = ⟨impl_Graph_colourings_c1_ps, impl_Graph_colourings_c1_rs, funF (impl_Graph_colourings_c1_G N slf) tab [impl_Graph_colourings_c1_l0_s N slf] Tryz.f125 impl_Graph_colourings_c1_ps impl_Graph_colourings_c1_rs⟩ := congrArg (FSum.mk impl_Graph_colourings_c1_ps impl_Graph_colourings_c1_rs) (funext (impl_Graph_colourings_c1_run N slf))
  rw [e]
  exact fun_ok (c := impl_Graph_colourings_c1_code) progOk (impl_Graph_colourings_c1_gok N slf hslf) (draw_ok progOk (impl_Graph_colourings_c1_gok N slf hslf)) Tryz.call125 Tryz.func125 (by kernel_rfl) (lsOk_at (L := [impl_Graph_colourings_c1_l0_s N slf]) ⟨impl_Graph_colourings_c1_l0_ok N slf hslf, trivial⟩) (by kernel_rfl) (by kernel_rfl) (by kernel_rfl) (by kernel_rfl) (by kernel_rfl)
noncomputable def impl_Graph_colourings_c1_r (N : Nat) : Nat → (Int → (Int × (List (Int × Int))) → (List (List Int)) → (List Int) → Int → Unit → Option ((Bool × Unit) × ((List (List Int)) × (List Int) × Unit)))
  | 0 => fun _ _ _ _ _ _ => none
  | K + 1 => impl_Graph_colourings_c1_b N (impl_Graph_colourings_c1_r N K)
theorem impl_Graph_colourings_c1_rpc (N : Nat) : ∀ K, PC Tryz.prog 125 (impl_Graph_colourings_c1_T (impl_Graph_colourings_c1_r N K))
  | 0 => pc_none Tryz.call125
  | K + 1 => impl_Graph_colourings_c1_bpc N (impl_Graph_colourings_c1_r N K) (impl_Graph_colourings_c1_rpc N K)
noncomputable def impl_Graph_colourings_c1 (N : Nat) (x : Int) (c : (Int × (List (Int × Int)))) (c1 : (List (List Int))) (c2 : (List Int)) (c3 : Int) (c4 : Unit) : Option ((Bool × Unit) × ((List (List Int)) × (List Int) × Unit)) := impl_Graph_colourings_c1_r N N x c c1 c2 c3 c4
noncomputable def impl_Graph_colourings_c1_S (N : Nat) : FSum := ⟨impl_Graph_colourings_c1_ps, impl_Graph_colourings_c1_rs, fun x => impl_Graph_colourings_c1 N x.1 x.2.1 x.2.2.1 x.2.2.2.1 x.2.2.2.2.1 x.2.2.2.2.2.1⟩
theorem impl_Graph_colourings_c1_pc (N : Nat) : PC Tryz.prog 125 (impl_Graph_colourings_c1_S N) := impl_Graph_colourings_c1_rpc N N

/-! ### impl_Graph_colourings -/
abbrev impl_Graph_colourings_ps : List (PV.Mode × Ty) := [(.ro, QILQII), (.ro, I)]
abbrev impl_Graph_colourings_rs : List (Bool × Ty) := [(true, LLI), (true, .bool)]
noncomputable def impl_Graph_colourings_G (N : Nat) : GTab := gOf [(125, impl_Graph_colourings_c1_S N)]
theorem impl_Graph_colourings_gok (N : Nat) : GOk Tryz.prog (impl_Graph_colourings_G N) := gOf_ok ⟨impl_Graph_colourings_c1_pc N, trivial⟩
noncomputable def impl_Graph_colourings_code : Code := (Tryz.f81.body).getD .skip
noncomputable def impl_Graph_colourings (N : Nat) (g : (Int × (List (Int × Int)))) (kv : Int) : Option (((List (List Int)) × Bool × Unit) × (Unit)) :=
  (chk (ile 0 g.1 && ile g.1 g.1 && fits g.1)
    ((impl_Graph_colourings_c1 N 0 (g.1, g.2) [] (tRep g.1 (0 : Int)) kv ()).bind fun r =>
    (br (!r.1.1)
      (some (([], false, ()), ()))
      (some ((r.2.1, true, ()), ())))))
noncomputable def impl_Graph_colourings_S (N : Nat) : FSum := ⟨impl_Graph_colourings_ps, impl_Graph_colourings_rs, fun x => impl_Graph_colourings N x.1 x.2.1⟩
theorem impl_Graph_colourings_run (N : Nat) (x : argsT impl_Graph_colourings_ps) : impl_Graph_colourings N x.1 x.2.1 = funF (impl_Graph_colourings_G N) tab [] Tryz.f81 impl_Graph_colourings_ps impl_Graph_colourings_rs x := by kernel_rfl
theorem impl_Graph_colourings_pc (N : Nat) : PC Tryz.prog 81 (impl_Graph_colourings_S N) := by
  have e : impl_Graph_colourings_S N = ⟨impl_Graph_colourings_ps, impl_Graph_colourings_rs, funF (impl_Graph_colourings_G N) tab [] Tryz.f81 impl_Graph_colourings_ps impl_Graph_colourings_rs⟩ := congrArg (FSum.mk impl_Graph_colourings_ps impl_Graph_colourings_rs) (funext (impl_Graph_colourings_run N))
  rw [e]
  exact fun_ok (c := impl_Graph_colourings_code) progOk (impl_Graph_colourings_gok N) (draw_ok progOk (impl_Graph_colourings_gok N)) Tryz.call81 Tryz.func81 (by kernel_rfl) (lsOk_at (L := []) trivial) (by kernel_rfl) (by kernel_rfl) (by kernel_rfl) (by kernel_rfl) (by kernel_rfl)

/-! ### impl_Colourings -/
abbrev impl_Colourings_ps : List (PV.Mode × Ty) := [(.ro, QILQII), (.ro, I)]
abbrev impl_Colourings_rs : List (Bool × Ty) := [(true, LLI), (true, .bool)]
noncomputable def impl_Colourings_G (N : Nat) : GTab := gOf [(80, impl_isColourCase_S N), (81, impl_Graph_colourings_S N)]
theorem impl_Colourings_gok (N : Nat) : GOk Tryz.prog (impl_Colourings_G N) := gOf_ok ⟨impl_isColourCase_pc N, impl_Graph_colourings_pc N, trivial⟩
noncomputable def impl_Colourings_code : Code := (Tryz.f42.body).getD .skip
noncomputable def impl_Colourings (N : Nat) (g : (Int × (List (Int × Int)))) (kv : Int) : Option (((List (List Int)) × Bool × Unit) × (Unit)) :=
  ((impl_isColourCase N (g.1, g.2) kv).bind fun r =>
    (br (!r.1.1)
      (some (([], false, ()), ()))
      (((impl_Graph_colourings N (g.1, g.2) kv).bind fun r1 =>
        some ((r1.1.1, r1.1.2.1, ()), ())))))
noncomputable def impl_Colourings_S (N : Nat) : FSum := ⟨impl_Colourings_ps, impl_Colourings_rs, fun x => impl_Colourings N x.1 x.2.1⟩
theorem impl_Colourings_run (N : Nat) (x : argsT impl_Colourings_ps) : impl_Colourings N x.1 x.2.1 = funF (impl_Colourings_G N) tab [] Tryz.f42 impl_Colourings_ps impl_Colourings_rs x := by kernel_rfl
theorem impl_Colourings_pc (N : Nat) : PC Tryz.prog 42 (impl_Colourings_S N) := by
  have e : impl_Colourings_S N = ⟨impl_Colourings_ps, impl_Colourings_rs, funF (impl_Colourings_G N) tab [] Tryz.f42 impl_Colourings_ps impl_Colourings_rs⟩ := congrArg (FSum.mk impl_Colourings_ps impl_Colourings_rs) (funext (impl_Colourings_run N))
  rw [e]
  exact fun_ok (c := impl_Colourings_code) progOk (impl_Colourings_gok N) (draw_ok progOk (impl_Colourings_gok N)) Tryz.call42 Tryz.func42 (by kernel_rfl) (lsOk_at (L := []) trivial) (by kernel_rfl) (by kernel_rfl) (by kernel_rfl) (by kernel_rfl) (by kernel_rfl)

/-! ### math_bits_Len64 -/
abbrev math_bits_Len64_ps : List (PV.Mode × Ty) := [(.ro, U64)]
abbrev math_bits_Len64_rs : List (Bool × Ty) := [(true, I)]
noncomputable def math_bits_Len64_G (N : Nat) : GTab := gOf []
theorem math_bits_Len64_gok (N : Nat) : GOk Tryz.prog (math_bits_Len64_G N) := gOf_ok trivial
noncomputable def math_bits_Len64_code : Code := (Tryz.f175.body).getD .skip
noncomputable def math_bits_Len64 (N : Nat) (x : Int) : Option ((Int × Unit) × (Unit)) :=
  (br (ile 4294967296 x)
    ((br (ile 65536 (shrI .u64 x 32))
      ((br (ile 256 (shrI .u64 (shrI .u64 x 32) 16))
        ((chk (strIn str0 (IntKind.u8.wrap ((shrI .u64 (shrI .u64 (shrI .u64 x 32) 16) 8))))
          (some (((IntKind.i64.wrap (56 + (IntKind.i64.wrap ((strAt str0 (IntKind.u8.wrap ((shrI .u64 (shrI .u64 (shrI .u64 x 32) 16) 8)))))))), ()), ()))))
        ((chk (strIn str0 (IntKind.u8.wrap ((shrI .u64 (shrI .u64 x 32) 16))))
          (some (((IntKind.i64.wrap (48 + (IntKind.i64.wrap ((strAt str0 (IntKind.u8.wrap ((shrI .u64 (shrI .u64 x 32) 16)))))))), ()), ()))))))
      ((br (ile 256 (shrI .u64 x 32))
        ((chk (strIn str0 (IntKind.u8.wrap ((shrI .u64 (shrI .u64 x 32) 8))))
          (some (((IntKind.i64.wrap (40 + (IntKind.i64.wrap ((strAt str0 (IntKind.u8.wrap ((shrI .u64 (shrI .u64 x 32) 8)))))))), ()), ()))))
        ((chk (strIn str0 (IntKind.u8.wrap ((shrI .u64 x 32))))
          (some (((IntKind.i64.wrap (32 + (IntKind.i64.wrap ((strAt str0 (IntKind.u8.wrap ((shrI .u64 x 32)))))))), ()), ()))))))))
    ((br (ile 65536 x)
      ((br (ile 256 (shrI .u64 x 16))
        ((chk (strIn str0 (IntKind.u8.wrap ((shrI .u64 (shrI .u64 x 16) 8))))
          (some (((IntKind.i64.wrap (24 + (IntKind.i64.wrap ((strAt str0 (IntKind.u8.wrap ((shrI .u64 (shrI .u64 x 16) 8)))))))), ()), ()))))
        ((chk (strIn str0 (IntKind.u8.wrap ((shrI .u64 x 16))))
          (some (((IntKind.i64.wrap (16 + (IntKind.i64.wrap ((strAt str0 (IntKind.u8.wrap ((shrI .u64 x 16)))))))), ()), ()))))))
      ((br (ile 256 x)
        ((chk (strIn str0 (IntKind.u8.wrap ((shrI .u64 x 8))))
          (some (((IntKind.i64.wrap (8 + (IntKind.i64.wrap ((strAt str0 (IntKind.u8.wrap ((shrI .u64 x 8)))))))), ()), ()))))
        ((chk (strIn str0 (IntKind.u8.wrap (x)))
          (some (((IntKind.i64.wrap (0 + (IntKind.i64.wrap ((strAt str0 (IntKind.u8.wrap (x))))))), ()), ())))))))))
noncomputable def math_bits_Len64_S (N : Nat) : FSum := ⟨math_bits_Len64_ps, math_bits_Len64_rs, fun x => math_bits_Len64 N x.1⟩
theorem math_bits_Len64_run (N : Nat) (x : argsT math_bits_Len64_ps) : math_bits_Len64 N x.1 = funF (math_bits_Len64_G N) tab [] Tryz.f175 math_bits_Len64_ps math_bits_Len64_rs x := by kernel_rfl
theorem math_bits_Len64_pc (N : Nat) : PC Tryz.prog 175 (math_bits_Len64_S N) := by
  have e : math_bits_Len64_S N = ⟨math_bits_Len64_ps, math_bits_Len64_rs, funF (math_bits_Len64_G N) tab [] Tryz.f175 math_bits_Len64_ps math_bits_Len64_rs⟩ := congrArg (FSum.mk math_bits_Len64_ps math_bits_Len64_rs) (funext (math_bits_Len64_run N))
  rw [e]
  exact fun_ok (c := math_bits_Len64_code) progOk (math_bits_Len64_gok N) (draw_ok progOk (math_bits_Len64_gok N)) Tryz.call175 Tryz.func175 (by kernel_rfl) (lsOk_at (L := []) trivial) (by kernel_rfl) (by kernel_rfl) (by kernel_rfl) (by kernel_rfl) (by kernel_rfl)

/-! ### math_bits_Len -/
abbrev math_bits_Len_ps : List (PV.Mode × Ty) := [(.ro, U64)]
abbrev math_bits_Len_rs : List (Bool × Ty) := [(true, I)]
noncomputable def math_bits_Len_G (N : Nat) : GTab := gOf [(175, math_bits_Len64_S N)]
theorem math_bits_Len_gok (N : Nat) : GOk Tryz.prog (math_bits_Len_G N) := gOf_ok ⟨math_bits_Len64_pc N, trivial⟩
noncomputable def math_bits_Len_code : Code := (Tryz.f130.body).getD .skip
noncomputable def math_bits_Len (N : Nat) (x : Int) : Option ((Int × Unit) × (Unit)) :=
  ((math_bits_Len64 N x).bind fun r =>
    some ((r.1.1, ()), ()))
noncomputable def math_bits_Len_S (N : Nat) : FSum := ⟨math_bits_Len_ps, math_bits_Len_rs, fun x => math_bits_Len N x.1⟩
theorem math_bits_Len_run (N : Nat) (x : argsT math_bits_Len_ps) : math_bits_Len N x.1 = funF (math_bits_Len_G N) tab [] Tryz.f130 math_bits_Len_ps math_bits_Len_rs x := by kernel_rfl
theorem math_bits_Len_pc (N : Nat) : PC Tryz.prog 130 (math_bits_Len_S N) := by
  have e : math_bits_Len_S N = ⟨math_bits_Len_ps, math_bits_Len_rs, funF (math_bits_Len_G N) tab [] Tryz.f130 math_bits_Len_ps math_bits_Len_rs⟩ := congrArg (FSum.mk math_bits_Len_ps math_bits_Len_rs) (funext (math_bits_Len_run N))
  rw [e]
  exact fun_ok (c := math_bits_Len_code) progOk (math_bits_Len_gok N) (draw_ok progOk (math_bits_Len_gok N)) Tryz.call130 Tryz.func130 (by kernel_rfl) (lsOk_at (L := []) trivial) (by kernel_rfl) (by kernel_rfl) (by kernel_rfl) (by kernel_rfl) (by kernel_rfl)

/-! ### slices_insertionSortCmpFunc_LI -/
abbrev slices_insertionSortCmpFunc_LI_ps : List (PV.Mode × Ty) := [(.ro, LLI), (.ro, I), (.ro, I), (.ro, GLILII)]
abbrev slices_insertionSortCmpFunc_LI_rs : List (Bool × Ty) := []
noncomputable def slices_insertionSortCmpFunc_LI_G (N : Nat) : GTab := gOf []
theorem slices_insertionSortCmpFunc_LI_gok (N : Nat) : GOk Tryz.prog (slices_insertionSortCmpFunc_LI_G N) := gOf_ok trivial
noncomputable def slices_insertionSortCmpFunc_LI_code : Code := (Tryz.f166.body).getD .skip
noncomputable def slices_insertionSortCmpFunc_LI_l0_0_sh : Sh := ⟨[(0, .one (.ro LLI)), (1, .one (.ro I)), (2, .one (.ro I)), (3, .one (.ro GLILII)), (8, .one (.ro I)), (9, .one (.ro I))], []⟩
noncomputable def slices_insertionSortCmpFunc_LI_l0_0_ex : List (Ex × Sh) := [(.exit 2, ⟨[(0, .one (.ro LLI)), (1, .one (.ro I)), (2, .one (.ro I)), (3, .one (.ro GLILII)), (8, .one (.ro I))], []⟩)]
noncomputable def slices_insertionSortCmpFunc_LI_l0_0 {R : Type} (N : Nat) (k0 : (List (List Int)) → Int → Int → ((List Int) → (List Int) → Option Int) → Int → Option R) : Nat → (List (List Int)) → Int → Int → ((List Int) → (List Int) → Option Int) → Int → Int → Option R
  | 0, _, _, _, _, _, _ => none
  | K + 1, data2, a2, b2, cmp2, i1, j =>
    (br (ilt a2 j)
      ((chk (inb data2 j)
        (chk (inb data2 (IntKind.i64.wrap (j - 1)))
        ((cmp2 (rdL data2 j) (rdL data2 (IntKind.i64.wrap (j - 1)))).bind fun v =>
        (br (ilt v 0)
        ((chk (inb data2 (IntKind.i64.wrap (j - 1)))
          (chk (inb data2 j)
          (chk (inb data2 j)
          none))))
        (k0 data2 a2 b2 cmp2 i1))))))
      (k0 data2 a2 b2 cmp2 i1))
noncomputable def slices_insertionSortCmpFunc_LI_l0_0_again {R : Type} (N : Nat) (ks : (j : Nat) → ((slices_insertionSortCmpFunc_LI_l0_0_ex.getD j (.ret, Sh.none)).2).T → Option R) (k : Nat) (x : slices_insertionSortCmpFunc_LI_l0_0_sh.T) : Option R :=
  slices_insertionSortCmpFunc_LI_l0_0 N (fun y0 y1 y2 y3 y4 => ks 0 ((y0, y1, y2, y3, y4, ()), ())) k x.1.1 x.1.2.1 x.1.2.2.1 x.1.2.2.2.1 x.1.2.2.2.2.1 x.1.2.2.2.2.2.1
noncomputable def slices_insertionSortCmpFunc_LI_l0_0_s (N : Nat) : LSum := ⟨slices_insertionSortCmpFunc_LI_l0_0_sh, slices_insertionSortCmpFunc_LI_l0_0_ex, fun x ks => slices_insertionSortCmpFunc_LI_l0_0_again N ks N x⟩
theorem slices_insertionSortCmpFunc_LI_l0_0_step (N : Nat) (R : Type) (k : Nat) (x : slices_insertionSortCmpFunc_LI_l0_0_sh.T) (ks : (j : Nat) → ((slices_insertionSortCmpFunc_LI_l0_0_ex.getD j (.ret, Sh.none)).2).T → Option R) : slices_insertionSortCmpFunc_LI_l0_0_again N ks (k + 1) x = roundF (slices_insertionSortCmpFunc_LI_G N) tab [] (loopAt (loopAt slices_insertionSortCmpFunc_LI_code 0) 0) slices_insertionSortCmpFunc_LI_l0_0_sh slices_insertionSortCmpFunc_LI_l0_0_ex (fun y => slices_insertionSortCmpFunc_LI_l0_0_again N ks k y) ks x := by kernel_rfl
theorem slices_insertionSortCmpFunc_LI_l0_0_ok (N : Nat) : LoopOk Tryz.prog Tryz.f166.ntmps (slices_insertionSortCmpFunc_LI_l0_0_s N) (loopAt (loopAt slices_insertionSortCmpFunc_LI_code 0) 0) :=
  loop_ok (l := slices_insertionSortCmpFunc_LI_l0_0_s N) progOk (slices_insertionSortCmpFunc_LI_gok N) (draw_ok progOk (slices_insertionSortCmpFunc_LI_gok N)) (fun R k x ks => slices_insertionSortCmpFunc_LI_l0_0_again N ks k x) (fun _ _ _ => rfl) (fun R k x ks => slices_insertionSortCmpFunc_LI_l0_0_step N R k x ks) (fun R x ks r h => ⟨N, h⟩) (lsOk_at (L := []) trivial) (by kernel_rfl) (by kernel_rfl)
noncomputable def slices_insertionSortCmpFunc_LI_l0_sh : Sh := ⟨[(0, .one (.ro LLI)), (1, .one (.ro I)), (2, .one (.ro I)), (3, .one (.ro GLILII)), (8, .one (.ro I))], []⟩
noncomputable def slices_insertionSortCmpFunc_LI_l0_ex : List (Ex × Sh) := [(.exit 0, ⟨[], []⟩)]
noncomputable def slices_insertionSortCmpFunc_LI_l0 {R : Type} (N : Nat) (k0 : Unit → Option R) : Nat → (List (List Int)) → Int → Int → ((List Int) → (List Int) → Option Int) → Int → Option R
  | 0, _, _, _, _, _ => none
  | K + 1, data1, a1, b1, cmp1, i =>
    (br (ilt i b1)
      (slices_insertionSortCmpFunc_LI_l0_0 N (fun data2 a2 b2 cmp2 i1 => slices_insertionSortCmpFunc_LI_l0 N k0 K data2 a2 b2 cmp2 (IntKind.i64.wrap (i1 + 1))) N data1 a1 b1 cmp1 i i)
      (k0 ()))
noncomputable def slices_insertionSortCmpFunc_LI_l0_again {R : Type} (N : Nat) (ks : (j : Nat) → ((slices_insertionSortCmpFunc_LI_l0_ex.getD j (.ret, Sh.none)).2).T → Option R) (k : Nat) (x : slices_insertionSortCmpFunc_LI_l0_sh.T) : Option R :=
  slices_insertionSortCmpFunc_LI_l0 N (fun (_ : Unit) => ks 0 ((), ())) k x.1.1 x.1.2.1 x.1.2.2.1 x.1.2.2.2.1 x.1.2.2.2.2.1
noncomputable def slices_insertionSortCmpFunc_LI_l0_s (N : Nat) : LSum := ⟨slices_insertionSortCmpFunc_LI_l0_sh, slices_insertionSortCmpFunc_LI_l0_ex, fun x ks => slices_insertionSortCmpFunc_LI_l0_again N ks N x⟩
theorem slices_insertionSortCmpFunc_LI_l0_step (N : Nat) (R : Type) (k : Nat) (x : slices_insertionSortCmpFunc_LI_l0_sh.T) (ks : (j : Nat) → ((slices_insertionSortCmpFunc_LI_l0_ex.getD j (.ret, Sh.none)).2).T → Option R) : slices_insertionSortCmpFunc_LI_l0_again N ks (k + 1) x = roundF (slices_insertionSortCmpFunc_LI_G N) tab [slices_insertionSortCmpFunc_LI_l0_0_s N] (loopAt slices_insertionSortCmpFunc_LI_code 0) slices_insertionSortCmpFunc_LI_l0_sh slices_insertionSortCmpFunc_LI_l0_ex (fun y => slices_insertionSortCmpFunc_LI_l0_again N ks k y) ks x := by kernel_rfl
theorem slices_insertionSortCmpFunc_LI_l0_ok (N : Nat) : LoopOk Tryz.prog Tryz.f166.ntmps (slices_insertionSortCmpFunc_LI_l0_s N) (loopAt slices_insertionSortCmpFunc_LI_code 0) :=
  loop_ok (l := slices_insertionSortCmpFunc_LI_l0_s N) progOk (slices_insertionSortCmpFunc_LI_gok N) (draw_ok progOk (slices_insertionSortCmpFunc_LI_gok N)) (fun R k x ks => slices_insertionSortCmpFunc_LI_l0_again N ks k x) (fun _ _ _ => rfl) (fun R k x ks => slices_insertionSortCmpFunc_LI_l0_step N R k x ks) (fun R x ks r h => ⟨N, h⟩) (lsOk_at (L := [slices_insertionSortCmpFunc_LI_l0_0_s N]) ⟨slices_insertionSortCmpFunc_LI_l0_0_ok N, trivial⟩) (by kernel_rfl) (by kernel_rfl)
noncomputable def slices_insertionSortCmpFunc_LI (N : Nat) (data : (List (List Int))) (a : Int) (b : Int) (cmp : ((List Int) → (List Int) → Option Int)) : Option ((Unit) × (Unit)) :=
  slices_insertionSortCmpFunc_LI_l0 N (fun (_ : Unit) => some ((), ())) N data a b cmp (IntKind.i64.wrap (a + 1))
noncomputable def slices_insertionSortCmpFunc_LI_S (N : Nat) : FSum := ⟨slices_insertionSortCmpFunc_LI_ps, slices_insertionSortCmpFunc_LI_rs, fun x => slices_insertionSortCmpFunc_LI N x.1 x.2.1 x.2.2.1 x.2.2.2.1⟩
theorem slices_insertionSortCmpFunc_LI_run (N : Nat) (x : argsT slices_insertionSortCmpFunc_LI_ps) : slices_insertionSortCmpFunc_LI N x.1 x.2.1 x.2.2.1 x.2.2.2.1 = funF (slices_insertionSortCmpFunc_LI_G N) tab [slices_insertionSortCmpFunc_LI_l0_s N] Tryz.f166 slices_insertionSortCmpFunc_LI_ps slices_insertionSortCmpFunc_LI_rs x := by kernel_rfl
theorem slices_insertionSortCmpFunc_LI_pc (N : Nat) : PC Tryz.prog 166 (slices_insertionSortCmpFunc_LI_S N) := by
  have e : slices_insertionSortCmpFunc_LI_S N = ⟨slices_insertionSortCmpFunc_LI_ps, slices_insertionSortCmpFunc_LI_rs, funF (slices_insertionSortCmpFunc_LI_G N) tab [slices_insertionSortCmpFunc_LI_l0_s N] Tryz.f166 slices_insertionSortCmpFunc_LI_ps slices_insertionSortCmpFunc_LI_rs⟩ := congrArg (FSum.mk slices_insertionSortCmpFunc_LI_ps slices_insertionSortCmpFunc_LI_rs) (funext (slices_insertionSortCmpFunc_LI_run N))
  rw [e]
  exact fun_ok (c := slices_insertionSortCmpFunc_LI_code) progOk (slices_insertionSortCmpFunc_LI_gok N) (draw_ok progOk (slices_insertionSortCmpFunc_LI_gok N)) Tryz.call166 Tryz.func166 (by kernel_rfl) (lsOk_at (L := [slices_insertionSortCmpFunc_LI_l0_s N]) ⟨slices_insertionSortCmpFunc_LI_l0_ok N, trivial⟩) (by kernel_rfl) (by kernel_rfl) (by kernel_rfl) (by kernel_rfl) (by kernel_rfl)

/-! ### slices_order2CmpFunc_LI -/
abbrev slices_order2CmpFunc_LI_ps : List (PV.Mode × Ty) := [(.ro, LLI), (.ro, I), (.ro, I), (.mut, BI), (.ro, GLILII)]
abbrev slices_order2CmpFunc_LI_rs : List (Bool × Ty) := [(true, I), (true, I)]
noncomputable def slices_order2CmpFunc_LI_G (N : Nat) : GTab := gOf []
theorem slices_order2CmpFunc_LI_gok (N : Nat) : GOk Tryz.prog (slices_order2CmpFunc_LI_G N) := gOf_ok trivial
noncomputable def slices_order2CmpFunc_LI_code : Code := (Tryz.f220.body).getD .skip
noncomputable def slices_order2CmpFunc_LI (N : Nat) (data : (List (List Int))) (a : Int) (b : Int) (swaps : Int) (cmp : ((List Int) → (List Int) → Option Int)) : Option ((Int × Int × Unit) × (Int × Unit)) :=
  (chk (inb data b)
    (chk (inb data a)
    ((cmp (rdL data b) (rdL data a)).bind fun v =>
    (br (ilt v 0)
    (some ((b, a, ()), ((IntKind.i64.wrap (swaps + 1)), ())))
    (some ((a, b, ()), (swaps, ())))))))
noncomputable def slices_order2CmpFunc_LI_S (N : Nat) : FSum := ⟨slices_order2CmpFunc_LI_ps, slices_order2CmpFunc_LI_rs, fun x => slices_order2CmpFunc_LI N x.1 x.2.1 x.2.2.1 x.2.2.2.1 x.2.2.2.2.1⟩
theorem slices_order2CmpFunc_LI_run (N : Nat) (x : argsT slices_order2CmpFunc_LI_ps) : slices_order2CmpFunc_LI N x.1 x.2.1 x.2.2.1 x.2.2.2.1 x.2.2.2.2.1 = funF (slices_order2CmpFunc_LI_G N) tab [] Tryz.f220 slices_order2CmpFunc_LI_ps slices_order2CmpFunc_LI_rs x := by kernel_rfl
theorem slices_order2CmpFunc_LI_pc (N : Nat) : PC Tryz.prog 220 (slices_order2CmpFunc_LI_S N) := by
  have e : slices_order2CmpFunc_LI_S N = ⟨slices_order2CmpFunc_LI_ps, slices_order2CmpFunc_LI_rs, funF (slices_order2CmpFunc_LI_G N) tab [] Tryz.f220 slices_order2CmpFunc_LI_ps slices_order2CmpFunc_LI_rs⟩ := congrArg (FSum.mk slices_order2CmpFunc_LI_ps slices_order2CmpFunc_LI_rs) (funext (slices_order2CmpFunc_LI_run N))
  rw [e]
  exact fun_ok (c := slices_order2CmpFunc_LI_code) progOk (slices_order2CmpFunc_LI_gok N) (draw_ok progOk (slices_order2CmpFunc_LI_gok N)) Tryz.call220 Tryz.func220 (by kernel_rfl) (lsOk_at (L := []) trivial) (by kernel_rfl) (by kernel_rfl) (by kernel_rfl) (by kernel_rfl) (by kernel_rfl)

/-! ### slices_medianCmpFunc_LI -/
abbrev slices_medianCmpFunc_LI_ps : List (PV.Mode × Ty) := [(.ro, LLI), (.ro, I), (.ro, I), (.ro, I), (.mut, BI), (.ro, GLILII)]
abbrev slices_medianCmpFunc_LI_rs : List (Bool × Ty) := [(true, I)]
noncomputable def slices_medianCmpFunc_LI_G (N : Nat) : GTab := gOf [(220, slices_order2CmpFunc_LI_S N)]
theorem slices_medianCmpFunc_LI_gok (N : Nat) : GOk Tryz.prog (slices_medianCmpFunc_LI_G N) := gOf_ok ⟨slices_order2CmpFunc_LI_pc N, trivial⟩
noncomputable def slices_medianCmpFunc_LI_code : Code := (Tryz.f209.body).getD .skip
noncomputable def slices_medianCmpFunc_LI (N : Nat) (data : (List (List Int))) (a : Int) (b : Int) (c : Int) (swaps : Int) (cmp : ((List Int) → (List Int) → Option Int)) : Option ((Int × Unit) × (Int × Unit)) :=
  ((slices_order2CmpFunc_LI N data a b swaps cmp).bind fun r =>
    ((slices_order2CmpFunc_LI N data r.1.2.1 c r.2.1 cmp).bind fun r1 =>
      ((slices_order2CmpFunc_LI N data r.1.1 r1.1.1 r1.2.1 cmp).bind fun r2 =>
        some ((r2.1.2.1, ()), (r2.2.1, ())))))
noncomputable def slices_medianCmpFunc_LI_S (N : Nat) : FSum := ⟨slices_medianCmpFunc_LI_ps, slices_medianCmpFunc_LI_rs, fun x => slices_medianCmpFunc_LI N x.1 x.2.1 x.2.2.1 x.2.2.2.1 x.2.2.2.2.1 x.2.2.2.2.2.1⟩
theorem slices_medianCmpFunc_LI_run (N : Nat) (x : argsT slices_medianCmpFunc_LI_ps) : slices_medianCmpFunc_LI N x.1 x.2.1 x.2.2.1 x.2.2.2.1 x.2.2.2.2.1 x.2.2.2.2.2.1 = funF (slices_medianCmpFunc_LI_G N) tab [] Tryz.f209 slices_medianCmpFunc_LI_ps slices_medianCmpFunc_LI_rs x := by kernel_rfl
theorem slices_medianCmpFunc_LI_pc (N : Nat) : PC Tryz.prog 209 (slices_medianCmpFunc_LI_S N) := by
  have e : slices_medianCmpFunc_LI_S N = ⟨slices_medianCmpFunc_LI_ps, slices_medianCmpFunc_LI_rs, funF (slices_medianCmpFunc_LI_G N) tab [] Tryz.f209 slices_medianCmpFunc_LI_ps slices_medianCmpFunc_LI_rs⟩ := congrArg (FSum.mk slices_medianCmpFunc_LI_ps slices_medianCmpFunc_LI_rs) (funext (slices_medianCmpFunc_LI_run N))
  rw [e]
  exact fun_ok (c := slices_medianCmpFunc_LI_code) progOk (slices_medianCmpFunc_LI_gok N) (draw_ok progOk (slices_medianCmpFunc_LI_gok N)) Tryz.call209 Tryz.func209 (by kernel_rfl) (lsOk_at (L := []) trivial) (by kernel_rfl) (by kernel_rfl) (by kernel_rfl) (by kernel_rfl) (by kernel_rfl)

/-! ### slices_medianAdjacentCmpFunc_LI -/
abbrev slices_medianAdjacentCmpFunc_LI_ps : List (PV.Mode × Ty) := [(.ro, LLI), (.ro, I), (.mut, BI), (.ro, GLILII)]
abbrev slices_medianAdjacentCmpFunc_LI_rs : List (Bool × Ty) := [(true, I)]
noncomputable def slices_medianAdjacentCmpFunc_LI_G (N : Nat) : GTab := gOf [(209, slices_medianCmpFunc_LI_S N)]
theorem slices_medianAdjacentCmpFunc_LI_gok (N : Nat) : GOk Tryz.prog (slices_medianAdjacentCmpFunc_LI_G N) := gOf_ok ⟨slices_medianCmpFunc_LI_pc N, trivial⟩
noncomputable def slices_medianAdjacentCmpFunc_LI_code : Code := (Tryz.f208.body).getD .skip
noncomputable def slices_medianAdjacentCmpFunc_LI (N : Nat) (data : (List (List Int))) (a : Int) (swaps : Int) (cmp : ((List Int) → (List Int) → Option Int)) : Option ((Int × Unit) × (Int × Unit)) :=
  ((slices_medianCmpFunc_LI N data (IntKind.i64.wrap (a - 1)) a (IntKind.i64.wrap (a + 1)) swaps cmp).bind fun r =>
    some ((r.1.1, ()), (r.2.1, ())))
noncomputable def slices_medianAdjacentCmpFunc_LI_S (N : Nat) : FSum := ⟨slices_medianAdjacentCmpFunc_LI_ps, slices_medianAdjacentCmpFunc_LI_rs, fun x => slices_medianAdjacentCmpFunc_LI N x.1 x.2.1 x.2.2.1 x.2.2.2.1⟩
theorem slices_medianAdjacentCmpFunc_LI_run (N : Nat) (x : argsT slices_medianAdjacentCmpFunc_LI_ps) : slices_medianAdjacentCmpFunc_LI N x.1 x.2.1 x.2.2.1 x.2.2.2.1 = funF (slices_medianAdjacentCmpFunc_LI_G N) tab [] Tryz.f208 slices_medianAdjacentCmpFunc_LI_ps slices_medianAdjacentCmpFunc_LI_rs x := by kernel_rfl
theorem slices_medianAdjacentCmpFunc_LI_pc (N : Nat) : PC Tryz.prog 208 (slices_medianAdjacentCmpFunc_LI_S N) := by
  have e : slices_medianAdjacentCmpFunc_LI_S N = ⟨slices_medianAdjacentCmpFunc_LI_ps, slices_medianAdjacentCmpFunc_LI_rs, funF (slices_medianAdjacentCmpFunc_LI_G N) tab [] Tryz.f208 slices_medianAdjacentCmpFunc_LI_ps slices_medianAdjacentCmpFunc_LI_rs⟩ := congrArg (FSum.mk slices_medianAdjacentCmpFunc_LI_ps slices_medianAdjacentCmpFunc_LI_rs) (funext (slices_medianAdjacentCmpFunc_LI_run N))
  rw [e]
  exact fun_ok (c := slices_medianAdjacentCmpFunc_LI_code) progOk (slices_medianAdjacentCmpFunc_LI_gok N) (draw_ok progOk (slices_medianAdjacentCmpFunc_LI_gok N)) Tryz.call208 Tryz.func208 (by kernel_rfl) (lsOk_at (L := []) trivial) (by kernel_rfl) (by kernel_rfl) (by kernel_rfl) (by kernel_rfl) (by kernel_rfl)
end Go.Proofs.YtgelipdkheahdaaGreat
