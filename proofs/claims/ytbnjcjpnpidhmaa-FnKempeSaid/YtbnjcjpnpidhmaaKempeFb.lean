/- Functions of the program as functions on data. -/
import Derived.Test.YtbnjcjpnpidhmaaKempeFa
set_option linter.all false
namespace Go.Proofs.Ytbnjcjpnpidhmaa
open Go Go.PV
/-! ### impl_between -/
abbrev impl_between_ps : List (PV.Mode × Ty) := [(.ro, I), (.ro, I), (.ro, I)]
abbrev impl_between_rs : List (Bool × Ty) := [(true, .bool)]
noncomputable def impl_between_G (N : Nat) : GTab := gOf []
theorem impl_between_gok (N : Nat) : GOk Try.prog (impl_between_G N) := gOf_ok trivial
noncomputable def impl_between_code : Code := (Try.f79.body).getD .skip
noncomputable def impl_between (N : Nat) (n : Int) (low : Int) (high : Int) : Option ((Bool × Unit) × (Unit)) :=
  (br (ile low n)
    (some (((ile n high), ()), ()))
    (some ((false, ()), ())))
noncomputable def impl_between_S (N : Nat) : FSum := ⟨impl_between_ps, impl_between_rs, fun x => impl_between N x.1 x.2.1 x.2.2.1⟩
theorem impl_between_run (N : Nat) (x : argsT impl_between_ps) : impl_between N x.1 x.2.1 x.2.2.1 = funF (impl_between_G N) tab [] Try.f79 impl_between_ps impl_between_rs x := by kernel_rfl
theorem impl_between_pc (N : Nat) : PC Try.prog 79 (impl_between_S N) := by
  have e : impl_between_S N = ⟨impl_between_ps, impl_between_rs, funF (impl_between_G N) tab [] Try.f79 impl_between_ps impl_between_rs⟩ := congrArg (FSum.mk impl_between_ps impl_between_rs) (funext (impl_between_run N))
  rw [e]
  exact fun_ok (c := impl_between_code) progOk (impl_between_gok N) (draw_ok progOk (impl_between_gok N)) Try.call79 Try.func79 (by kernel_rfl) (lsOk_at (L := []) trivial) (by kernel_rfl) (by kernel_rfl) (by kernel_rfl) (by kernel_rfl) (by kernel_rfl)

/-! ### cmp_isNaN_int -/
abbrev cmp_isNaN_int_ps : List (PV.Mode × Ty) := [(.ro, I)]
abbrev cmp_isNaN_int_rs : List (Bool × Ty) := [(true, .bool)]
noncomputable def cmp_isNaN_int_G (N : Nat) : GTab := gOf []
theorem cmp_isNaN_int_gok (N : Nat) : GOk Try.prog (cmp_isNaN_int_G N) := gOf_ok trivial
noncomputable def cmp_isNaN_int_code : Code := (Try.f158.body).getD .skip
noncomputable def cmp_isNaN_int (N : Nat) (x : Int) : Option ((Bool × Unit) × (Unit)) :=
  some (((ine x x), ()), ())
noncomputable def cmp_isNaN_int_S (N : Nat) : FSum := ⟨cmp_isNaN_int_ps, cmp_isNaN_int_rs, fun x => cmp_isNaN_int N x.1⟩
theorem cmp_isNaN_int_run (N : Nat) (x : argsT cmp_isNaN_int_ps) : cmp_isNaN_int N x.1 = funF (cmp_isNaN_int_G N) tab [] Try.f158 cmp_isNaN_int_ps cmp_isNaN_int_rs x := by kernel_rfl
theorem cmp_isNaN_int_pc (N : Nat) : PC Try.prog 158 (cmp_isNaN_int_S N) := by
  have e : cmp_isNaN_int_S N = ⟨cmp_isNaN_int_ps, cmp_isNaN_int_rs, funF (cmp_isNaN_int_G N) tab [] Try.f158 cmp_isNaN_int_ps cmp_isNaN_int_rs⟩ := congrArg (FSum.mk cmp_isNaN_int_ps cmp_isNaN_int_rs) (funext (cmp_isNaN_int_run N))
  rw [e]
  exact fun_ok (c := cmp_isNaN_int_code) progOk (cmp_isNaN_int_gok N) (draw_ok progOk (cmp_isNaN_int_gok N)) Try.call158 Try.func158 (by kernel_rfl) (lsOk_at (L := []) trivial) (by kernel_rfl) (by kernel_rfl) (by kernel_rfl) (by kernel_rfl) (by kernel_rfl)

/-! ### cmp_Compare_int -/
abbrev cmp_Compare_int_ps : List (PV.Mode × Ty) := [(.ro, I), (.ro, I)]
abbrev cmp_Compare_int_rs : List (Bool × Ty) := [(true, I)]
noncomputable def cmp_Compare_int_G (N : Nat) : GTab := gOf [(158, cmp_isNaN_int_S N)]
theorem cmp_Compare_int_gok (N : Nat) : GOk Try.prog (cmp_Compare_int_G N) := gOf_ok ⟨cmp_isNaN_int_pc N, trivial⟩
noncomputable def cmp_Compare_int_code : Code := (Try.f138.body).getD .skip
noncomputable def cmp_Compare_int (N : Nat) (x : Int) (y : Int) : Option ((Int × Unit) × (Unit)) :=
  ((cmp_isNaN_int N x).bind fun r =>
    ((cmp_isNaN_int N y).bind fun r1 =>
      (br r.1.1
        ((br r1.1.1
          (some ((0, ()), ()))
          (some (((-1), ()), ()))))
        ((br r1.1.1
          (some ((1, ()), ()))
          ((br (ilt x y)
            (some (((-1), ()), ()))
            ((br (ilt y x)
              (some ((1, ()), ()))
              (some ((0, ()), ())))))))))))
noncomputable def cmp_Compare_int_S (N : Nat) : FSum := ⟨cmp_Compare_int_ps, cmp_Compare_int_rs, fun x => cmp_Compare_int N x.1 x.2.1⟩
theorem cmp_Compare_int_run (N : Nat) (x : argsT cmp_Compare_int_ps) : cmp_Compare_int N x.1 x.2.1 = funF (cmp_Compare_int_G N) tab [] Try.f138 cmp_Compare_int_ps cmp_Compare_int_rs x := by kernel_rfl
theorem cmp_Compare_int_pc (N : Nat) : PC Try.prog 138 (cmp_Compare_int_S N) := by
  have e : cmp_Compare_int_S N = ⟨cmp_Compare_int_ps, cmp_Compare_int_rs, funF (cmp_Compare_int_G N) tab [] Try.f138 cmp_Compare_int_ps cmp_Compare_int_rs⟩ := congrArg (FSum.mk cmp_Compare_int_ps cmp_Compare_int_rs) (funext (cmp_Compare_int_run N))
  rw [e]
  exact fun_ok (c := cmp_Compare_int_code) progOk (cmp_Compare_int_gok N) (draw_ok progOk (cmp_Compare_int_gok N)) Try.call138 Try.func138 (by kernel_rfl) (lsOk_at (L := []) trivial) (by kernel_rfl) (by kernel_rfl) (by kernel_rfl) (by kernel_rfl) (by kernel_rfl)

/-! ### cmp_Or_int -/
abbrev cmp_Or_int_ps : List (PV.Mode × Ty) := [(.ro, LI)]
abbrev cmp_Or_int_rs : List (Bool × Ty) := [(true, I)]
noncomputable def cmp_Or_int_G (N : Nat) : GTab := gOf []
theorem cmp_Or_int_gok (N : Nat) : GOk Try.prog (cmp_Or_int_G N) := gOf_ok trivial
noncomputable def cmp_Or_int_code : Code := (Try.f137.body).getD .skip
noncomputable def cmp_Or_int_l0_sh : Sh := ⟨[(3, .one (.ro I)), (6, .one (.ro LI)), (7, .one (.ro I)), (8, .one (.ro I))], []⟩
noncomputable def cmp_Or_int_l0_ex : List (Ex × Sh) := [(.ret, ⟨[(2, .one (.ro I))], []⟩), (.exit 0, ⟨[(3, .one (.ro I))], []⟩)]
noncomputable def cmp_Or_int_l0 {R : Type} (N : Nat) (k0 : Int → Option R) (k1 : Int → Option R) : Nat → Int → (List Int) → Int → Int → Option R
  | 0, _, _, _, _ => none
  | K + 1, zero, x, x1, x2 =>
    (br (ilt x2 x1)
      ((chk (inb x x2)
        (br (ine (rdI x x2) zero)
        (k0 (rdI x x2))
        (cmp_Or_int_l0 N k0 k1 K zero x x1 (IntKind.i64.wrap (x2 + 1))))))
      (k1 zero))
noncomputable def cmp_Or_int_l0_again {R : Type} (N : Nat) (ks : (j : Nat) → ((cmp_Or_int_l0_ex.getD j (.ret, Sh.none)).2).T → Option R) (k : Nat) (x : cmp_Or_int_l0_sh.T) : Option R :=
  cmp_Or_int_l0 N (fun y0 => ks 0 ((y0, ()), ())) (fun y0 => ks 1 ((y0, ()), ())) k x.1.1 x.1.2.1 x.1.2.2.1 x.1.2.2.2.1
noncomputable def cmp_Or_int_l0_s (N : Nat) : LSum := ⟨cmp_Or_int_l0_sh, cmp_Or_int_l0_ex, fun x ks => cmp_Or_int_l0_again N ks N x⟩
theorem cmp_Or_int_l0_step (N : Nat) (R : Type) (k : Nat) (x : cmp_Or_int_l0_sh.T) (ks : (j : Nat) → ((cmp_Or_int_l0_ex.getD j (.ret, Sh.none)).2).T → Option R) : cmp_Or_int_l0_again N ks (k + 1) x = roundF (cmp_Or_int_G N) tab [] (loopAt cmp_Or_int_code 0) cmp_Or_int_l0_sh cmp_Or_int_l0_ex (fun y => cmp_Or_int_l0_again N ks k y) ks x := by kernel_rfl
theorem cmp_Or_int_l0_ok (N : Nat) : LoopOk Try.prog Try.f137.ntmps (cmp_Or_int_l0_s N) (loopAt cmp_Or_int_code 0) :=
  loop_ok (l := cmp_Or_int_l0_s N) progOk (cmp_Or_int_gok N) (draw_ok progOk (cmp_Or_int_gok N)) (fun R k x ks => cmp_Or_int_l0_again N ks k x) (fun _ _ _ => rfl) (fun R k x ks => cmp_Or_int_l0_step N R k x ks) (fun R x ks r h => ⟨N, h⟩) (lsOk_at (L := []) trivial) (by kernel_rfl) (by kernel_rfl)
noncomputable def cmp_Or_int (N : Nat) (vals : (List Int)) : Option ((Int × Unit) × (Unit)) :=
  cmp_Or_int_l0 N (fun x => some ((x, ()), ())) (fun zero => some ((zero, ()), ())) N 0 vals (tLen vals) 0
noncomputable def cmp_Or_int_S (N : Nat) : FSum := ⟨cmp_Or_int_ps, cmp_Or_int_rs, fun x => cmp_Or_int N x.1⟩
theorem cmp_Or_int_run (N : Nat) (x : argsT cmp_Or_int_ps) : cmp_Or_int N x.1 = funF (cmp_Or_int_G N) tab [cmp_Or_int_l0_s N] Try.f137 cmp_Or_int_ps cmp_Or_int_rs x := by kernel_rfl
theorem cmp_Or_int_pc (N : Nat) : PC Try.prog 137 (cmp_Or_int_S N) := by
  have e : cmp_Or_int_S N = ⟨cmp_Or_int_ps, cmp_Or_int_rs, funF (cmp_Or_int_G N) tab [cmp_Or_int_l0_s N] Try.f137 cmp_Or_int_ps cmp_Or_int_rs⟩ := congrArg (FSum.mk cmp_Or_int_ps cmp_Or_int_rs) (funext (cmp_Or_int_run N))
  rw [e]
  exact fun_ok (c := cmp_Or_int_code) progOk (cmp_Or_int_gok N) (draw_ok progOk (cmp_Or_int_gok N)) Try.call137 Try.func137 (by kernel_rfl) (lsOk_at (L := [cmp_Or_int_l0_s N]) ⟨cmp_Or_int_l0_ok N, trivial⟩) (by kernel_rfl) (by kernel_rfl) (by kernel_rfl) (by kernel_rfl) (by kernel_rfl)

/-! ### impl_comparePairs -/
abbrev impl_comparePairs_ps : List (PV.Mode × Ty) := [(.ro, QII), (.ro, QII)]
abbrev impl_comparePairs_rs : List (Bool × Ty) := [(true, I)]
noncomputable def impl_comparePairs_G (N : Nat) : GTab := gOf [(138, cmp_Compare_int_S N), (137, cmp_Or_int_S N)]
theorem impl_comparePairs_gok (N : Nat) : GOk Try.prog (impl_comparePairs_G N) := gOf_ok ⟨cmp_Compare_int_pc N, cmp_Or_int_pc N, trivial⟩
noncomputable def impl_comparePairs_code : Code := (Try.f116.body).getD .skip
noncomputable def impl_comparePairs (N : Nat) (a : (Int × Int)) (b : (Int × Int)) : Option ((Int × Unit) × (Unit)) :=
  ((cmp_Compare_int N a.1 b.1).bind fun r =>
    ((cmp_Compare_int N a.2 b.2).bind fun r1 =>
      ((cmp_Or_int N [r.1.1, r1.1.1]).bind fun r2 =>
        some ((r2.1.1, ()), ()))))
noncomputable def impl_comparePairs_S (N : Nat) : FSum := ⟨impl_comparePairs_ps, impl_comparePairs_rs, fun x => impl_comparePairs N x.1 x.2.1⟩
theorem impl_comparePairs_run (N : Nat) (x : argsT impl_comparePairs_ps) : impl_comparePairs N x.1 x.2.1 = funF (impl_comparePairs_G N) tab [] Try.f116 impl_comparePairs_ps impl_comparePairs_rs x := by kernel_rfl
theorem impl_comparePairs_pc (N : Nat) : PC Try.prog 116 (impl_comparePairs_S N) := by
  have e : impl_comparePairs_S N = ⟨impl_comparePairs_ps, impl_comparePairs_rs, funF (impl_comparePairs_G N) tab [] Try.f116 impl_comparePairs_ps impl_comparePairs_rs⟩ := congrArg (FSum.mk impl_comparePairs_ps impl_comparePairs_rs) (funext (impl_comparePairs_run N))
  rw [e]
  exact fun_ok (c := impl_comparePairs_code) progOk (impl_comparePairs_gok N) (draw_ok progOk (impl_comparePairs_gok N)) Try.call116 Try.func116 (by kernel_rfl) (lsOk_at (L := []) trivial) (by kernel_rfl) (by kernel_rfl) (by kernel_rfl) (by kernel_rfl) (by kernel_rfl)

/-! ### impl_isPairs -/
abbrev impl_isPairs_ps : List (PV.Mode × Ty) := [(.ro, LQII), (.ro, I)]
abbrev impl_isPairs_rs : List (Bool × Ty) := [(true, .bool)]
noncomputable def impl_isPairs_G (N : Nat) : GTab := gOf [(116, impl_comparePairs_S N)]
theorem impl_isPairs_gok (N : Nat) : GOk Try.prog (impl_isPairs_G N) := gOf_ok ⟨impl_comparePairs_pc N, trivial⟩
noncomputable def impl_isPairs_code : Code := (Try.f80.body).getD .skip
noncomputable def impl_isPairs_l0_sh : Sh := ⟨[(0, .one (.ro LQII)), (1, .one (.ro I)), (7, .one (.ro LQII)), (8, .one (.ro I)), (9, .one (.ro I))], []⟩
noncomputable def impl_isPairs_l0_ex : List (Ex × Sh) := [(.ret, ⟨[(4, .one (.ro .bool))], []⟩), (.exit 0, ⟨[], []⟩)]
noncomputable def impl_isPairs_l0 {R : Type} (N : Nat) (k0 : Bool → Option R) (k1 : Unit → Option R) : Nat → (List (Int × Int)) → Int → (List (Int × Int)) → Int → Int → Option R
  | 0, _, _, _, _, _ => none
  | K + 1, list1, below1, x, x1, x2 =>
    (br (ilt x2 x1)
      ((chk (inb x x2)
        (br (ilt ((rdP x x2).1) 0)
        (k0 false)
        ((br (ile ((rdP x x2).2) ((rdP x x2).1))
          (k0 false)
          ((br (ile below1 ((rdP x x2).2))
            (k0 false)
            ((br (ilt 0 x2)
              ((chk (inb list1 (IntKind.i64.wrap (x2 - 1)))
                ((impl_comparePairs N (rdP list1 (IntKind.i64.wrap (x2 - 1))) ((rdP x x2).1, (rdP x x2).2)).bind fun r =>
                (br (ile 0 r.1.1)
                  (k0 false)
                  (impl_isPairs_l0 N k0 k1 K list1 below1 x x1 (IntKind.i64.wrap (x2 + 1)))))))
              (impl_isPairs_l0 N k0 k1 K list1 below1 x x1 (IntKind.i64.wrap (x2 + 1))))))))))))
      (k1 ()))
noncomputable def impl_isPairs_l0_again {R : Type} (N : Nat) (ks : (j : Nat) → ((impl_isPairs_l0_ex.getD j (.ret, Sh.none)).2).T → Option R) (k : Nat) (x : impl_isPairs_l0_sh.T) : Option R :=
  impl_isPairs_l0 N (fun y0 => ks 0 ((y0, ()), ())) (fun (_ : Unit) => ks 1 ((), ())) k x.1.1 x.1.2.1 x.1.2.2.1 x.1.2.2.2.1 x.1.2.2.2.2.1
noncomputable def impl_isPairs_l0_s (N : Nat) : LSum := ⟨impl_isPairs_l0_sh, impl_isPairs_l0_ex, fun x ks => impl_isPairs_l0_again N ks N x⟩
theorem impl_isPairs_l0_step (N : Nat) (R : Type) (k : Nat) (x : impl_isPairs_l0_sh.T) (ks : (j : Nat) → ((impl_isPairs_l0_ex.getD j (.ret, Sh.none)).2).T → Option R) : impl_isPairs_l0_again N ks (k + 1) x = roundF (impl_isPairs_G N) tab [] (loopAt impl_isPairs_code 0) impl_isPairs_l0_sh impl_isPairs_l0_ex (fun y => impl_isPairs_l0_again N ks k y) ks x := by kernel_rfl
theorem impl_isPairs_l0_ok (N : Nat) : LoopOk Try.prog Try.f80.ntmps (impl_isPairs_l0_s N) (loopAt impl_isPairs_code 0) :=
  loop_ok (l := impl_isPairs_l0_s N) progOk (impl_isPairs_gok N) (draw_ok progOk (impl_isPairs_gok N)) (fun R k x ks => impl_isPairs_l0_again N ks k x) (fun _ _ _ => rfl) (fun R k x ks => impl_isPairs_l0_step N R k x ks) (fun R x ks r h => ⟨N, h⟩) (lsOk_at (L := []) trivial) (by kernel_rfl) (by kernel_rfl)
noncomputable def impl_isPairs (N : Nat) (list : (List (Int × Int))) (below : Int) : Option ((Bool × Unit) × (Unit)) :=
  impl_isPairs_l0 N (fun x => some ((x, ()), ())) (fun (_ : Unit) => some ((true, ()), ())) N list below list (tLen list) 0
noncomputable def impl_isPairs_S (N : Nat) : FSum := ⟨impl_isPairs_ps, impl_isPairs_rs, fun x => impl_isPairs N x.1 x.2.1⟩
theorem impl_isPairs_run (N : Nat) (x : argsT impl_isPairs_ps) : impl_isPairs N x.1 x.2.1 = funF (impl_isPairs_G N) tab [impl_isPairs_l0_s N] Try.f80 impl_isPairs_ps impl_isPairs_rs x := by kernel_rfl
theorem impl_isPairs_pc (N : Nat) : PC Try.prog 80 (impl_isPairs_S N) := by
  have e : impl_isPairs_S N = ⟨impl_isPairs_ps, impl_isPairs_rs, funF (impl_isPairs_G N) tab [impl_isPairs_l0_s N] Try.f80 impl_isPairs_ps impl_isPairs_rs⟩ := congrArg (FSum.mk impl_isPairs_ps impl_isPairs_rs) (funext (impl_isPairs_run N))
  rw [e]
  exact fun_ok (c := impl_isPairs_code) progOk (impl_isPairs_gok N) (draw_ok progOk (impl_isPairs_gok N)) Try.call80 Try.func80 (by kernel_rfl) (lsOk_at (L := [impl_isPairs_l0_s N]) ⟨impl_isPairs_l0_ok N, trivial⟩) (by kernel_rfl) (by kernel_rfl) (by kernel_rfl) (by kernel_rfl) (by kernel_rfl)

/-! ### impl_IsGraph -/
abbrev impl_IsGraph_ps : List (PV.Mode × Ty) := [(.ro, QILQII)]
abbrev impl_IsGraph_rs : List (Bool × Ty) := [(true, .bool)]
noncomputable def impl_IsGraph_G (N : Nat) : GTab := gOf [(79, impl_between_S N), (80, impl_isPairs_S N)]
theorem impl_IsGraph_gok (N : Nat) : GOk Try.prog (impl_IsGraph_G N) := gOf_ok ⟨impl_between_pc N, impl_isPairs_pc N, trivial⟩
noncomputable def impl_IsGraph_code : Code := (Try.f41.body).getD .skip
noncomputable def impl_IsGraph (N : Nat) (g : (Int × (List (Int × Int)))) : Option ((Bool × Unit) × (Unit)) :=
  ((impl_between N g.1 0 8).bind fun r =>
    (br r.1.1
      (((impl_isPairs N g.2 g.1).bind fun r1 =>
        some ((r1.1.1, ()), ())))
      (some ((false, ()), ()))))
noncomputable def impl_IsGraph_S (N : Nat) : FSum := ⟨impl_IsGraph_ps, impl_IsGraph_rs, fun x => impl_IsGraph N x.1⟩
theorem impl_IsGraph_run (N : Nat) (x : argsT impl_IsGraph_ps) : impl_IsGraph N x.1 = funF (impl_IsGraph_G N) tab [] Try.f41 impl_IsGraph_ps impl_IsGraph_rs x := by kernel_rfl
theorem impl_IsGraph_pc (N : Nat) : PC Try.prog 41 (impl_IsGraph_S N) := by
  have e : impl_IsGraph_S N = ⟨impl_IsGraph_ps, impl_IsGraph_rs, funF (impl_IsGraph_G N) tab [] Try.f41 impl_IsGraph_ps impl_IsGraph_rs⟩ := congrArg (FSum.mk impl_IsGraph_ps impl_IsGraph_rs) (funext (impl_IsGraph_run N))
  rw [e]
  exact fun_ok (c := impl_IsGraph_code) progOk (impl_IsGraph_gok N) (draw_ok progOk (impl_IsGraph_gok N)) Try.call41 Try.func41 (by kernel_rfl) (lsOk_at (L := []) trivial) (by kernel_rfl) (by kernel_rfl) (by kernel_rfl) (by kernel_rfl) (by kernel_rfl)

/-! ### impl_isColourCase -/
abbrev impl_isColourCase_ps : List (PV.Mode × Ty) := [(.ro, QILQII), (.ro, I)]
abbrev impl_isColourCase_rs : List (Bool × Ty) := [(true, .bool)]
noncomputable def impl_isColourCase_G (N : Nat) : GTab := gOf [(41, impl_IsGraph_S N), (79, impl_between_S N)]
theorem impl_isColourCase_gok (N : Nat) : GOk Try.prog (impl_isColourCase_G N) := gOf_ok ⟨impl_IsGraph_pc N, impl_between_pc N, trivial⟩
noncomputable def impl_isColourCase_code : Code := (Try.f69.body).getD .skip
noncomputable def impl_isColourCase (N : Nat) (g : (Int × (List (Int × Int)))) (kv : Int) : Option ((Bool × Unit) × (Unit)) :=
  ((impl_IsGraph N (g.1, g.2)).bind fun r =>
    (br r.1.1
      (((impl_between N kv 1 5).bind fun r1 =>
        some ((r1.1.1, ()), ())))
      (some ((false, ()), ()))))
noncomputable def impl_isColourCase_S (N : Nat) : FSum := ⟨impl_isColourCase_ps, impl_isColourCase_rs, fun x => impl_isColourCase N x.1 x.2.1⟩
theorem impl_isColourCase_run (N : Nat) (x : argsT impl_isColourCase_ps) : impl_isColourCase N x.1 x.2.1 = funF (impl_isColourCase_G N) tab [] Try.f69 impl_isColourCase_ps impl_isColourCase_rs x := by kernel_rfl
theorem impl_isColourCase_pc (N : Nat) : PC Try.prog 69 (impl_isColourCase_S N) := by
  have e : impl_isColourCase_S N = ⟨impl_isColourCase_ps, impl_isColourCase_rs, funF (impl_isColourCase_G N) tab [] Try.f69 impl_isColourCase_ps impl_isColourCase_rs⟩ := congrArg (FSum.mk impl_isColourCase_ps impl_isColourCase_rs) (funext (impl_isColourCase_run N))
  rw [e]
  exact fun_ok (c := impl_isColourCase_code) progOk (impl_isColourCase_gok N) (draw_ok progOk (impl_isColourCase_gok N)) Try.call69 Try.func69 (by kernel_rfl) (lsOk_at (L := []) trivial) (by kernel_rfl) (by kernel_rfl) (by kernel_rfl) (by kernel_rfl) (by kernel_rfl)

/-! ### slices_IndexFunc_LLI_LI -/
abbrev slices_IndexFunc_LLI_LI_ps : List (PV.Mode × Ty) := [(.ro, LLI), (.ro, FLIBo)]
abbrev slices_IndexFunc_LLI_LI_rs : List (Bool × Ty) := [(true, I)]
noncomputable def slices_IndexFunc_LLI_LI_G (N : Nat) : GTab := gOf []
theorem slices_IndexFunc_LLI_LI_gok (N : Nat) : GOk Try.prog (slices_IndexFunc_LLI_LI_G N) := gOf_ok trivial
noncomputable def slices_IndexFunc_LLI_LI_code : Code := (Try.f117.body).getD .skip
noncomputable def slices_IndexFunc_LLI_LI_l0_sh : Sh := ⟨[(0, .one (.ro LLI)), (1, .one (.ro FLIBo)), (7, .one (.ro I)), (8, .one (.ro I))], []⟩
noncomputable def slices_IndexFunc_LLI_LI_l0_ex : List (Ex × Sh) := [(.ret, ⟨[(4, .one (.ro I))], []⟩), (.exit 0, ⟨[], []⟩)]
noncomputable def slices_IndexFunc_LLI_LI_l0 {R : Type} (N : Nat) (k0 : Int → Option R) (k1 : Unit → Option R) : Nat → (List (List Int)) → ((List Int) → Option Bool) → Int → Int → Option R
  | 0, _, _, _, _ => none
  | K + 1, s1, f1, x, x1 =>
    (br (ilt x1 x)
      ((chk (inb s1 x1)
        ((f1 (rdL s1 x1)).bind fun v =>
        (br v
        (k0 x1)
        (slices_IndexFunc_LLI_LI_l0 N k0 k1 K s1 f1 x (IntKind.i64.wrap (x1 + 1)))))))
      (k1 ()))
noncomputable def slices_IndexFunc_LLI_LI_l0_again {R : Type} (N : Nat) (ks : (j : Nat) → ((slices_IndexFunc_LLI_LI_l0_ex.getD j (.ret, Sh.none)).2).T → Option R) (k : Nat) (x : slices_IndexFunc_LLI_LI_l0_sh.T) : Option R :=
  slices_IndexFunc_LLI_LI_l0 N (fun y0 => ks 0 ((y0, ()), ())) (fun (_ : Unit) => ks 1 ((), ())) k x.1.1 x.1.2.1 x.1.2.2.1 x.1.2.2.2.1
noncomputable def slices_IndexFunc_LLI_LI_l0_s (N : Nat) : LSum := ⟨slices_IndexFunc_LLI_LI_l0_sh, slices_IndexFunc_LLI_LI_l0_ex, fun x ks => slices_IndexFunc_LLI_LI_l0_again N ks N x⟩
theorem slices_IndexFunc_LLI_LI_l0_step (N : Nat) (R : Type) (k : Nat) (x : slices_IndexFunc_LLI_LI_l0_sh.T) (ks : (j : Nat) → ((slices_IndexFunc_LLI_LI_l0_ex.getD j (.ret, Sh.none)).2).T → Option R) : slices_IndexFunc_LLI_LI_l0_again N ks (k + 1) x = roundF (slices_IndexFunc_LLI_LI_G N) tab [] (loopAt slices_IndexFunc_LLI_LI_code 0) slices_IndexFunc_LLI_LI_l0_sh slices_IndexFunc_LLI_LI_l0_ex (fun y => slices_IndexFunc_LLI_LI_l0_again N ks k y) ks x := by kernel_rfl
theorem slices_IndexFunc_LLI_LI_l0_ok (N : Nat) : LoopOk Try.prog Try.f117.ntmps (slices_IndexFunc_LLI_LI_l0_s N) (loopAt slices_IndexFunc_LLI_LI_code 0) :=
  loop_ok (l := slices_IndexFunc_LLI_LI_l0_s N) progOk (slices_IndexFunc_LLI_LI_gok N) (draw_ok progOk (slices_IndexFunc_LLI_LI_gok N)) (fun R k x ks => slices_IndexFunc_LLI_LI_l0_again N ks k x) (fun _ _ _ => rfl) (fun R k x ks => slices_IndexFunc_LLI_LI_l0_step N R k x ks) (fun R x ks r h => ⟨N, h⟩) (lsOk_at (L := []) trivial) (by kernel_rfl) (by kernel_rfl)
noncomputable def slices_IndexFunc_LLI_LI (N : Nat) (s : (List (List Int))) (f : ((List Int) → Option Bool)) : Option ((Int × Unit) × (Unit)) :=
  slices_IndexFunc_LLI_LI_l0 N (fun x => some ((x, ()), ())) (fun (_ : Unit) => some (((-1), ()), ())) N s f (tLen s) 0
noncomputable def slices_IndexFunc_LLI_LI_S (N : Nat) : FSum := ⟨slices_IndexFunc_LLI_LI_ps, slices_IndexFunc_LLI_LI_rs, fun x => slices_IndexFunc_LLI_LI N x.1 x.2.1⟩
theorem slices_IndexFunc_LLI_LI_run (N : Nat) (x : argsT slices_IndexFunc_LLI_LI_ps) : slices_IndexFunc_LLI_LI N x.1 x.2.1 = funF (slices_IndexFunc_LLI_LI_G N) tab [slices_IndexFunc_LLI_LI_l0_s N] Try.f117 slices_IndexFunc_LLI_LI_ps slices_IndexFunc_LLI_LI_rs x := by kernel_rfl
theorem slices_IndexFunc_LLI_LI_pc (N : Nat) : PC Try.prog 117 (slices_IndexFunc_LLI_LI_S N) := by
  have e : slices_IndexFunc_LLI_LI_S N = ⟨slices_IndexFunc_LLI_LI_ps, slices_IndexFunc_LLI_LI_rs, funF (slices_IndexFunc_LLI_LI_G N) tab [slices_IndexFunc_LLI_LI_l0_s N] Try.f117 slices_IndexFunc_LLI_LI_ps slices_IndexFunc_LLI_LI_rs⟩ := congrArg (FSum.mk slices_IndexFunc_LLI_LI_ps slices_IndexFunc_LLI_LI_rs) (funext (slices_IndexFunc_LLI_LI_run N))
  rw [e]
  exact fun_ok (c := slices_IndexFunc_LLI_LI_code) progOk (slices_IndexFunc_LLI_LI_gok N) (draw_ok progOk (slices_IndexFunc_LLI_LI_gok N)) Try.call117 Try.func117 (by kernel_rfl) (lsOk_at (L := [slices_IndexFunc_LLI_LI_l0_s N]) ⟨slices_IndexFunc_LLI_LI_l0_ok N, trivial⟩) (by kernel_rfl) (by kernel_rfl) (by kernel_rfl) (by kernel_rfl) (by kernel_rfl)

/-! ### slices_ContainsFunc_LLI_LI -/
abbrev slices_ContainsFunc_LLI_LI_ps : List (PV.Mode × Ty) := [(.ro, LLI), (.ro, FLIBo)]
abbrev slices_ContainsFunc_LLI_LI_rs : List (Bool × Ty) := [(true, .bool)]
noncomputable def slices_ContainsFunc_LLI_LI_G (N : Nat) : GTab := gOf [(117, slices_IndexFunc_LLI_LI_S N)]
theorem slices_ContainsFunc_LLI_LI_gok (N : Nat) : GOk Try.prog (slices_ContainsFunc_LLI_LI_G N) := gOf_ok ⟨slices_IndexFunc_LLI_LI_pc N, trivial⟩
noncomputable def slices_ContainsFunc_LLI_LI_code : Code := (Try.f87.body).getD .skip
noncomputable def slices_ContainsFunc_LLI_LI (N : Nat) (s : (List (List Int))) (f : ((List Int) → Option Bool)) : Option ((Bool × Unit) × (Unit)) :=
  ((slices_IndexFunc_LLI_LI N s f).bind fun r =>
    some (((ile 0 r.1.1), ()), ()))
noncomputable def slices_ContainsFunc_LLI_LI_S (N : Nat) : FSum := ⟨slices_ContainsFunc_LLI_LI_ps, slices_ContainsFunc_LLI_LI_rs, fun x => slices_ContainsFunc_LLI_LI N x.1 x.2.1⟩
theorem slices_ContainsFunc_LLI_LI_run (N : Nat) (x : argsT slices_ContainsFunc_LLI_LI_ps) : slices_ContainsFunc_LLI_LI N x.1 x.2.1 = funF (slices_ContainsFunc_LLI_LI_G N) tab [] Try.f87 slices_ContainsFunc_LLI_LI_ps slices_ContainsFunc_LLI_LI_rs x := by kernel_rfl
theorem slices_ContainsFunc_LLI_LI_pc (N : Nat) : PC Try.prog 87 (slices_ContainsFunc_LLI_LI_S N) := by
  have e : slices_ContainsFunc_LLI_LI_S N = ⟨slices_ContainsFunc_LLI_LI_ps, slices_ContainsFunc_LLI_LI_rs, funF (slices_ContainsFunc_LLI_LI_G N) tab [] Try.f87 slices_ContainsFunc_LLI_LI_ps slices_ContainsFunc_LLI_LI_rs⟩ := congrArg (FSum.mk slices_ContainsFunc_LLI_LI_ps slices_ContainsFunc_LLI_LI_rs) (funext (slices_ContainsFunc_LLI_LI_run N))
  rw [e]
  exact fun_ok (c := slices_ContainsFunc_LLI_LI_code) progOk (slices_ContainsFunc_LLI_LI_gok N) (draw_ok progOk (slices_ContainsFunc_LLI_LI_gok N)) Try.call87 Try.func87 (by kernel_rfl) (lsOk_at (L := []) trivial) (by kernel_rfl) (by kernel_rfl) (by kernel_rfl) (by kernel_rfl) (by kernel_rfl)

/-! ### slices_IndexFunc_LI_int -/
abbrev slices_IndexFunc_LI_int_ps : List (PV.Mode × Ty) := [(.ro, LI), (.ro, FIBo)]
abbrev slices_IndexFunc_LI_int_rs : List (Bool × Ty) := [(true, I)]
noncomputable def slices_IndexFunc_LI_int_G (N : Nat) : GTab := gOf []
theorem slices_IndexFunc_LI_int_gok (N : Nat) : GOk Try.prog (slices_IndexFunc_LI_int_G N) := gOf_ok trivial
noncomputable def slices_IndexFunc_LI_int_code : Code := (Try.f95.body).getD .skip
noncomputable def slices_IndexFunc_LI_int_l0_sh : Sh := ⟨[(0, .one (.ro LI)), (1, .one (.ro FIBo)), (7, .one (.ro I)), (8, .one (.ro I))], []⟩
noncomputable def slices_IndexFunc_LI_int_l0_ex : List (Ex × Sh) := [(.ret, ⟨[(4, .one (.ro I))], []⟩), (.exit 0, ⟨[], []⟩)]
noncomputable def slices_IndexFunc_LI_int_l0 {R : Type} (N : Nat) (k0 : Int → Option R) (k1 : Unit → Option R) : Nat → (List Int) → (Int → Option Bool) → Int → Int → Option R
  | 0, _, _, _, _ => none
  | K + 1, s1, f1, x, x1 =>
    (br (ilt x1 x)
      ((chk (inb s1 x1)
        ((f1 (rdI s1 x1)).bind fun v =>
        (br v
        (k0 x1)
        (slices_IndexFunc_LI_int_l0 N k0 k1 K s1 f1 x (IntKind.i64.wrap (x1 + 1)))))))
      (k1 ()))
noncomputable def slices_IndexFunc_LI_int_l0_again {R : Type} (N : Nat) (ks : (j : Nat) → ((slices_IndexFunc_LI_int_l0_ex.getD j (.ret, Sh.none)).2).T → Option R) (k : Nat) (x : slices_IndexFunc_LI_int_l0_sh.T) : Option R :=
  slices_IndexFunc_LI_int_l0 N (fun y0 => ks 0 ((y0, ()), ())) (fun (_ : Unit) => ks 1 ((), ())) k x.1.1 x.1.2.1 x.1.2.2.1 x.1.2.2.2.1
noncomputable def slices_IndexFunc_LI_int_l0_s (N : Nat) : LSum := ⟨slices_IndexFunc_LI_int_l0_sh, slices_IndexFunc_LI_int_l0_ex, fun x ks => slices_IndexFunc_LI_int_l0_again N ks N x⟩
theorem slices_IndexFunc_LI_int_l0_step (N : Nat) (R : Type) (k : Nat) (x : slices_IndexFunc_LI_int_l0_sh.T) (ks : (j : Nat) → ((slices_IndexFunc_LI_int_l0_ex.getD j (.ret, Sh.none)).2).T → Option R) : slices_IndexFunc_LI_int_l0_again N ks (k + 1) x = roundF (slices_IndexFunc_LI_int_G N) tab [] (loopAt slices_IndexFunc_LI_int_code 0) slices_IndexFunc_LI_int_l0_sh slices_IndexFunc_LI_int_l0_ex (fun y => slices_IndexFunc_LI_int_l0_again N ks k y) ks x := by kernel_rfl
theorem slices_IndexFunc_LI_int_l0_ok (N : Nat) : LoopOk Try.prog Try.f95.ntmps (slices_IndexFunc_LI_int_l0_s N) (loopAt slices_IndexFunc_LI_int_code 0) :=
  loop_ok (l := slices_IndexFunc_LI_int_l0_s N) progOk (slices_IndexFunc_LI_int_gok N) (draw_ok progOk (slices_IndexFunc_LI_int_gok N)) (fun R k x ks => slices_IndexFunc_LI_int_l0_again N ks k x) (fun _ _ _ => rfl) (fun R k x ks => slices_IndexFunc_LI_int_l0_step N R k x ks) (fun R x ks r h => ⟨N, h⟩) (lsOk_at (L := []) trivial) (by kernel_rfl) (by kernel_rfl)
noncomputable def slices_IndexFunc_LI_int (N : Nat) (s : (List Int)) (f : (Int → Option Bool)) : Option ((Int × Unit) × (Unit)) :=
  slices_IndexFunc_LI_int_l0 N (fun x => some ((x, ()), ())) (fun (_ : Unit) => some (((-1), ()), ())) N s f (tLen s) 0
noncomputable def slices_IndexFunc_LI_int_S (N : Nat) : FSum := ⟨slices_IndexFunc_LI_int_ps, slices_IndexFunc_LI_int_rs, fun x => slices_IndexFunc_LI_int N x.1 x.2.1⟩
theorem slices_IndexFunc_LI_int_run (N : Nat) (x : argsT slices_IndexFunc_LI_int_ps) : slices_IndexFunc_LI_int N x.1 x.2.1 = funF (slices_IndexFunc_LI_int_G N) tab [slices_IndexFunc_LI_int_l0_s N] Try.f95 slices_IndexFunc_LI_int_ps slices_IndexFunc_LI_int_rs x := by kernel_rfl
theorem slices_IndexFunc_LI_int_pc (N : Nat) : PC Try.prog 95 (slices_IndexFunc_LI_int_S N) := by
  have e : slices_IndexFunc_LI_int_S N = ⟨slices_IndexFunc_LI_int_ps, slices_IndexFunc_LI_int_rs, funF (slices_IndexFunc_LI_int_G N) tab [slices_IndexFunc_LI_int_l0_s N] Try.f95 slices_IndexFunc_LI_int_ps slices_IndexFunc_LI_int_rs⟩ := congrArg (FSum.mk slices_IndexFunc_LI_int_ps slices_IndexFunc_LI_int_rs) (funext (slices_IndexFunc_LI_int_run N))
  rw [e]
  exact fun_ok (c := slices_IndexFunc_LI_int_code) progOk (slices_IndexFunc_LI_int_gok N) (draw_ok progOk (slices_IndexFunc_LI_int_gok N)) Try.call95 Try.func95 (by kernel_rfl) (lsOk_at (L := [slices_IndexFunc_LI_int_l0_s N]) ⟨slices_IndexFunc_LI_int_l0_ok N, trivial⟩) (by kernel_rfl) (by kernel_rfl) (by kernel_rfl) (by kernel_rfl) (by kernel_rfl)

/-! ### slices_ContainsFunc_LI_int -/
abbrev slices_ContainsFunc_LI_int_ps : List (PV.Mode × Ty) := [(.ro, LI), (.ro, FIBo)]
abbrev slices_ContainsFunc_LI_int_rs : List (Bool × Ty) := [(true, .bool)]
noncomputable def slices_ContainsFunc_LI_int_G (N : Nat) : GTab := gOf [(95, slices_IndexFunc_LI_int_S N)]
theorem slices_ContainsFunc_LI_int_gok (N : Nat) : GOk Try.prog (slices_ContainsFunc_LI_int_G N) := gOf_ok ⟨slices_IndexFunc_LI_int_pc N, trivial⟩
noncomputable def slices_ContainsFunc_LI_int_code : Code := (Try.f54.body).getD .skip
noncomputable def slices_ContainsFunc_LI_int (N : Nat) (s : (List Int)) (f : (Int → Option Bool)) : Option ((Bool × Unit) × (Unit)) :=
  ((slices_IndexFunc_LI_int N s f).bind fun r =>
    some (((ile 0 r.1.1), ()), ()))
noncomputable def slices_ContainsFunc_LI_int_S (N : Nat) : FSum := ⟨slices_ContainsFunc_LI_int_ps, slices_ContainsFunc_LI_int_rs, fun x => slices_ContainsFunc_LI_int N x.1 x.2.1⟩
theorem slices_ContainsFunc_LI_int_run (N : Nat) (x : argsT slices_ContainsFunc_LI_int_ps) : slices_ContainsFunc_LI_int N x.1 x.2.1 = funF (slices_ContainsFunc_LI_int_G N) tab [] Try.f54 slices_ContainsFunc_LI_int_ps slices_ContainsFunc_LI_int_rs x := by kernel_rfl
theorem slices_ContainsFunc_LI_int_pc (N : Nat) : PC Try.prog 54 (slices_ContainsFunc_LI_int_S N) := by
  have e : slices_ContainsFunc_LI_int_S N = ⟨slices_ContainsFunc_LI_int_ps, slices_ContainsFunc_LI_int_rs, funF (slices_ContainsFunc_LI_int_G N) tab [] Try.f54 slices_ContainsFunc_LI_int_ps slices_ContainsFunc_LI_int_rs⟩ := congrArg (FSum.mk slices_ContainsFunc_LI_int_ps slices_ContainsFunc_LI_int_rs) (funext (slices_ContainsFunc_LI_int_run N))
  rw [e]
  exact fun_ok (c := slices_ContainsFunc_LI_int_code) progOk (slices_ContainsFunc_LI_int_gok N) (draw_ok progOk (slices_ContainsFunc_LI_int_gok N)) Try.call54 Try.func54 (by kernel_rfl) (lsOk_at (L := []) trivial) (by kernel_rfl) (by kernel_rfl) (by kernel_rfl) (by kernel_rfl) (by kernel_rfl)

/-! ### impl_Graph_isColouring_c1 -/
abbrev impl_Graph_isColouring_c1_ps : List (PV.Mode × Ty) := [(.ro, I), (.ro, AI)]
abbrev impl_Graph_isColouring_c1_rs : List (Bool × Ty) := [(true, .bool)]
noncomputable def impl_Graph_isColouring_c1_G (N : Nat) : GTab := gOf [(79, impl_between_S N)]
theorem impl_Graph_isColouring_c1_gok (N : Nat) : GOk Try.prog (impl_Graph_isColouring_c1_G N) := gOf_ok ⟨impl_between_pc N, trivial⟩
noncomputable def impl_Graph_isColouring_c1_code : Code := (Try.f109.body).getD .skip
noncomputable def impl_Graph_isColouring_c1 (N : Nat) (c : Int) (c1 : Int) : Option ((Bool × Unit) × (Unit)) :=
  ((impl_between N c 0 (IntKind.i64.wrap (c1 - 1))).bind fun r =>
    some (((!r.1.1), ()), ()))
noncomputable def impl_Graph_isColouring_c1_S (N : Nat) : FSum := ⟨impl_Graph_isColouring_c1_ps, impl_Graph_isColouring_c1_rs, fun x => impl_Graph_isColouring_c1 N x.1 x.2.1⟩
theorem impl_Graph_isColouring_c1_run (N : Nat) (x : argsT impl_Graph_isColouring_c1_ps) : impl_Graph_isColouring_c1 N x.1 x.2.1 = funF (impl_Graph_isColouring_c1_G N) tab [] Try.f109 impl_Graph_isColouring_c1_ps impl_Graph_isColouring_c1_rs x := by kernel_rfl
theorem impl_Graph_isColouring_c1_pc (N : Nat) : PC Try.prog 109 (impl_Graph_isColouring_c1_S N) := by
  have e : impl_Graph_isColouring_c1_S N = ⟨impl_Graph_isColouring_c1_ps, impl_Graph_isColouring_c1_rs, funF (impl_Graph_isColouring_c1_G N) tab [] Try.f109 impl_Graph_isColouring_c1_ps impl_Graph_isColouring_c1_rs⟩ := congrArg (FSum.mk impl_Graph_isColouring_c1_ps impl_Graph_isColouring_c1_rs) (funext (impl_Graph_isColouring_c1_run N))
  rw [e]
  exact fun_ok (c := impl_Graph_isColouring_c1_code) progOk (impl_Graph_isColouring_c1_gok N) (draw_ok progOk (impl_Graph_isColouring_c1_gok N)) Try.call109 Try.func109 (by kernel_rfl) (lsOk_at (L := []) trivial) (by kernel_rfl) (by kernel_rfl) (by kernel_rfl) (by kernel_rfl) (by kernel_rfl)

/-! ### slices_IndexFunc_LP_P2 -/
abbrev slices_IndexFunc_LP_P2_ps : List (PV.Mode × Ty) := [(.ro, LQII), (.ro, FQIIBo)]
abbrev slices_IndexFunc_LP_P2_rs : List (Bool × Ty) := [(true, I)]
noncomputable def slices_IndexFunc_LP_P2_G (N : Nat) : GTab := gOf []
theorem slices_IndexFunc_LP_P2_gok (N : Nat) : GOk Try.prog (slices_IndexFunc_LP_P2_G N) := gOf_ok trivial
noncomputable def slices_IndexFunc_LP_P2_code : Code := (Try.f136.body).getD .skip
noncomputable def slices_IndexFunc_LP_P2_l0_sh : Sh := ⟨[(0, .one (.ro LQII)), (1, .one (.ro FQIIBo)), (7, .one (.ro I)), (8, .one (.ro I))], []⟩
noncomputable def slices_IndexFunc_LP_P2_l0_ex : List (Ex × Sh) := [(.ret, ⟨[(4, .one (.ro I))], []⟩), (.exit 0, ⟨[], []⟩)]
noncomputable def slices_IndexFunc_LP_P2_l0 {R : Type} (N : Nat) (k0 : Int → Option R) (k1 : Unit → Option R) : Nat → (List (Int × Int)) → ((Int × Int) → Option Bool) → Int → Int → Option R
  | 0, _, _, _, _ => none
  | K + 1, s1, f1, x, x1 =>
    (br (ilt x1 x)
      ((chk (inb s1 x1)
        ((f1 (rdP s1 x1)).bind fun v =>
        (br v
        (k0 x1)
        (slices_IndexFunc_LP_P2_l0 N k0 k1 K s1 f1 x (IntKind.i64.wrap (x1 + 1)))))))
      (k1 ()))
noncomputable def slices_IndexFunc_LP_P2_l0_again {R : Type} (N : Nat) (ks : (j : Nat) → ((slices_IndexFunc_LP_P2_l0_ex.getD j (.ret, Sh.none)).2).T → Option R) (k : Nat) (x : slices_IndexFunc_LP_P2_l0_sh.T) : Option R :=
  slices_IndexFunc_LP_P2_l0 N (fun y0 => ks 0 ((y0, ()), ())) (fun (_ : Unit) => ks 1 ((), ())) k x.1.1 x.1.2.1 x.1.2.2.1 x.1.2.2.2.1
noncomputable def slices_IndexFunc_LP_P2_l0_s (N : Nat) : LSum := ⟨slices_IndexFunc_LP_P2_l0_sh, slices_IndexFunc_LP_P2_l0_ex, fun x ks => slices_IndexFunc_LP_P2_l0_again N ks N x⟩
theorem slices_IndexFunc_LP_P2_l0_step (N : Nat) (R : Type) (k : Nat) (x : slices_IndexFunc_LP_P2_l0_sh.T) (ks : (j : Nat) → ((slices_IndexFunc_LP_P2_l0_ex.getD j (.ret, Sh.none)).2).T → Option R) : slices_IndexFunc_LP_P2_l0_again N ks (k + 1) x = roundF (slices_IndexFunc_LP_P2_G N) tab [] (loopAt slices_IndexFunc_LP_P2_code 0) slices_IndexFunc_LP_P2_l0_sh slices_IndexFunc_LP_P2_l0_ex (fun y => slices_IndexFunc_LP_P2_l0_again N ks k y) ks x := by kernel_rfl
theorem slices_IndexFunc_LP_P2_l0_ok (N : Nat) : LoopOk Try.prog Try.f136.ntmps (slices_IndexFunc_LP_P2_l0_s N) (loopAt slices_IndexFunc_LP_P2_code 0) :=
  loop_ok (l := slices_IndexFunc_LP_P2_l0_s N) progOk (slices_IndexFunc_LP_P2_gok N) (draw_ok progOk (slices_IndexFunc_LP_P2_gok N)) (fun R k x ks => slices_IndexFunc_LP_P2_l0_again N ks k x) (fun _ _ _ => rfl) (fun R k x ks => slices_IndexFunc_LP_P2_l0_step N R k x ks) (fun R x ks r h => ⟨N, h⟩) (lsOk_at (L := []) trivial) (by kernel_rfl) (by kernel_rfl)
noncomputable def slices_IndexFunc_LP_P2 (N : Nat) (s : (List (Int × Int))) (f : ((Int × Int) → Option Bool)) : Option ((Int × Unit) × (Unit)) :=
  slices_IndexFunc_LP_P2_l0 N (fun x => some ((x, ()), ())) (fun (_ : Unit) => some (((-1), ()), ())) N s f (tLen s) 0
noncomputable def slices_IndexFunc_LP_P2_S (N : Nat) : FSum := ⟨slices_IndexFunc_LP_P2_ps, slices_IndexFunc_LP_P2_rs, fun x => slices_IndexFunc_LP_P2 N x.1 x.2.1⟩
theorem slices_IndexFunc_LP_P2_run (N : Nat) (x : argsT slices_IndexFunc_LP_P2_ps) : slices_IndexFunc_LP_P2 N x.1 x.2.1 = funF (slices_IndexFunc_LP_P2_G N) tab [slices_IndexFunc_LP_P2_l0_s N] Try.f136 slices_IndexFunc_LP_P2_ps slices_IndexFunc_LP_P2_rs x := by kernel_rfl
theorem slices_IndexFunc_LP_P2_pc (N : Nat) : PC Try.prog 136 (slices_IndexFunc_LP_P2_S N) := by
  have e : slices_IndexFunc_LP_P2_S N = ⟨slices_IndexFunc_LP_P2_ps, slices_IndexFunc_LP_P2_rs, funF (slices_IndexFunc_LP_P2_G N) tab [slices_IndexFunc_LP_P2_l0_s N] Try.f136 slices_IndexFunc_LP_P2_ps slices_IndexFunc_LP_P2_rs⟩ := congrArg (FSum.mk slices_IndexFunc_LP_P2_ps slices_IndexFunc_LP_P2_rs) (funext (slices_IndexFunc_LP_P2_run N))
  rw [e]
  exact fun_ok (c := slices_IndexFunc_LP_P2_code) progOk (slices_IndexFunc_LP_P2_gok N) (draw_ok progOk (slices_IndexFunc_LP_P2_gok N)) Try.call136 Try.func136 (by kernel_rfl) (lsOk_at (L := [slices_IndexFunc_LP_P2_l0_s N]) ⟨slices_IndexFunc_LP_P2_l0_ok N, trivial⟩) (by kernel_rfl) (by kernel_rfl) (by kernel_rfl) (by kernel_rfl) (by kernel_rfl)

/-! ### slices_ContainsFunc_LP_P2 -/
abbrev slices_ContainsFunc_LP_P2_ps : List (PV.Mode × Ty) := [(.ro, LQII), (.ro, FQIIBo)]
abbrev slices_ContainsFunc_LP_P2_rs : List (Bool × Ty) := [(true, .bool)]
noncomputable def slices_ContainsFunc_LP_P2_G (N : Nat) : GTab := gOf [(136, slices_IndexFunc_LP_P2_S N)]
theorem slices_ContainsFunc_LP_P2_gok (N : Nat) : GOk Try.prog (slices_ContainsFunc_LP_P2_G N) := gOf_ok ⟨slices_IndexFunc_LP_P2_pc N, trivial⟩
noncomputable def slices_ContainsFunc_LP_P2_code : Code := (Try.f110.body).getD .skip
noncomputable def slices_ContainsFunc_LP_P2 (N : Nat) (s : (List (Int × Int))) (f : ((Int × Int) → Option Bool)) : Option ((Bool × Unit) × (Unit)) :=
  ((slices_IndexFunc_LP_P2 N s f).bind fun r =>
    some (((ile 0 r.1.1), ()), ()))
noncomputable def slices_ContainsFunc_LP_P2_S (N : Nat) : FSum := ⟨slices_ContainsFunc_LP_P2_ps, slices_ContainsFunc_LP_P2_rs, fun x => slices_ContainsFunc_LP_P2 N x.1 x.2.1⟩
theorem slices_ContainsFunc_LP_P2_run (N : Nat) (x : argsT slices_ContainsFunc_LP_P2_ps) : slices_ContainsFunc_LP_P2 N x.1 x.2.1 = funF (slices_ContainsFunc_LP_P2_G N) tab [] Try.f110 slices_ContainsFunc_LP_P2_ps slices_ContainsFunc_LP_P2_rs x := by kernel_rfl
theorem slices_ContainsFunc_LP_P2_pc (N : Nat) : PC Try.prog 110 (slices_ContainsFunc_LP_P2_S N) := by
  have e : slices_ContainsFunc_LP_P2_S N = ⟨slices_ContainsFunc_LP_P2_ps, slices_ContainsFunc_LP_P2_rs, funF (slices_ContainsFunc_LP_P2_G N) tab [] Try.f110 slices_ContainsFunc_LP_P2_ps slices_ContainsFunc_LP_P2_rs⟩ := congrArg (FSum.mk slices_ContainsFunc_LP_P2_ps slices_ContainsFunc_LP_P2_rs) (funext (slices_ContainsFunc_LP_P2_run N))
  rw [e]
  exact fun_ok (c := slices_ContainsFunc_LP_P2_code) progOk (slices_ContainsFunc_LP_P2_gok N) (draw_ok progOk (slices_ContainsFunc_LP_P2_gok N)) Try.call110 Try.func110 (by kernel_rfl) (lsOk_at (L := []) trivial) (by kernel_rfl) (by kernel_rfl) (by kernel_rfl) (by kernel_rfl) (by kernel_rfl)

/-! ### impl_Graph_isColouring_c2 -/
abbrev impl_Graph_isColouring_c2_ps : List (PV.Mode × Ty) := [(.ro, QII), (.ro, ALI)]
abbrev impl_Graph_isColouring_c2_rs : List (Bool × Ty) := [(true, .bool)]
noncomputable def impl_Graph_isColouring_c2_G (N : Nat) : GTab := gOf []
theorem impl_Graph_isColouring_c2_gok (N : Nat) : GOk Try.prog (impl_Graph_isColouring_c2_G N) := gOf_ok trivial
noncomputable def impl_Graph_isColouring_c2_code : Code := (Try.f111.body).getD .skip
noncomputable def impl_Graph_isColouring_c2 (N : Nat) (e : (Int × Int)) (c : (List Int)) : Option ((Bool × Unit) × (Unit)) :=
  (chk (inb c e.1)
    (chk (inb c e.2)
    (some (((ieq (rdI c e.1) (rdI c e.2)), ()), ()))))
noncomputable def impl_Graph_isColouring_c2_S (N : Nat) : FSum := ⟨impl_Graph_isColouring_c2_ps, impl_Graph_isColouring_c2_rs, fun x => impl_Graph_isColouring_c2 N x.1 x.2.1⟩
theorem impl_Graph_isColouring_c2_run (N : Nat) (x : argsT impl_Graph_isColouring_c2_ps) : impl_Graph_isColouring_c2 N x.1 x.2.1 = funF (impl_Graph_isColouring_c2_G N) tab [] Try.f111 impl_Graph_isColouring_c2_ps impl_Graph_isColouring_c2_rs x := by kernel_rfl
theorem impl_Graph_isColouring_c2_pc (N : Nat) : PC Try.prog 111 (impl_Graph_isColouring_c2_S N) := by
  have e : impl_Graph_isColouring_c2_S N = ⟨impl_Graph_isColouring_c2_ps, impl_Graph_isColouring_c2_rs, funF (impl_Graph_isColouring_c2_G N) tab [] Try.f111 impl_Graph_isColouring_c2_ps impl_Graph_isColouring_c2_rs⟩ := congrArg (FSum.mk impl_Graph_isColouring_c2_ps impl_Graph_isColouring_c2_rs) (funext (impl_Graph_isColouring_c2_run N))
  rw [e]
  exact fun_ok (c := impl_Graph_isColouring_c2_code) progOk (impl_Graph_isColouring_c2_gok N) (draw_ok progOk (impl_Graph_isColouring_c2_gok N)) Try.call111 Try.func111 (by kernel_rfl) (lsOk_at (L := []) trivial) (by kernel_rfl) (by kernel_rfl) (by kernel_rfl) (by kernel_rfl) (by kernel_rfl)

/-! ### impl_Graph_isColouring -/
abbrev impl_Graph_isColouring_ps : List (PV.Mode × Ty) := [(.ro, QILQII), (.ro, I), (.ro, LI)]
abbrev impl_Graph_isColouring_rs : List (Bool × Ty) := [(true, .bool)]
noncomputable def impl_Graph_isColouring_G (N : Nat) : GTab := gOf [(54, slices_ContainsFunc_LI_int_S N), (109, impl_Graph_isColouring_c1_S N), (110, slices_ContainsFunc_LP_P2_S N), (111, impl_Graph_isColouring_c2_S N)]
theorem impl_Graph_isColouring_gok (N : Nat) : GOk Try.prog (impl_Graph_isColouring_G N) := gOf_ok ⟨slices_ContainsFunc_LI_int_pc N, impl_Graph_isColouring_c1_pc N, slices_ContainsFunc_LP_P2_pc N, impl_Graph_isColouring_c2_pc N, trivial⟩
noncomputable def impl_Graph_isColouring_code : Code := (Try.f70.body).getD .skip
noncomputable def impl_Graph_isColouring (N : Nat) (g : (Int × (List (Int × Int)))) (kv : Int) (colours : (List Int)) : Option ((Bool × Unit) × (Unit)) :=
  (br (ine (tLen colours) g.1)
    (some ((false, ()), ()))
    (((slices_ContainsFunc_LI_int N colours (fun y0 => (impl_Graph_isColouring_c1 N y0 kv).bind fun z => some z.1.1)).bind fun r =>
      (br r.1.1
        (some ((false, ()), ()))
        (((slices_ContainsFunc_LP_P2 N g.2 (fun y0 => (impl_Graph_isColouring_c2 N y0 colours).bind fun z => some z.1.1)).bind fun r1 =>
          some (((!r1.1.1), ()), ())))))))
noncomputable def impl_Graph_isColouring_S (N : Nat) : FSum := ⟨impl_Graph_isColouring_ps, impl_Graph_isColouring_rs, fun x => impl_Graph_isColouring N x.1 x.2.1 x.2.2.1⟩
theorem impl_Graph_isColouring_run (N : Nat) (x : argsT impl_Graph_isColouring_ps) : impl_Graph_isColouring N x.1 x.2.1 x.2.2.1 = funF (impl_Graph_isColouring_G N) tab [] Try.f70 impl_Graph_isColouring_ps impl_Graph_isColouring_rs x := by kernel_rfl
theorem impl_Graph_isColouring_pc (N : Nat) : PC Try.prog 70 (impl_Graph_isColouring_S N) := by
  have e : impl_Graph_isColouring_S N = ⟨impl_Graph_isColouring_ps, impl_Graph_isColouring_rs, funF (impl_Graph_isColouring_G N) tab [] Try.f70 impl_Graph_isColouring_ps impl_Graph_isColouring_rs⟩ := congrArg (FSum.mk impl_Graph_isColouring_ps impl_Graph_isColouring_rs) (funext (impl_Graph_isColouring_run N))
  rw [e]
  exact fun_ok (c := impl_Graph_isColouring_code) progOk (impl_Graph_isColouring_gok N) (draw_ok progOk (impl_Graph_isColouring_gok N)) Try.call70 Try.func70 (by kernel_rfl) (lsOk_at (L := []) trivial) (by kernel_rfl) (by kernel_rfl) (by kernel_rfl) (by kernel_rfl) (by kernel_rfl)

/-! ### impl_isColoured_c1 -/
abbrev impl_isColoured_c1_ps : List (PV.Mode × Ty) := [(.ro, LI), (.ro, AQILQII), (.ro, AI)]
abbrev impl_isColoured_c1_rs : List (Bool × Ty) := [(true, .bool)]
noncomputable def impl_isColoured_c1_G (N : Nat) : GTab := gOf [(70, impl_Graph_isColouring_S N)]
theorem impl_isColoured_c1_gok (N : Nat) : GOk Try.prog (impl_isColoured_c1_G N) := gOf_ok ⟨impl_Graph_isColouring_pc N, trivial⟩
noncomputable def impl_isColoured_c1_code : Code := (Try.f88.body).getD .skip
noncomputable def impl_isColoured_c1 (N : Nat) (colours : (List Int)) (c : (Int × (List (Int × Int)))) (c1 : Int) : Option ((Bool × Unit) × (Unit)) :=
  ((impl_Graph_isColouring N c c1 colours).bind fun r =>
    some (((!r.1.1), ()), ()))
noncomputable def impl_isColoured_c1_S (N : Nat) : FSum := ⟨impl_isColoured_c1_ps, impl_isColoured_c1_rs, fun x => impl_isColoured_c1 N x.1 x.2.1 x.2.2.1⟩
theorem impl_isColoured_c1_run (N : Nat) (x : argsT impl_isColoured_c1_ps) : impl_isColoured_c1 N x.1 x.2.1 x.2.2.1 = funF (impl_isColoured_c1_G N) tab [] Try.f88 impl_isColoured_c1_ps impl_isColoured_c1_rs x := by kernel_rfl
theorem impl_isColoured_c1_pc (N : Nat) : PC Try.prog 88 (impl_isColoured_c1_S N) := by
  have e : impl_isColoured_c1_S N = ⟨impl_isColoured_c1_ps, impl_isColoured_c1_rs, funF (impl_isColoured_c1_G N) tab [] Try.f88 impl_isColoured_c1_ps impl_isColoured_c1_rs⟩ := congrArg (FSum.mk impl_isColoured_c1_ps impl_isColoured_c1_rs) (funext (impl_isColoured_c1_run N))
  rw [e]
  exact fun_ok (c := impl_isColoured_c1_code) progOk (impl_isColoured_c1_gok N) (draw_ok progOk (impl_isColoured_c1_gok N)) Try.call88 Try.func88 (by kernel_rfl) (lsOk_at (L := []) trivial) (by kernel_rfl) (by kernel_rfl) (by kernel_rfl) (by kernel_rfl) (by kernel_rfl)

/-! ### impl_isColoured -/
abbrev impl_isColoured_ps : List (PV.Mode × Ty) := [(.ro, QILQII), (.ro, I), (.ro, LLI)]
abbrev impl_isColoured_rs : List (Bool × Ty) := [(true, .bool)]
noncomputable def impl_isColoured_G (N : Nat) : GTab := gOf [(69, impl_isColourCase_S N), (87, slices_ContainsFunc_LLI_LI_S N), (88, impl_isColoured_c1_S N)]
theorem impl_isColoured_gok (N : Nat) : GOk Try.prog (impl_isColoured_G N) := gOf_ok ⟨impl_isColourCase_pc N, slices_ContainsFunc_LLI_LI_pc N, impl_isColoured_c1_pc N, trivial⟩
noncomputable def impl_isColoured_code : Code := (Try.f48.body).getD .skip
noncomputable def impl_isColoured (N : Nat) (g : (Int × (List (Int × Int)))) (kv : Int) (lists : (List (List Int))) : Option ((Bool × Unit) × (Unit)) :=
  ((impl_isColourCase N (g.1, g.2) kv).bind fun r =>
    (br r.1.1
      (((slices_ContainsFunc_LLI_LI N lists (fun y0 => (impl_isColoured_c1 N y0 (g.1, g.2) kv).bind fun z => some z.1.1)).bind fun r1 =>
        some (((!r1.1.1), ()), ())))
      (some ((false, ()), ()))))
noncomputable def impl_isColoured_S (N : Nat) : FSum := ⟨impl_isColoured_ps, impl_isColoured_rs, fun x => impl_isColoured N x.1 x.2.1 x.2.2.1⟩
theorem impl_isColoured_run (N : Nat) (x : argsT impl_isColoured_ps) : impl_isColoured N x.1 x.2.1 x.2.2.1 = funF (impl_isColoured_G N) tab [] Try.f48 impl_isColoured_ps impl_isColoured_rs x := by kernel_rfl
theorem impl_isColoured_pc (N : Nat) : PC Try.prog 48 (impl_isColoured_S N) := by
  have e : impl_isColoured_S N = ⟨impl_isColoured_ps, impl_isColoured_rs, funF (impl_isColoured_G N) tab [] Try.f48 impl_isColoured_ps impl_isColoured_rs⟩ := congrArg (FSum.mk impl_isColoured_ps impl_isColoured_rs) (funext (impl_isColoured_run N))
  rw [e]
  exact fun_ok (c := impl_isColoured_code) progOk (impl_isColoured_gok N) (draw_ok progOk (impl_isColoured_gok N)) Try.call48 Try.func48 (by kernel_rfl) (lsOk_at (L := []) trivial) (by kernel_rfl) (by kernel_rfl) (by kernel_rfl) (by kernel_rfl) (by kernel_rfl)

/-! ### impl_isSpot -/
abbrev impl_isSpot_ps : List (PV.Mode × Ty) := [(.ro, QILQII), (.ro, I), (.ro, LI), (.ro, I), (.ro, I)]
abbrev impl_isSpot_rs : List (Bool × Ty) := [(true, .bool)]
noncomputable def impl_isSpot_G (N : Nat) : GTab := gOf [(48, impl_isColoured_S N), (79, impl_between_S N)]
theorem impl_isSpot_gok (N : Nat) : GOk Try.prog (impl_isSpot_G N) := gOf_ok ⟨impl_isColoured_pc N, impl_between_pc N, trivial⟩
noncomputable def impl_isSpot_code : Code := (Try.f58.body).getD .skip
noncomputable def impl_isSpot (N : Nat) (g : (Int × (List (Int × Int)))) (kv : Int) (colours : (List Int)) (x : Int) (c : Int) : Option ((Bool × Unit) × (Unit)) :=
  ((impl_isColoured N (g.1, g.2) kv [colours]).bind fun r =>
    (br r.1.1
      (((impl_between N x 0 (IntKind.i64.wrap (g.1 - 1))).bind fun r1 =>
        (br r1.1.1
          (((impl_between N c 0 (IntKind.i64.wrap (kv - 1))).bind fun r2 =>
            some ((r2.1.1, ()), ())))
          (some ((false, ()), ())))))
      (some ((false, ()), ()))))
noncomputable def impl_isSpot_S (N : Nat) : FSum := ⟨impl_isSpot_ps, impl_isSpot_rs, fun x => impl_isSpot N x.1 x.2.1 x.2.2.1 x.2.2.2.1 x.2.2.2.2.1⟩
theorem impl_isSpot_run (N : Nat) (x : argsT impl_isSpot_ps) : impl_isSpot N x.1 x.2.1 x.2.2.1 x.2.2.2.1 x.2.2.2.2.1 = funF (impl_isSpot_G N) tab [] Try.f58 impl_isSpot_ps impl_isSpot_rs x := by kernel_rfl
theorem impl_isSpot_pc (N : Nat) : PC Try.prog 58 (impl_isSpot_S N) := by
  have e : impl_isSpot_S N = ⟨impl_isSpot_ps, impl_isSpot_rs, funF (impl_isSpot_G N) tab [] Try.f58 impl_isSpot_ps impl_isSpot_rs⟩ := congrArg (FSum.mk impl_isSpot_ps impl_isSpot_rs) (funext (impl_isSpot_run N))
  rw [e]
  exact fun_ok (c := impl_isSpot_code) progOk (impl_isSpot_gok N) (draw_ok progOk (impl_isSpot_gok N)) Try.call58 Try.func58 (by kernel_rfl) (lsOk_at (L := []) trivial) (by kernel_rfl) (by kernel_rfl) (by kernel_rfl) (by kernel_rfl) (by kernel_rfl)

/-! ### slices_Clone_LI_int -/
abbrev slices_Clone_LI_int_ps : List (PV.Mode × Ty) := [(.ro, LI)]
abbrev slices_Clone_LI_int_rs : List (Bool × Ty) := [(true, LI)]
noncomputable def slices_Clone_LI_int_G (N : Nat) : GTab := gOf []
theorem slices_Clone_LI_int_gok (N : Nat) : GOk Try.prog (slices_Clone_LI_int_G N) := gOf_ok trivial
noncomputable def slices_Clone_LI_int_code : Code := (Try.f98.body).getD .skip
noncomputable def slices_Clone_LI_int (N : Nat) (s : (List Int)) : Option (((List Int) × Unit) × (Unit)) :=
  (br (ieq (tLen s) 0)
    ((amb
      (some (([], ()), ()))
      ((chk (room (α := Int) (β := Int) [] s)
        (some (((tApp [] s), ()), ()))))))
    ((chk (room (α := Int) (β := Int) [] s)
      (some (((tApp [] s), ()), ())))))
noncomputable def slices_Clone_LI_int_S (N : Nat) : FSum := ⟨slices_Clone_LI_int_ps, slices_Clone_LI_int_rs, fun x => slices_Clone_LI_int N x.1⟩
theorem slices_Clone_LI_int_run (N : Nat) (x : argsT slices_Clone_LI_int_ps) : slices_Clone_LI_int N x.1 = funF (slices_Clone_LI_int_G N) tab [] Try.f98 slices_Clone_LI_int_ps slices_Clone_LI_int_rs x := by kernel_rfl
theorem slices_Clone_LI_int_pc (N : Nat) : PC Try.prog 98 (slices_Clone_LI_int_S N) := by
  have e : slices_Clone_LI_int_S N = ⟨slices_Clone_LI_int_ps, slices_Clone_LI_int_rs, funF (slices_Clone_LI_int_G N) tab [] Try.f98 slices_Clone_LI_int_ps slices_Clone_LI_int_rs⟩ := congrArg (FSum.mk slices_Clone_LI_int_ps slices_Clone_LI_int_rs) (funext (slices_Clone_LI_int_run N))
  rw [e]
  exact fun_ok (c := slices_Clone_LI_int_code) progOk (slices_Clone_LI_int_gok N) (draw_ok progOk (slices_Clone_LI_int_gok N)) Try.call98 Try.func98 (by kernel_rfl) (lsOk_at (L := []) trivial) (by kernel_rfl) (by kernel_rfl) (by kernel_rfl) (by kernel_rfl) (by kernel_rfl)

/-! ### impl_pair -/
abbrev impl_pair_ps : List (PV.Mode × Ty) := [(.ro, I), (.ro, I)]
abbrev impl_pair_rs : List (Bool × Ty) := [(true, QII)]
noncomputable def impl_pair_G (N : Nat) : GTab := gOf []
theorem impl_pair_gok (N : Nat) : GOk Try.prog (impl_pair_G N) := gOf_ok trivial
noncomputable def impl_pair_code : Code := (Try.f130.body).getD .skip
noncomputable def impl_pair (N : Nat) (a : Int) (b : Int) : Option (((Int × Int) × Unit) × (Unit)) :=
  some ((((if b < a then b else a), (if b > a then b else a)), ()), ())
noncomputable def impl_pair_S (N : Nat) : FSum := ⟨impl_pair_ps, impl_pair_rs, fun x => impl_pair N x.1 x.2.1⟩
theorem impl_pair_run (N : Nat) (x : argsT impl_pair_ps) : impl_pair N x.1 x.2.1 = funF (impl_pair_G N) tab [] Try.f130 impl_pair_ps impl_pair_rs x := by kernel_rfl
theorem impl_pair_pc (N : Nat) : PC Try.prog 130 (impl_pair_S N) := by
  have e : impl_pair_S N = ⟨impl_pair_ps, impl_pair_rs, funF (impl_pair_G N) tab [] Try.f130 impl_pair_ps impl_pair_rs⟩ := congrArg (FSum.mk impl_pair_ps impl_pair_rs) (funext (impl_pair_run N))
  rw [e]
  exact fun_ok (c := impl_pair_code) progOk (impl_pair_gok N) (draw_ok progOk (impl_pair_gok N)) Try.call130 Try.func130 (by kernel_rfl) (lsOk_at (L := []) trivial) (by kernel_rfl) (by kernel_rfl) (by kernel_rfl) (by kernel_rfl) (by kernel_rfl)

/-! ### slices_Index_LP_P2 -/
abbrev slices_Index_LP_P2_ps : List (PV.Mode × Ty) := [(.ro, LQII), (.ro, QII)]
abbrev slices_Index_LP_P2_rs : List (Bool × Ty) := [(true, I)]
noncomputable def slices_Index_LP_P2_G (N : Nat) : GTab := gOf []
theorem slices_Index_LP_P2_gok (N : Nat) : GOk Try.prog (slices_Index_LP_P2_G N) := gOf_ok trivial
noncomputable def slices_Index_LP_P2_code : Code := (Try.f145.body).getD .skip
noncomputable def slices_Index_LP_P2_l0_sh : Sh := ⟨[(0, .one (.ro LQII)), (3, .one (.adr 0 0)), (7, .one (.ro I)), (8, .one (.ro I))], [.box [.ro I, .ro I]]⟩
noncomputable def slices_Index_LP_P2_l0_ex : List (Ex × Sh) := [(.ret, ⟨[(4, .one (.ro I))], []⟩), (.exit 0, ⟨[], []⟩)]
noncomputable def slices_Index_LP_P2_l0 {R : Type} (N : Nat) (k0 : Int → Option R) (k1 : Unit → Option R) : Nat → (List (Int × Int)) → Int → Int → Int → Int → Option R
  | 0, _, _, _, _, _ => none
  | K + 1, s1, x, x1, o, o1 =>
    (br (ilt x1 x)
      ((chk (inb s1 x1)
        (br (ieq o ((rdP s1 x1).1) && ieq o1 ((rdP s1 x1).2))
        (k0 x1)
        (slices_Index_LP_P2_l0 N k0 k1 K s1 x (IntKind.i64.wrap (x1 + 1)) o o1))))
      (k1 ()))
noncomputable def slices_Index_LP_P2_l0_again {R : Type} (N : Nat) (ks : (j : Nat) → ((slices_Index_LP_P2_l0_ex.getD j (.ret, Sh.none)).2).T → Option R) (k : Nat) (x : slices_Index_LP_P2_l0_sh.T) : Option R :=
  slices_Index_LP_P2_l0 N (fun y0 => ks 0 ((y0, ()), ())) (fun (_ : Unit) => ks 1 ((), ())) k x.1.1 x.1.2.2.1 x.1.2.2.2.1 x.2.1.1 x.2.1.2.1
noncomputable def slices_Index_LP_P2_l0_s (N : Nat) : LSum := ⟨slices_Index_LP_P2_l0_sh, slices_Index_LP_P2_l0_ex, fun x ks => slices_Index_LP_P2_l0_again N ks N x⟩
theorem slices_Index_LP_P2_l0_step (N : Nat) (R : Type) (k : Nat) (x : slices_Index_LP_P2_l0_sh.T) (ks : (j : Nat) → ((slices_Index_LP_P2_l0_ex.getD j (.ret, Sh.none)).2).T → Option R) : slices_Index_LP_P2_l0_again N ks (k + 1) x = roundF (slices_Index_LP_P2_G N) tab [] (loopAt slices_Index_LP_P2_code 0) slices_Index_LP_P2_l0_sh slices_Index_LP_P2_l0_ex (fun y => slices_Index_LP_P2_l0_again N ks k y) ks x := by kernel_rfl
theorem slices_Index_LP_P2_l0_ok (N : Nat) : LoopOk Try.prog Try.f145.ntmps (slices_Index_LP_P2_l0_s N) (loopAt slices_Index_LP_P2_code 0) :=
  loop_ok (l := slices_Index_LP_P2_l0_s N) progOk (slices_Index_LP_P2_gok N) (draw_ok progOk (slices_Index_LP_P2_gok N)) (fun R k x ks => slices_Index_LP_P2_l0_again N ks k x) (fun _ _ _ => rfl) (fun R k x ks => slices_Index_LP_P2_l0_step N R k x ks) (fun R x ks r h => ⟨N, h⟩) (lsOk_at (L := []) trivial) (by kernel_rfl) (by kernel_rfl)
noncomputable def slices_Index_LP_P2 (N : Nat) (s : (List (Int × Int))) (v : (Int × Int)) : Option ((Int × Unit) × (Unit)) :=
  slices_Index_LP_P2_l0 N (fun x => some ((x, ()), ())) (fun (_ : Unit) => some (((-1), ()), ())) N s (tLen s) 0 v.1 v.2
noncomputable def slices_Index_LP_P2_S (N : Nat) : FSum := ⟨slices_Index_LP_P2_ps, slices_Index_LP_P2_rs, fun x => slices_Index_LP_P2 N x.1 x.2.1⟩
theorem slices_Index_LP_P2_run (N : Nat) (x : argsT slices_Index_LP_P2_ps) : slices_Index_LP_P2 N x.1 x.2.1 = funF (slices_Index_LP_P2_G N) tab [slices_Index_LP_P2_l0_s N] Try.f145 slices_Index_LP_P2_ps slices_Index_LP_P2_rs x := by kernel_rfl
theorem slices_Index_LP_P2_pc (N : Nat) : PC Try.prog 145 (slices_Index_LP_P2_S N) := by
  have e : slices_Index_LP_P2_S N = ⟨slices_Index_LP_P2_ps, slices_Index_LP_P2_rs, funF (slices_Index_LP_P2_G N) tab [slices_Index_LP_P2_l0_s N] Try.f145 slices_Index_LP_P2_ps slices_Index_LP_P2_rs⟩ := congrArg (FSum.mk slices_Index_LP_P2_ps slices_Index_LP_P2_rs) (funext (slices_Index_LP_P2_run N))
  rw [e]
  exact fun_ok (c := slices_Index_LP_P2_code) progOk (slices_Index_LP_P2_gok N) (draw_ok progOk (slices_Index_LP_P2_gok N)) Try.call145 Try.func145 (by kernel_rfl) (lsOk_at (L := [slices_Index_LP_P2_l0_s N]) ⟨slices_Index_LP_P2_l0_ok N, trivial⟩) (by kernel_rfl) (by kernel_rfl) (by kernel_rfl) (by kernel_rfl) (by kernel_rfl)

/-! ### slices_Contains_LP_P2 -/
abbrev slices_Contains_LP_P2_ps : List (PV.Mode × Ty) := [(.ro, LQII), (.ro, QII)]
abbrev slices_Contains_LP_P2_rs : List (Bool × Ty) := [(true, .bool)]
noncomputable def slices_Contains_LP_P2_G (N : Nat) : GTab := gOf [(145, slices_Index_LP_P2_S N)]
theorem slices_Contains_LP_P2_gok (N : Nat) : GOk Try.prog (slices_Contains_LP_P2_G N) := gOf_ok ⟨slices_Index_LP_P2_pc N, trivial⟩
noncomputable def slices_Contains_LP_P2_code : Code := (Try.f129.body).getD .skip
noncomputable def slices_Contains_LP_P2 (N : Nat) (s : (List (Int × Int))) (v : (Int × Int)) : Option ((Bool × Unit) × (Unit)) :=
  ((slices_Index_LP_P2 N s (v.1, v.2)).bind fun r =>
    some (((ile 0 r.1.1), ()), ()))
noncomputable def slices_Contains_LP_P2_S (N : Nat) : FSum := ⟨slices_Contains_LP_P2_ps, slices_Contains_LP_P2_rs, fun x => slices_Contains_LP_P2 N x.1 x.2.1⟩
theorem slices_Contains_LP_P2_run (N : Nat) (x : argsT slices_Contains_LP_P2_ps) : slices_Contains_LP_P2 N x.1 x.2.1 = funF (slices_Contains_LP_P2_G N) tab [] Try.f129 slices_Contains_LP_P2_ps slices_Contains_LP_P2_rs x := by kernel_rfl
theorem slices_Contains_LP_P2_pc (N : Nat) : PC Try.prog 129 (slices_Contains_LP_P2_S N) := by
  have e : slices_Contains_LP_P2_S N = ⟨slices_Contains_LP_P2_ps, slices_Contains_LP_P2_rs, funF (slices_Contains_LP_P2_G N) tab [] Try.f129 slices_Contains_LP_P2_ps slices_Contains_LP_P2_rs⟩ := congrArg (FSum.mk slices_Contains_LP_P2_ps slices_Contains_LP_P2_rs) (funext (slices_Contains_LP_P2_run N))
  rw [e]
  exact fun_ok (c := slices_Contains_LP_P2_code) progOk (slices_Contains_LP_P2_gok N) (draw_ok progOk (slices_Contains_LP_P2_gok N)) Try.call129 Try.func129 (by kernel_rfl) (lsOk_at (L := []) trivial) (by kernel_rfl) (by kernel_rfl) (by kernel_rfl) (by kernel_rfl) (by kernel_rfl)

/-! ### impl_Graph_has -/
abbrev impl_Graph_has_ps : List (PV.Mode × Ty) := [(.ro, QILQII), (.ro, I), (.ro, I)]
abbrev impl_Graph_has_rs : List (Bool × Ty) := [(true, .bool)]
noncomputable def impl_Graph_has_G (N : Nat) : GTab := gOf [(130, impl_pair_S N), (129, slices_Contains_LP_P2_S N)]
theorem impl_Graph_has_gok (N : Nat) : GOk Try.prog (impl_Graph_has_G N) := gOf_ok ⟨impl_pair_pc N, slices_Contains_LP_P2_pc N, trivial⟩
noncomputable def impl_Graph_has_code : Code := (Try.f96.body).getD .skip
noncomputable def impl_Graph_has (N : Nat) (g : (Int × (List (Int × Int)))) (a : Int) (b : Int) : Option ((Bool × Unit) × (Unit)) :=
  ((impl_pair N a b).bind fun r =>
    ((slices_Contains_LP_P2 N g.2 (r.1.1.1, r.1.1.2)).bind fun r1 =>
      some ((r1.1.1, ()), ())))
noncomputable def impl_Graph_has_S (N : Nat) : FSum := ⟨impl_Graph_has_ps, impl_Graph_has_rs, fun x => impl_Graph_has N x.1 x.2.1 x.2.2.1⟩
theorem impl_Graph_has_run (N : Nat) (x : argsT impl_Graph_has_ps) : impl_Graph_has N x.1 x.2.1 x.2.2.1 = funF (impl_Graph_has_G N) tab [] Try.f96 impl_Graph_has_ps impl_Graph_has_rs x := by kernel_rfl
theorem impl_Graph_has_pc (N : Nat) : PC Try.prog 96 (impl_Graph_has_S N) := by
  have e : impl_Graph_has_S N = ⟨impl_Graph_has_ps, impl_Graph_has_rs, funF (impl_Graph_has_G N) tab [] Try.f96 impl_Graph_has_ps impl_Graph_has_rs⟩ := congrArg (FSum.mk impl_Graph_has_ps impl_Graph_has_rs) (funext (impl_Graph_has_run N))
  rw [e]
  exact fun_ok (c := impl_Graph_has_code) progOk (impl_Graph_has_gok N) (draw_ok progOk (impl_Graph_has_gok N)) Try.call96 Try.func96 (by kernel_rfl) (lsOk_at (L := []) trivial) (by kernel_rfl) (by kernel_rfl) (by kernel_rfl) (by kernel_rfl) (by kernel_rfl)
end Go.Proofs.Ytbnjcjpnpidhmaa
