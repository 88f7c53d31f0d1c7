/- Functions of the program as functions on data. -/
import Derived.Test.YtfbkjgeaoafejaaSpanningTreesFa
set_option linter.all false
namespace Go.Proofs.Ytfbkjgeaoafejaa
open Go Go.PV
/-! ### impl_comparePairs -/
abbrev impl_comparePairs_ps : List (PV.Mode × Ty) := [(.ro, QII), (.ro, QII)]
abbrev impl_comparePairs_rs : List (Bool × Ty) := [(true, I)]
noncomputable def impl_comparePairs_G (N : Nat) : GTab := gOf [(220, cmp_Compare_int_S N), (236, cmp_Or_int_S N)]
theorem impl_comparePairs_gok (N : Nat) : GOk Try.prog (impl_comparePairs_G N) := gOf_ok ⟨cmp_Compare_int_pc N, cmp_Or_int_pc N, trivial⟩
noncomputable def impl_comparePairs_code : Code := (Try.f205.body).getD .skip
noncomputable def impl_comparePairs (N : Nat) (a : (Int × Int)) (b : (Int × Int)) : Option ((Int × Unit) × (Unit)) :=
  ((cmp_Compare_int N a.1 b.1).bind fun r =>
    ((cmp_Compare_int N a.2 b.2).bind fun r1 =>
      ((cmp_Or_int N [r.1.1, r1.1.1]).bind fun r2 =>
        some ((r2.1.1, ()), ()))))
noncomputable def impl_comparePairs_S (N : Nat) : FSum := ⟨impl_comparePairs_ps, impl_comparePairs_rs, fun x => impl_comparePairs N x.1 x.2.1⟩
theorem impl_comparePairs_run (N : Nat) (x : argsT impl_comparePairs_ps) : impl_comparePairs N x.1 x.2.1 = funF (impl_comparePairs_G N) tab [] Try.f205 impl_comparePairs_ps impl_comparePairs_rs x := by kernel_rfl
theorem impl_comparePairs_pc (N : Nat) : PC Try.prog 205 (impl_comparePairs_S N) := by
  have e : impl_comparePairs_S N = ⟨impl_comparePairs_ps, impl_comparePairs_rs, funF (impl_comparePairs_G N) tab [] Try.f205 impl_comparePairs_ps impl_comparePairs_rs⟩ := congrArg (FSum.mk impl_comparePairs_ps impl_comparePairs_rs) (funext (impl_comparePairs_run N))
  rw [e]
  exact fun_ok (c := impl_comparePairs_code) progOk (impl_comparePairs_gok N) (draw_ok progOk (impl_comparePairs_gok N)) Try.call205 Try.func205 (by kernel_rfl) (lsOk_at (L := []) trivial) (by kernel_rfl) (by kernel_rfl) (by kernel_rfl) (by kernel_rfl) (by kernel_rfl)

/-! ### impl_isPairs -/
abbrev impl_isPairs_ps : List (PV.Mode × Ty) := [(.ro, LQII), (.ro, I)]
abbrev impl_isPairs_rs : List (Bool × Ty) := [(true, .bool)]
noncomputable def impl_isPairs_G (N : Nat) : GTab := gOf [(205, impl_comparePairs_S N)]
theorem impl_isPairs_gok (N : Nat) : GOk Try.prog (impl_isPairs_G N) := gOf_ok ⟨impl_comparePairs_pc N, trivial⟩
noncomputable def impl_isPairs_code : Code := (Try.f152.body).getD .skip
noncomputable def impl_isPairs_l0_sh : Sh := ⟨[(0, .one (.ro LQII)), (1, .one (.ro I)), (7, .one (.ro LQII)), (8, .one (.ro I)), (9, .one (.ro I))], []⟩
noncomputable def impl_isPairs_l0_ex : List (Ex × Sh) := [(.ret, ⟨[(4, .one (.ro .bool))], []⟩), (.exit 0, ⟨[], []⟩)]
noncomputable def impl_isPairs_l0 {R : Type} (N : Nat) (k0 : Bool → Option R) (k1 : Unit → Option R) : Nat → (List (Int × Int)) → Int → (List (Int × Int)) → Int → Int → Option R
  | 0, _, _, _, _, _ => none
  | K + 1, list1, below1, x, x1, x2 =>
    (br (ilt x2 x1)
      ((chk (inb x x2)
        (br (ilt ((rdP x x2).1) 0)
        (k0 false)
        ((br (ile ((rdP x x2).2) ((rdP x x2).1))
          (k0 false)
          ((br (ile below1 ((rdP x x2).2))
            (k0 false)
            ((br (ilt 0 x2)
              ((chk (inb list1 (IntKind.i64.wrap (x2 - 1)))
                ((impl_comparePairs N (rdP list1 (IntKind.i64.wrap (x2 - 1))) ((rdP x x2).1, (rdP x x2).2)).bind fun r =>
                (br (ile 0 r.1.1)
                  (k0 false)
                  (impl_isPairs_l0 N k0 k1 K list1 below1 x x1 (IntKind.i64.wrap (x2 + 1)))))))
              (impl_isPairs_l0 N k0 k1 K list1 below1 x x1 (IntKind.i64.wrap (x2 + 1))))))))))))
      (k1 ()))
noncomputable def impl_isPairs_l0_again {R : Type} (N : Nat) (ks : (j : Nat) → ((impl_isPairs_l0_ex.getD j (.ret, Sh.none)).2).T → Option R) (k : Nat) (x : impl_isPairs_l0_sh.T) : Option R :=
  impl_isPairs_l0 N (fun y0 => ks 0 ((y0, ()), ())) (fun (_ : Unit) => ks 1 ((), ())) k x.1.1 x.1.2.1 x.1.2.2.1 x.1.2.2.2.1 x.1.2.2.2.2.1
noncomputable def impl_isPairs_l0_s (N : Nat) : LSum := ⟨impl_isPairs_l0_sh, impl_isPairs_l0_ex, fun x ks => impl_isPairs_l0_again N ks N x⟩
theorem impl_isPairs_l0_step (N : Nat) (R : Type) (k : Nat) (x : impl_isPairs_l0_sh.T) (ks : (j : Nat) → ((impl_isPairs_l0_ex.getD j (.ret, Sh.none)).2).T → Option R) : impl_isPairs_l0_again N ks (k + 1) x = roundF (impl_isPairs_G N) tab [] (loopAt impl_isPairs_code 0) impl_isPairs_l0_sh impl_isPairs_l0_ex (fun y => impl_isPairs_l0_again N ks k y) ks x := by kernel_rfl
theorem impl_isPairs_l0_ok (N : Nat) : LoopOk Try.prog Try.f152.ntmps (impl_isPairs_l0_s N) (loopAt impl_isPairs_code 0) :=
  loop_ok (l := impl_isPairs_l0_s N) progOk (impl_isPairs_gok N) (draw_ok progOk (impl_isPairs_gok N)) (fun R k x ks => impl_isPairs_l0_again N ks k x) (fun _ _ _ => rfl) (fun R k x ks => impl_isPairs_l0_step N R k x ks) (fun R x ks r h => ⟨N, h⟩) (lsOk_at (L := []) trivial) (by kernel_rfl) (by kernel_rfl)
noncomputable def impl_isPairs (N : Nat) (list : (List (Int × Int))) (below : Int) : Option ((Bool × Unit) × (Unit)) :=
  impl_isPairs_l0 N (fun x => some ((x, ()), ())) (fun (_ : Unit) => some ((true, ()), ())) N list below list (tLen list) 0
noncomputable def impl_isPairs_S (N : Nat) : FSum := ⟨impl_isPairs_ps, impl_isPairs_rs, fun x => impl_isPairs N x.1 x.2.1⟩
theorem impl_isPairs_run (N : Nat) (x : argsT impl_isPairs_ps) : impl_isPairs N x.1 x.2.1 = funF (impl_isPairs_G N) tab [impl_isPairs_l0_s N] Try.f152 impl_isPairs_ps impl_isPairs_rs x := by kernel_rfl
theorem impl_isPairs_pc (N : Nat) : PC Try.prog 152 (impl_isPairs_S N) := by
  have e : impl_isPairs_S N = ⟨impl_isPairs_ps, impl_isPairs_rs, funF (impl_isPairs_G N) tab [impl_isPairs_l0_s N] Try.f152 impl_isPairs_ps impl_isPairs_rs⟩ := congrArg (FSum.mk impl_isPairs_ps impl_isPairs_rs) (funext (impl_isPairs_run N))
  rw [e]
  exact fun_ok (c := impl_isPairs_code) progOk (impl_isPairs_gok N) (draw_ok progOk (impl_isPairs_gok N)) Try.call152 Try.func152 (by kernel_rfl) (lsOk_at (L := [impl_isPairs_l0_s N]) ⟨impl_isPairs_l0_ok N, trivial⟩) (by kernel_rfl) (by kernel_rfl) (by kernel_rfl) (by kernel_rfl) (by kernel_rfl)

/-! ### impl_IsGraph -/
abbrev impl_IsGraph_ps : List (PV.Mode × Ty) := [(.ro, QILQII)]
abbrev impl_IsGraph_rs : List (Bool × Ty) := [(true, .bool)]
noncomputable def impl_IsGraph_G (N : Nat) : GTab := gOf [(90, impl_between_S N), (152, impl_isPairs_S N)]
theorem impl_IsGraph_gok (N : Nat) : GOk Try.prog (impl_IsGraph_G N) := gOf_ok ⟨impl_between_pc N, impl_isPairs_pc N, trivial⟩
noncomputable def impl_IsGraph_code : Code := (Try.f86.body).getD .skip
noncomputable def impl_IsGraph (N : Nat) (g : (Int × (List (Int × Int)))) : Option ((Bool × Unit) × (Unit)) :=
  ((impl_between N g.1 0 8).bind fun r =>
    (br r.1.1
      (((impl_isPairs N g.2 g.1).bind fun r1 =>
        some ((r1.1.1, ()), ())))
      (some ((false, ()), ()))))
noncomputable def impl_IsGraph_S (N : Nat) : FSum := ⟨impl_IsGraph_ps, impl_IsGraph_rs, fun x => impl_IsGraph N x.1⟩
theorem impl_IsGraph_run (N : Nat) (x : argsT impl_IsGraph_ps) : impl_IsGraph N x.1 = funF (impl_IsGraph_G N) tab [] Try.f86 impl_IsGraph_ps impl_IsGraph_rs x := by kernel_rfl
theorem impl_IsGraph_pc (N : Nat) : PC Try.prog 86 (impl_IsGraph_S N) := by
  have e : impl_IsGraph_S N = ⟨impl_IsGraph_ps, impl_IsGraph_rs, funF (impl_IsGraph_G N) tab [] Try.f86 impl_IsGraph_ps impl_IsGraph_rs⟩ := congrArg (FSum.mk impl_IsGraph_ps impl_IsGraph_rs) (funext (impl_IsGraph_run N))
  rw [e]
  exact fun_ok (c := impl_IsGraph_code) progOk (impl_IsGraph_gok N) (draw_ok progOk (impl_IsGraph_gok N)) Try.call86 Try.func86 (by kernel_rfl) (lsOk_at (L := []) trivial) (by kernel_rfl) (by kernel_rfl) (by kernel_rfl) (by kernel_rfl) (by kernel_rfl)

/-! ### impl_newJoiner -/
abbrev impl_newJoiner_ps : List (PV.Mode × Ty) := [(.ro, I)]
abbrev impl_newJoiner_rs : List (Bool × Ty) := [(true, LI)]
noncomputable def impl_newJoiner_G (N : Nat) : GTab := gOf []
theorem impl_newJoiner_gok (N : Nat) : GOk Try.prog (impl_newJoiner_G N) := gOf_ok trivial
noncomputable def impl_newJoiner_code : Code := (Try.f156.body).getD .skip
noncomputable def impl_newJoiner_l0_sh : Sh := ⟨[(3, .one (.ref 0)), (6, .one (.ro I)), (7, .one (.ro I))], [.sl 3 I .own]⟩
noncomputable def impl_newJoiner_l0_ex : List (Ex × Sh) := [(.exit 0, ⟨[(3, .one (.ref 0))], [.sl 3 I .own]⟩)]
noncomputable def impl_newJoiner_l0 {R : Type} (N : Nat) (k0 : (List Int) → Option R) : Nat → Int → Int → (List Int) → Option R
  | 0, _, _, _ => none
  | K + 1, x, x1, o =>
    (br (ilt x1 x)
      ((chk (room o [x1])
        (impl_newJoiner_l0 N k0 K x (IntKind.i64.wrap (x1 + 1)) (tApp o [x1]))))
      (k0 o))
noncomputable def impl_newJoiner_l0_again {R : Type} (N : Nat) (ks : (j : Nat) → ((impl_newJoiner_l0_ex.getD j (.ret, Sh.none)).2).T → Option R) (k : Nat) (x : impl_newJoiner_l0_sh.T) : Option R :=
  impl_newJoiner_l0 N (fun y0 => ks 0 (((), ()), (y0, ()))) k x.1.2.1 x.1.2.2.1 x.2.1
noncomputable def impl_newJoiner_l0_s (N : Nat) : LSum := ⟨impl_newJoiner_l0_sh, impl_newJoiner_l0_ex, fun x ks => impl_newJoiner_l0_again N ks N x⟩
theorem impl_newJoiner_l0_step (N : Nat) (R : Type) (k : Nat) (x : impl_newJoiner_l0_sh.T) (ks : (j : Nat) → ((impl_newJoiner_l0_ex.getD j (.ret, Sh.none)).2).T → Option R) : impl_newJoiner_l0_again N ks (k + 1) x = roundF (impl_newJoiner_G N) tab [] (loopAt impl_newJoiner_code 0) impl_newJoiner_l0_sh impl_newJoiner_l0_ex (fun y => impl_newJoiner_l0_again N ks k y) ks x := by kernel_rfl
theorem impl_newJoiner_l0_ok (N : Nat) : LoopOk Try.prog Try.f156.ntmps (impl_newJoiner_l0_s N) (loopAt impl_newJoiner_code 0) :=
  loop_ok (l := impl_newJoiner_l0_s N) progOk (impl_newJoiner_gok N) (draw_ok progOk (impl_newJoiner_gok N)) (fun R k x ks => impl_newJoiner_l0_again N ks k x) (fun _ _ _ => rfl) (fun R k x ks => impl_newJoiner_l0_step N R k x ks) (fun R x ks r h => ⟨N, h⟩) (lsOk_at (L := []) trivial) (by kernel_rfl) (by kernel_rfl)
noncomputable def impl_newJoiner (N : Nat) (size : Int) : Option (((List Int) × Unit) × (Unit)) :=
  impl_newJoiner_l0 N (fun o => some ((o, ()), ())) N size 0 []
noncomputable def impl_newJoiner_S (N : Nat) : FSum := ⟨impl_newJoiner_ps, impl_newJoiner_rs, fun x => impl_newJoiner N x.1⟩
theorem impl_newJoiner_run (N : Nat) (x : argsT impl_newJoiner_ps) : impl_newJoiner N x.1 = funF (impl_newJoiner_G N) tab [impl_newJoiner_l0_s N] Try.f156 impl_newJoiner_ps impl_newJoiner_rs x := by kernel_rfl
theorem impl_newJoiner_pc (N : Nat) : PC Try.prog 156 (impl_newJoiner_S N) := by
  have e : impl_newJoiner_S N = ⟨impl_newJoiner_ps, impl_newJoiner_rs, funF (impl_newJoiner_G N) tab [impl_newJoiner_l0_s N] Try.f156 impl_newJoiner_ps impl_newJoiner_rs⟩ := congrArg (FSum.mk impl_newJoiner_ps impl_newJoiner_rs) (funext (impl_newJoiner_run N))
  rw [e]
  exact fun_ok (c := impl_newJoiner_code) progOk (impl_newJoiner_gok N) (draw_ok progOk (impl_newJoiner_gok N)) Try.call156 Try.func156 (by kernel_rfl) (lsOk_at (L := [impl_newJoiner_l0_s N]) ⟨impl_newJoiner_l0_ok N, trivial⟩) (by kernel_rfl) (by kernel_rfl) (by kernel_rfl) (by kernel_rfl) (by kernel_rfl)

/-! ### slices_Clone_LI_int -/
abbrev slices_Clone_LI_int_ps : List (PV.Mode × Ty) := [(.ro, LI)]
abbrev slices_Clone_LI_int_rs : List (Bool × Ty) := [(true, LI)]
noncomputable def slices_Clone_LI_int_G (N : Nat) : GTab := gOf []
theorem slices_Clone_LI_int_gok (N : Nat) : GOk Try.prog (slices_Clone_LI_int_G N) := gOf_ok trivial
noncomputable def slices_Clone_LI_int_code : Code := (Try.f142.body).getD .skip
noncomputable def slices_Clone_LI_int (N : Nat) (s : (List Int)) : Option (((List Int) × Unit) × (Unit)) :=
  (br (ieq (tLen s) 0)
    ((amb
      (some (([], ()), ()))
      ((chk (room (α := Int) (β := Int) [] s)
        (some (((tApp [] s), ()), ()))))))
    ((chk (room (α := Int) (β := Int) [] s)
      (some (((tApp [] s), ()), ())))))
noncomputable def slices_Clone_LI_int_S (N : Nat) : FSum := ⟨slices_Clone_LI_int_ps, slices_Clone_LI_int_rs, fun x => slices_Clone_LI_int N x.1⟩
theorem slices_Clone_LI_int_run (N : Nat) (x : argsT slices_Clone_LI_int_ps) : slices_Clone_LI_int N x.1 = funF (slices_Clone_LI_int_G N) tab [] Try.f142 slices_Clone_LI_int_ps slices_Clone_LI_int_rs x := by kernel_rfl
theorem slices_Clone_LI_int_pc (N : Nat) : PC Try.prog 142 (slices_Clone_LI_int_S N) := by
  have e : slices_Clone_LI_int_S N = ⟨slices_Clone_LI_int_ps, slices_Clone_LI_int_rs, funF (slices_Clone_LI_int_G N) tab [] Try.f142 slices_Clone_LI_int_ps slices_Clone_LI_int_rs⟩ := congrArg (FSum.mk slices_Clone_LI_int_ps slices_Clone_LI_int_rs) (funext (slices_Clone_LI_int_run N))
  rw [e]
  exact fun_ok (c := slices_Clone_LI_int_code) progOk (slices_Clone_LI_int_gok N) (draw_ok progOk (slices_Clone_LI_int_gok N)) Try.call142 Try.func142 (by kernel_rfl) (lsOk_at (L := []) trivial) (by kernel_rfl) (by kernel_rfl) (by kernel_rfl) (by kernel_rfl) (by kernel_rfl)

/-! ### slices_Clone_impl_joiner_int -/
abbrev slices_Clone_impl_joiner_int_ps : List (PV.Mode × Ty) := [(.ro, LI)]
abbrev slices_Clone_impl_joiner_int_rs : List (Bool × Ty) := [(true, LI)]
noncomputable def slices_Clone_impl_joiner_int_G (N : Nat) : GTab := gOf []
theorem slices_Clone_impl_joiner_int_gok (N : Nat) : GOk Try.prog (slices_Clone_impl_joiner_int_G N) := gOf_ok trivial
noncomputable def slices_Clone_impl_joiner_int_code : Code := (Try.f154.body).getD .skip
noncomputable def slices_Clone_impl_joiner_int (N : Nat) (s : (List Int)) : Option (((List Int) × Unit) × (Unit)) :=
  (br (ieq (tLen s) 0)
    ((amb
      (some (([], ()), ()))
      ((chk (room (α := Int) (β := Int) [] s)
        (some (((tApp [] s), ()), ()))))))
    ((chk (room (α := Int) (β := Int) [] s)
      (some (((tApp [] s), ()), ())))))
noncomputable def slices_Clone_impl_joiner_int_S (N : Nat) : FSum := ⟨slices_Clone_impl_joiner_int_ps, slices_Clone_impl_joiner_int_rs, fun x => slices_Clone_impl_joiner_int N x.1⟩
theorem slices_Clone_impl_joiner_int_run (N : Nat) (x : argsT slices_Clone_impl_joiner_int_ps) : slices_Clone_impl_joiner_int N x.1 = funF (slices_Clone_impl_joiner_int_G N) tab [] Try.f154 slices_Clone_impl_joiner_int_ps slices_Clone_impl_joiner_int_rs x := by kernel_rfl
theorem slices_Clone_impl_joiner_int_pc (N : Nat) : PC Try.prog 154 (slices_Clone_impl_joiner_int_S N) := by
  have e : slices_Clone_impl_joiner_int_S N = ⟨slices_Clone_impl_joiner_int_ps, slices_Clone_impl_joiner_int_rs, funF (slices_Clone_impl_joiner_int_G N) tab [] Try.f154 slices_Clone_impl_joiner_int_ps slices_Clone_impl_joiner_int_rs⟩ := congrArg (FSum.mk slices_Clone_impl_joiner_int_ps slices_Clone_impl_joiner_int_rs) (funext (slices_Clone_impl_joiner_int_run N))
  rw [e]
  exact fun_ok (c := slices_Clone_impl_joiner_int_code) progOk (slices_Clone_impl_joiner_int_gok N) (draw_ok progOk (slices_Clone_impl_joiner_int_gok N)) Try.call154 Try.func154 (by kernel_rfl) (lsOk_at (L := []) trivial) (by kernel_rfl) (by kernel_rfl) (by kernel_rfl) (by kernel_rfl) (by kernel_rfl)

/-! ### impl_joiner_root -/
abbrev impl_joiner_root_ps : List (PV.Mode × Ty) := [(.ro, LI), (.ro, I)]
abbrev impl_joiner_root_rs : List (Bool × Ty) := [(true, I)]
noncomputable def impl_joiner_root_G (N : Nat) : GTab := gOf []
theorem impl_joiner_root_gok (N : Nat) : GOk Try.prog (impl_joiner_root_G N) := gOf_ok trivial
noncomputable def impl_joiner_root_code : Code := (Try.f206.body).getD .skip
noncomputable def impl_joiner_root_l0_sh : Sh := ⟨[(0, .one (.ro LI)), (1, .one (.ro I))], []⟩
noncomputable def impl_joiner_root_l0_ex : List (Ex × Sh) := [(.exit 0, ⟨[(1, .one (.ro I))], []⟩)]
noncomputable def impl_joiner_root_l0 {R : Type} (N : Nat) (k0 : Int → Option R) : Nat → (List Int) → Int → Option R
  | 0, _, _ => none
  | K + 1, j1, x1 =>
    (chk (inb j1 x1)
      (br (ine (rdI j1 x1) x1)
      ((chk (inb j1 x1)
        (impl_joiner_root_l0 N k0 K j1 (rdI j1 x1))))
      (k0 x1)))
noncomputable def impl_joiner_root_l0_again {R : Type} (N : Nat) (ks : (j : Nat) → ((impl_joiner_root_l0_ex.getD j (.ret, Sh.none)).2).T → Option R) (k : Nat) (x : impl_joiner_root_l0_sh.T) : Option R :=
  impl_joiner_root_l0 N (fun y0 => ks 0 ((y0, ()), ())) k x.1.1 x.1.2.1
noncomputable def impl_joiner_root_l0_s (N : Nat) : LSum := ⟨impl_joiner_root_l0_sh, impl_joiner_root_l0_ex, fun x ks => impl_joiner_root_l0_again N ks N x⟩
theorem impl_joiner_root_l0_step (N : Nat) (R : Type) (k : Nat) (x : impl_joiner_root_l0_sh.T) (ks : (j : Nat) → ((impl_joiner_root_l0_ex.getD j (.ret, Sh.none)).2).T → Option R) : impl_joiner_root_l0_again N ks (k + 1) x = roundF (impl_joiner_root_G N) tab [] (loopAt impl_joiner_root_code 0) impl_joiner_root_l0_sh impl_joiner_root_l0_ex (fun y => impl_joiner_root_l0_again N ks k y) ks x := by kernel_rfl
theorem impl_joiner_root_l0_ok (N : Nat) : LoopOk Try.prog Try.f206.ntmps (impl_joiner_root_l0_s N) (loopAt impl_joiner_root_code 0) :=
  loop_ok (l := impl_joiner_root_l0_s N) progOk (impl_joiner_root_gok N) (draw_ok progOk (impl_joiner_root_gok N)) (fun R k x ks => impl_joiner_root_l0_again N ks k x) (fun _ _ _ => rfl) (fun R k x ks => impl_joiner_root_l0_step N R k x ks) (fun R x ks r h => ⟨N, h⟩) (lsOk_at (L := []) trivial) (by kernel_rfl) (by kernel_rfl)
noncomputable def impl_joiner_root (N : Nat) (j : (List Int)) (x : Int) : Option ((Int × Unit) × (Unit)) :=
  impl_joiner_root_l0 N (fun x1 => some ((x1, ()), ())) N j x
noncomputable def impl_joiner_root_S (N : Nat) : FSum := ⟨impl_joiner_root_ps, impl_joiner_root_rs, fun x => impl_joiner_root N x.1 x.2.1⟩
theorem impl_joiner_root_run (N : Nat) (x : argsT impl_joiner_root_ps) : impl_joiner_root N x.1 x.2.1 = funF (impl_joiner_root_G N) tab [impl_joiner_root_l0_s N] Try.f206 impl_joiner_root_ps impl_joiner_root_rs x := by kernel_rfl
theorem impl_joiner_root_pc (N : Nat) : PC Try.prog 206 (impl_joiner_root_S N) := by
  have e : impl_joiner_root_S N = ⟨impl_joiner_root_ps, impl_joiner_root_rs, funF (impl_joiner_root_G N) tab [impl_joiner_root_l0_s N] Try.f206 impl_joiner_root_ps impl_joiner_root_rs⟩ := congrArg (FSum.mk impl_joiner_root_ps impl_joiner_root_rs) (funext (impl_joiner_root_run N))
  rw [e]
  exact fun_ok (c := impl_joiner_root_code) progOk (impl_joiner_root_gok N) (draw_ok progOk (impl_joiner_root_gok N)) Try.call206 Try.func206 (by kernel_rfl) (lsOk_at (L := [impl_joiner_root_l0_s N]) ⟨impl_joiner_root_l0_ok N, trivial⟩) (by kernel_rfl) (by kernel_rfl) (by kernel_rfl) (by kernel_rfl) (by kernel_rfl)

/-! ### impl_joiner_join -/
abbrev impl_joiner_join_ps : List (PV.Mode × Ty) := [(.mut, LI), (.ro, QII)]
abbrev impl_joiner_join_rs : List (Bool × Ty) := [(true, .bool)]
noncomputable def impl_joiner_join_G (N : Nat) : GTab := gOf [(206, impl_joiner_root_S N)]
theorem impl_joiner_join_gok (N : Nat) : GOk Try.prog (impl_joiner_join_G N) := gOf_ok ⟨impl_joiner_root_pc N, trivial⟩
noncomputable def impl_joiner_join_code : Code := (Try.f155.body).getD .skip
noncomputable def impl_joiner_join (N : Nat) (j : (List Int)) (e : (Int × Int)) : Option ((Bool × Unit) × ((List Int) × Unit)) :=
  ((impl_joiner_root N j e.1).bind fun r =>
    ((impl_joiner_root N j e.2).bind fun r1 =>
      (chk (inb j r.1.1)
        (some (((ine r.1.1 r1.1.1), ()), ((tSet j r.1.1 r1.1.1), ()))))))
noncomputable def impl_joiner_join_S (N : Nat) : FSum := ⟨impl_joiner_join_ps, impl_joiner_join_rs, fun x => impl_joiner_join N x.1 x.2.1⟩
theorem impl_joiner_join_run (N : Nat) (x : argsT impl_joiner_join_ps) : impl_joiner_join N x.1 x.2.1 = funF (impl_joiner_join_G N) tab [] Try.f155 impl_joiner_join_ps impl_joiner_join_rs x := by kernel_rfl
theorem impl_joiner_join_pc (N : Nat) : PC Try.prog 155 (impl_joiner_join_S N) := by
  have e : impl_joiner_join_S N = ⟨impl_joiner_join_ps, impl_joiner_join_rs, funF (impl_joiner_join_G N) tab [] Try.f155 impl_joiner_join_ps impl_joiner_join_rs⟩ := congrArg (FSum.mk impl_joiner_join_ps impl_joiner_join_rs) (funext (impl_joiner_join_run N))
  rw [e]
  exact fun_ok (c := impl_joiner_join_code) progOk (impl_joiner_join_gok N) (draw_ok progOk (impl_joiner_join_gok N)) Try.call155 Try.func155 (by kernel_rfl) (lsOk_at (L := []) trivial) (by kernel_rfl) (by kernel_rfl) (by kernel_rfl) (by kernel_rfl) (by kernel_rfl)

/-! ### impl_Graph_trees_c1 -/
abbrev impl_Graph_trees_c1_ps : List (PV.Mode × Ty) := [(.ro, I), (.ro, LI), (.mut, BLI), (.ro, AQILQII), (.mut, BLLI), (.ro, S153)]
abbrev impl_Graph_trees_c1_rs : List (Bool × Ty) := [(true, .bool)]
noncomputable def impl_Graph_trees_c1_T (slf : (Int → (List Int) → (List Int) → (Int × (List (Int × Int))) → (List (List Int)) → Unit → Option ((Bool × Unit) × ((List Int) × (List (List Int)) × Unit)))) : FSum := ⟨impl_Graph_trees_c1_ps, impl_Graph_trees_c1_rs, fun x => slf x.1 x.2.1 x.2.2.1 x.2.2.2.1 x.2.2.2.2.1 x.2.2.2.2.2.1⟩
noncomputable def impl_Graph_trees_c1_G (N : Nat) (slf : (Int → (List Int) → (List Int) → (Int × (List (Int × Int))) → (List (List Int)) → Unit → Option ((Bool × Unit) × ((List Int) × (List (List Int)) × Unit)))) : GTab := gOf [(153, impl_Graph_trees_c1_T slf), (142, slices_Clone_LI_int_S N), (154, slices_Clone_impl_joiner_int_S N), (155, impl_joiner_join_S N)]
theorem impl_Graph_trees_c1_gok (N : Nat) (slf : (Int → (List Int) → (List Int) → (Int × (List (Int × Int))) → (List (List Int)) → Unit → Option ((Bool × Unit) × ((List Int) × (List (List Int)) × Unit)))) (hslf : PC Try.prog 153 (impl_Graph_trees_c1_T slf)) : GOk Try.prog (impl_Graph_trees_c1_G N slf) := gOf_ok ⟨hslf, slices_Clone_LI_int_pc N, slices_Clone_impl_joiner_int_pc N, impl_joiner_join_pc N, trivial⟩
noncomputable def impl_Graph_trees_c1_code : Code := (Try.f153.body).getD .skip
noncomputable def impl_Graph_trees_c1_b (N : Nat) (slf : (Int → (List Int) → (List Int) → (Int × (List (Int × Int))) → (List (List Int)) → Unit → Option ((Bool × Unit) × ((List Int) × (List (List Int)) × Unit)))) (c : Int) (c1 : (List Int)) (c2 : (List Int)) (c3 : (Int × (List (Int × Int)))) (c4 : (List (List Int))) (c5 : Unit) : Option ((Bool × Unit) × ((List Int) × (List (List Int)) × Unit)) :=
  (br (ieq (tLen c2) (IntKind.i64.wrap (c3.1 - 1)))
    (((slices_Clone_LI_int N c2).bind fun r =>
      (chk (room c4 [r.1.1])
        (some (((ile (tLen (tApp c4 [r.1.1])) 300), ()), (c2, (tApp c4 [r.1.1]), ()))))))
    ((br (ilt (IntKind.i64.wrap ((tLen c3.2) - c)) (IntKind.i64.wrap ((IntKind.i64.wrap (c3.1 - 1)) - (tLen c2))))
      (some ((true, ()), (c2, c4, ())))
      (((slices_Clone_impl_joiner_int N c1).bind fun r1 =>
        (chk (inb c3.2 c)
          ((impl_joiner_join N r1.1.1 (rdP c3.2 c)).bind fun r2 =>
          (br r2.1.1
            ((chk (room c2 [c])
              ((slf (IntKind.i64.wrap (c + 1)) r2.2.1 (tApp c2 [c]) c3 c4 ()).bind fun r3 =>
              (br (!r3.1.1)
                (some ((false, ()), (r3.2.1, r3.2.2.1, ())))
                ((chk (ile 0 0 && ile 0 (IntKind.i64.wrap ((tLen r3.2.1) - 1)) && ile (IntKind.i64.wrap ((tLen r3.2.1) - 1)) (tLen r3.2.1))
                  ((slf (IntKind.i64.wrap (c + 1)) c1 (tCut r3.2.1 0 (IntKind.i64.wrap ((tLen r3.2.1) - 1))) c3 r3.2.2.1 ()).bind fun r4 =>
                  some ((r4.1.1, ()), (r4.2.1, r4.2.2.1, ())))))))))
            (((slf (IntKind.i64.wrap (c + 1)) c1 c2 c3 c4 ()).bind fun r5 =>
              some ((r5.1.1, ()), (r5.2.1, r5.2.2.1, ()))))))))))))
theorem impl_Graph_trees_c1_run (N : Nat) (slf : (Int → (List Int) → (List Int) → (Int × (List (Int × Int))) → (List (List Int)) → Unit → Option ((Bool × Unit) × ((List Int) × (List (List Int)) × Unit)))) (x : argsT impl_Graph_trees_c1_ps) : impl_Graph_trees_c1_b N slf x.1 x.2.1 x.2.2.1 x.2.2.2.1 x.2.2.2.2.1 x.2.2.2.2.2.1 = funF (impl_Graph_trees_c1_G N slf) tab [] Try.f153 impl_Graph_trees_c1_ps impl_Graph_trees_c1_rs x := by kernel_rfl
theorem impl_Graph_trees_c1_bpc (N : Nat) (slf : (Int → (List Int) → (List Int) → (Int × (List (Int × Int))) → (List (List Int)) → Unit → Option ((Bool × Unit) × ((List Int) × (List (List Int)) × Unit)))) (hslf : PC Try.prog 153 (impl_Graph_trees_c1_T slf)) : PC Try.prog 153 (impl_Graph_trees_c1_T (impl_Graph_trees_c1_b N slf)) := by
  have e : impl_Graph_trees_c1_T (impl_Graph_trees_c1_b N slf) = ⟨impl_Graph_trees_c1_ps, impl_Graph_trees_c1_rs, funF (impl_Graph_trees_c1_G N slf) tab [] Try.f153 impl_Graph_trees_c1_ps impl_Graph_trees_c1_rs⟩ := congrArg (FSum.mk impl_Graph_trees_c1_ps impl_Graph_trees_c1_rs) (funext (impl_Graph_trees_c1_run N slf))
  rw [e]
  exact fun_ok (c := impl_Graph_trees_c1_code) progOk (impl_Graph_trees_c1_gok N slf hslf) (draw_ok progOk (impl_Graph_trees_c1_gok N slf hslf)) Try.call153 Try.func153 (by kernel_rfl) (lsOk_at (L := []) trivial) (by kernel_rfl) (by kernel_rfl) (by kernel_rfl) (by kernel_rfl) (by kernel_rfl)
noncomputable def impl_Graph_trees_c1_r (N : Nat) : Nat → (Int → (List Int) → (List Int) → (Int × (List (Int × Int))) → (List (List Int)) → Unit → Option ((Bool × Unit) × ((List Int) × (List (List Int)) × Unit)))
  | 0 => fun _ _ _ _ _ _ => none
  | K + 1 => impl_Graph_trees_c1_b N (impl_Graph_trees_c1_r N K)
theorem impl_Graph_trees_c1_rpc (N : Nat) : ∀ K, PC Try.prog 153 (impl_Graph_trees_c1_T (impl_Graph_trees_c1_r N K))
  | 0 => pc_none Try.call153
  | K + 1 => impl_Graph_trees_c1_bpc N (impl_Graph_trees_c1_r N K) (impl_Graph_trees_c1_rpc N K)
noncomputable def impl_Graph_trees_c1 (N : Nat) (c : Int) (c1 : (List Int)) (c2 : (List Int)) (c3 : (Int × (List (Int × Int)))) (c4 : (List (List Int))) (c5 : Unit) : Option ((Bool × Unit) × ((List Int) × (List (List Int)) × Unit)) := impl_Graph_trees_c1_r N N c c1 c2 c3 c4 c5
noncomputable def impl_Graph_trees_c1_S (N : Nat) : FSum := ⟨impl_Graph_trees_c1_ps, impl_Graph_trees_c1_rs, fun x => impl_Graph_trees_c1 N x.1 x.2.1 x.2.2.1 x.2.2.2.1 x.2.2.2.2.1 x.2.2.2.2.2.1⟩
theorem impl_Graph_trees_c1_pc (N : Nat) : PC Try.prog 153 (impl_Graph_trees_c1_S N) := impl_Graph_trees_c1_rpc N N

/-! ### impl_Graph_trees -/
abbrev impl_Graph_trees_ps : List (PV.Mode × Ty) := [(.ro, QILQII)]
abbrev impl_Graph_trees_rs : List (Bool × Ty) := [(true, LLI), (true, .bool)]
noncomputable def impl_Graph_trees_G (N : Nat) : GTab := gOf [(156, impl_newJoiner_S N), (153, impl_Graph_trees_c1_S N)]
theorem impl_Graph_trees_gok (N : Nat) : GOk Try.prog (impl_Graph_trees_G N) := gOf_ok ⟨impl_newJoiner_pc N, impl_Graph_trees_c1_pc N, trivial⟩
noncomputable def impl_Graph_trees_code : Code := (Try.f87.body).getD .skip
noncomputable def impl_Graph_trees (N : Nat) (g : (Int × (List (Int × Int)))) : Option (((List (List Int)) × Bool × Unit) × (Unit)) :=
  ((impl_newJoiner N g.1).bind fun r =>
    ((impl_Graph_trees_c1 N 0 r.1.1 [] (g.1, g.2) [] ()).bind fun r1 =>
      (br r1.1.1
        (some ((r1.2.2.1, (ilt 0 (tLen r1.2.2.1)), ()), ()))
        (some ((r1.2.2.1, false, ()), ())))))
noncomputable def impl_Graph_trees_S (N : Nat) : FSum := ⟨impl_Graph_trees_ps, impl_Graph_trees_rs, fun x => impl_Graph_trees N x.1⟩
theorem impl_Graph_trees_run (N : Nat) (x : argsT impl_Graph_trees_ps) : impl_Graph_trees N x.1 = funF (impl_Graph_trees_G N) tab [] Try.f87 impl_Graph_trees_ps impl_Graph_trees_rs x := by kernel_rfl
theorem impl_Graph_trees_pc (N : Nat) : PC Try.prog 87 (impl_Graph_trees_S N) := by
  have e : impl_Graph_trees_S N = ⟨impl_Graph_trees_ps, impl_Graph_trees_rs, funF (impl_Graph_trees_G N) tab [] Try.f87 impl_Graph_trees_ps impl_Graph_trees_rs⟩ := congrArg (FSum.mk impl_Graph_trees_ps impl_Graph_trees_rs) (funext (impl_Graph_trees_run N))
  rw [e]
  exact fun_ok (c := impl_Graph_trees_code) progOk (impl_Graph_trees_gok N) (draw_ok progOk (impl_Graph_trees_gok N)) Try.call87 Try.func87 (by kernel_rfl) (lsOk_at (L := []) trivial) (by kernel_rfl) (by kernel_rfl) (by kernel_rfl) (by kernel_rfl) (by kernel_rfl)

/-! ### impl_SpanningTrees -/
abbrev impl_SpanningTrees_ps : List (PV.Mode × Ty) := [(.ro, QILQII)]
abbrev impl_SpanningTrees_rs : List (Bool × Ty) := [(true, LLI), (true, .bool)]
noncomputable def impl_SpanningTrees_G (N : Nat) : GTab := gOf [(86, impl_IsGraph_S N), (87, impl_Graph_trees_S N)]
theorem impl_SpanningTrees_gok (N : Nat) : GOk Try.prog (impl_SpanningTrees_G N) := gOf_ok ⟨impl_IsGraph_pc N, impl_Graph_trees_pc N, trivial⟩
noncomputable def impl_SpanningTrees_code : Code := (Try.f27.body).getD .skip
noncomputable def impl_SpanningTrees (N : Nat) (g : (Int × (List (Int × Int)))) : Option (((List (List Int)) × Bool × Unit) × (Unit)) :=
  ((impl_IsGraph N (g.1, g.2)).bind fun r =>
    (br (!r.1.1)
      (some (([], false, ()), ()))
      ((br (ieq g.1 0)
        (some (([], false, ()), ()))
        (((impl_Graph_trees N (g.1, g.2)).bind fun r1 =>
          (br (!r1.1.2.1)
            (some (([], false, ()), ()))
            (some ((r1.1.1, true, ()), ())))))))))
noncomputable def impl_SpanningTrees_S (N : Nat) : FSum := ⟨impl_SpanningTrees_ps, impl_SpanningTrees_rs, fun x => impl_SpanningTrees N x.1⟩
theorem impl_SpanningTrees_run (N : Nat) (x : argsT impl_SpanningTrees_ps) : impl_SpanningTrees N x.1 = funF (impl_SpanningTrees_G N) tab [] Try.f27 impl_SpanningTrees_ps impl_SpanningTrees_rs x := by kernel_rfl
theorem impl_SpanningTrees_pc (N : Nat) : PC Try.prog 27 (impl_SpanningTrees_S N) := by
  have e : impl_SpanningTrees_S N = ⟨impl_SpanningTrees_ps, impl_SpanningTrees_rs, funF (impl_SpanningTrees_G N) tab [] Try.f27 impl_SpanningTrees_ps impl_SpanningTrees_rs⟩ := congrArg (FSum.mk impl_SpanningTrees_ps impl_SpanningTrees_rs) (funext (impl_SpanningTrees_run N))
  rw [e]
  exact fun_ok (c := impl_SpanningTrees_code) progOk (impl_SpanningTrees_gok N) (draw_ok progOk (impl_SpanningTrees_gok N)) Try.call27 Try.func27 (by kernel_rfl) (lsOk_at (L := []) trivial) (by kernel_rfl) (by kernel_rfl) (by kernel_rfl) (by kernel_rfl) (by kernel_rfl)

/-! ### laws_eqIntS -/
abbrev laws_eqIntS_ps : List (PV.Mode × Ty) := [(.ro, LI), (.ro, LI)]
abbrev laws_eqIntS_rs : List (Bool × Ty) := [(true, .bool)]
noncomputable def laws_eqIntS_G (N : Nat) : GTab := gOf []
theorem laws_eqIntS_gok (N : Nat) : GOk Try.prog (laws_eqIntS_G N) := gOf_ok trivial
noncomputable def laws_eqIntS_code : Code := (Try.f35.body).getD .skip
noncomputable def laws_eqIntS_l0_sh : Sh := ⟨[(0, .one (.ro LI)), (1, .one (.ro LI)), (5, .one (.ro I))], []⟩
noncomputable def laws_eqIntS_l0_ex : List (Ex × Sh) := [(.ret, ⟨[(4, .one (.ro .bool))], []⟩), (.exit 0, ⟨[], []⟩)]
noncomputable def laws_eqIntS_l0 {R : Type} (N : Nat) (k0 : Bool → Option R) (k1 : Unit → Option R) : Nat → (List Int) → (List Int) → Int → Option R
  | 0, _, _, _ => none
  | K + 1, a1, b1, i =>
    (br (ilt i (tLen a1))
      ((chk (inb a1 i)
        (chk (inb b1 i)
        (br (ine (rdI a1 i) (rdI b1 i))
        (k0 false)
        (laws_eqIntS_l0 N k0 k1 K a1 b1 (IntKind.i64.wrap (i + 1)))))))
      (k1 ()))
noncomputable def laws_eqIntS_l0_again {R : Type} (N : Nat) (ks : (j : Nat) → ((laws_eqIntS_l0_ex.getD j (.ret, Sh.none)).2).T → Option R) (k : Nat) (x : laws_eqIntS_l0_sh.T) : Option R :=
  laws_eqIntS_l0 N (fun y0 => ks 0 ((y0, ()), ())) (fun (_ : Unit) => ks 1 ((), ())) k x.1.1 x.1.2.1 x.1.2.2.1
noncomputable def laws_eqIntS_l0_s (N : Nat) : LSum := ⟨laws_eqIntS_l0_sh, laws_eqIntS_l0_ex, fun x ks => laws_eqIntS_l0_again N ks N x⟩
theorem laws_eqIntS_l0_step (N : Nat) (R : Type) (k : Nat) (x : laws_eqIntS_l0_sh.T) (ks : (j : Nat) → ((laws_eqIntS_l0_ex.getD j (.ret, Sh.none)).2).T → Option R) : laws_eqIntS_l0_again N ks (k + 1) x = roundF (laws_eqIntS_G N) tab [] (loopAt laws_eqIntS_code 0) laws_eqIntS_l0_sh laws_eqIntS_l0_ex (fun y => laws_eqIntS_l0_again N ks k y) ks x := by kernel_rfl
theorem laws_eqIntS_l0_ok (N : Nat) : LoopOk Try.prog Try.f35.ntmps (laws_eqIntS_l0_s N) (loopAt laws_eqIntS_code 0) :=
  loop_ok (l := laws_eqIntS_l0_s N) progOk (laws_eqIntS_gok N) (draw_ok progOk (laws_eqIntS_gok N)) (fun R k x ks => laws_eqIntS_l0_again N ks k x) (fun _ _ _ => rfl) (fun R k x ks => laws_eqIntS_l0_step N R k x ks) (fun R x ks r h => ⟨N, h⟩) (lsOk_at (L := []) trivial) (by kernel_rfl) (by kernel_rfl)
noncomputable def laws_eqIntS (N : Nat) (a : (List Int)) (b : (List Int)) : Option ((Bool × Unit) × (Unit)) :=
  (br (ine (tLen a) (tLen b))
    (some ((false, ()), ()))
    (laws_eqIntS_l0 N (fun x => some ((x, ()), ())) (fun (_ : Unit) => some ((true, ()), ())) N a b 0))
noncomputable def laws_eqIntS_S (N : Nat) : FSum := ⟨laws_eqIntS_ps, laws_eqIntS_rs, fun x => laws_eqIntS N x.1 x.2.1⟩
theorem laws_eqIntS_run (N : Nat) (x : argsT laws_eqIntS_ps) : laws_eqIntS N x.1 x.2.1 = funF (laws_eqIntS_G N) tab [laws_eqIntS_l0_s N] Try.f35 laws_eqIntS_ps laws_eqIntS_rs x := by kernel_rfl
theorem laws_eqIntS_pc (N : Nat) : PC Try.prog 35 (laws_eqIntS_S N) := by
  have e : laws_eqIntS_S N = ⟨laws_eqIntS_ps, laws_eqIntS_rs, funF (laws_eqIntS_G N) tab [laws_eqIntS_l0_s N] Try.f35 laws_eqIntS_ps laws_eqIntS_rs⟩ := congrArg (FSum.mk laws_eqIntS_ps laws_eqIntS_rs) (funext (laws_eqIntS_run N))
  rw [e]
  exact fun_ok (c := laws_eqIntS_code) progOk (laws_eqIntS_gok N) (draw_ok progOk (laws_eqIntS_gok N)) Try.call35 Try.func35 (by kernel_rfl) (lsOk_at (L := [laws_eqIntS_l0_s N]) ⟨laws_eqIntS_l0_ok N, trivial⟩) (by kernel_rfl) (by kernel_rfl) (by kernel_rfl) (by kernel_rfl) (by kernel_rfl)

/-! ### laws_eqIntSS -/
abbrev laws_eqIntSS_ps : List (PV.Mode × Ty) := [(.ro, LLI), (.ro, LLI)]
abbrev laws_eqIntSS_rs : List (Bool × Ty) := [(true, .bool)]
noncomputable def laws_eqIntSS_G (N : Nat) : GTab := gOf [(35, laws_eqIntS_S N)]
theorem laws_eqIntSS_gok (N : Nat) : GOk Try.prog (laws_eqIntSS_G N) := gOf_ok ⟨laws_eqIntS_pc N, trivial⟩
noncomputable def laws_eqIntSS_code : Code := (Try.f19.body).getD .skip
noncomputable def laws_eqIntSS_l0_sh : Sh := ⟨[(0, .one (.ro LLI)), (1, .one (.ro LLI)), (5, .one (.ro I))], []⟩
noncomputable def laws_eqIntSS_l0_ex : List (Ex × Sh) := [(.ret, ⟨[(4, .one (.ro .bool))], []⟩), (.exit 0, ⟨[], []⟩)]
noncomputable def laws_eqIntSS_l0 {R : Type} (N : Nat) (k0 : Bool → Option R) (k1 : Unit → Option R) : Nat → (List (List Int)) → (List (List Int)) → Int → Option R
  | 0, _, _, _ => none
  | K + 1, a1, b1, i =>
    (br (ilt i (tLen a1))
      ((chk (inb a1 i)
        (chk (inb b1 i)
        ((laws_eqIntS N (rdL a1 i) (rdL b1 i)).bind fun r =>
        (br (!r.1.1)
          (k0 false)
          (laws_eqIntSS_l0 N k0 k1 K a1 b1 (IntKind.i64.wrap (i + 1))))))))
      (k1 ()))
noncomputable def laws_eqIntSS_l0_again {R : Type} (N : Nat) (ks : (j : Nat) → ((laws_eqIntSS_l0_ex.getD j (.ret, Sh.none)).2).T → Option R) (k : Nat) (x : laws_eqIntSS_l0_sh.T) : Option R :=
  laws_eqIntSS_l0 N (fun y0 => ks 0 ((y0, ()), ())) (fun (_ : Unit) => ks 1 ((), ())) k x.1.1 x.1.2.1 x.1.2.2.1
noncomputable def laws_eqIntSS_l0_s (N : Nat) : LSum := ⟨laws_eqIntSS_l0_sh, laws_eqIntSS_l0_ex, fun x ks => laws_eqIntSS_l0_again N ks N x⟩
theorem laws_eqIntSS_l0_step (N : Nat) (R : Type) (k : Nat) (x : laws_eqIntSS_l0_sh.T) (ks : (j : Nat) → ((laws_eqIntSS_l0_ex.getD j (.ret, Sh.none)).2).T → Option R) : laws_eqIntSS_l0_again N ks (k + 1) x = roundF (laws_eqIntSS_G N) tab [] (loopAt laws_eqIntSS_code 0) laws_eqIntSS_l0_sh laws_eqIntSS_l0_ex (fun y => laws_eqIntSS_l0_again N ks k y) ks x := by kernel_rfl
theorem laws_eqIntSS_l0_ok (N : Nat) : LoopOk Try.prog Try.f19.ntmps (laws_eqIntSS_l0_s N) (loopAt laws_eqIntSS_code 0) :=
  loop_ok (l := laws_eqIntSS_l0_s N) progOk (laws_eqIntSS_gok N) (draw_ok progOk (laws_eqIntSS_gok N)) (fun R k x ks => laws_eqIntSS_l0_again N ks k x) (fun _ _ _ => rfl) (fun R k x ks => laws_eqIntSS_l0_step N R k x ks) (fun R x ks r h => ⟨N, h⟩) (lsOk_at (L := []) trivial) (by kernel_rfl) (by kernel_rfl)
noncomputable def laws_eqIntSS (N : Nat) (a : (List (List Int))) (b : (List (List Int))) : Option ((Bool × Unit) × (Unit)) :=
  (br (ine (tLen a) (tLen b))
    (some ((false, ()), ()))
    (laws_eqIntSS_l0 N (fun x => some ((x, ()), ())) (fun (_ : Unit) => some ((true, ()), ())) N a b 0))
noncomputable def laws_eqIntSS_S (N : Nat) : FSum := ⟨laws_eqIntSS_ps, laws_eqIntSS_rs, fun x => laws_eqIntSS N x.1 x.2.1⟩
theorem laws_eqIntSS_run (N : Nat) (x : argsT laws_eqIntSS_ps) : laws_eqIntSS N x.1 x.2.1 = funF (laws_eqIntSS_G N) tab [laws_eqIntSS_l0_s N] Try.f19 laws_eqIntSS_ps laws_eqIntSS_rs x := by kernel_rfl
theorem laws_eqIntSS_pc (N : Nat) : PC Try.prog 19 (laws_eqIntSS_S N) := by
  have e : laws_eqIntSS_S N = ⟨laws_eqIntSS_ps, laws_eqIntSS_rs, funF (laws_eqIntSS_G N) tab [laws_eqIntSS_l0_s N] Try.f19 laws_eqIntSS_ps laws_eqIntSS_rs⟩ := congrArg (FSum.mk laws_eqIntSS_ps laws_eqIntSS_rs) (funext (laws_eqIntSS_run N))
  rw [e]
  exact fun_ok (c := laws_eqIntSS_code) progOk (laws_eqIntSS_gok N) (draw_ok progOk (laws_eqIntSS_gok N)) Try.call19 Try.func19 (by kernel_rfl) (lsOk_at (L := [laws_eqIntSS_l0_s N]) ⟨laws_eqIntSS_l0_ok N, trivial⟩) (by kernel_rfl) (by kernel_rfl) (by kernel_rfl) (by kernel_rfl) (by kernel_rfl)

/-! ### laws_eqIntA2 -/
abbrev laws_eqIntA2_ps : List (PV.Mode × Ty) := [(.ro, QII), (.ro, QII)]
abbrev laws_eqIntA2_rs : List (Bool × Ty) := [(true, .bool)]
noncomputable def laws_eqIntA2_G (N : Nat) : GTab := gOf []
theorem laws_eqIntA2_gok (N : Nat) : GOk Try.prog (laws_eqIntA2_G N) := gOf_ok trivial
noncomputable def laws_eqIntA2_code : Code := (Try.f144.body).getD .skip
noncomputable def laws_eqIntA2_l0_sh : Sh := ⟨[(2, .one (.adr 0 0)), (3, .one (.adr 1 0)), (5, .one (.num .i64 0))], [.box [.ro I, .ro I], .box [.ro I, .ro I]]⟩
noncomputable def laws_eqIntA2_l0_ex : List (Ex × Sh) := [(.ret, ⟨[(4, .one (.ro .bool))], []⟩), (.exit 0, ⟨[], []⟩)]
noncomputable def laws_eqIntA2_l0 {R : Type} (N : Nat) (k0 : Bool → Option R) (k1 : Unit → Option R) (_ : Nat) (o4 : Int) (o5 : Int) (o6 : Int) (o7 : Int) : Option R :=
  (br (ine o4 o6)
    (k0 false)
    ((br (ine o5 o7)
      (k0 false)
      (k1 ()))))
noncomputable def laws_eqIntA2_l0_again {R : Type} (N : Nat) (ks : (j : Nat) → ((laws_eqIntA2_l0_ex.getD j (.ret, Sh.none)).2).T → Option R) (x : laws_eqIntA2_l0_sh.T) : Option R :=
  laws_eqIntA2_l0 N (fun y0 => ks 0 ((y0, ()), ())) (fun (_ : Unit) => ks 1 ((), ())) N x.2.1.1 x.2.1.2.1 x.2.2.1.1 x.2.2.1.2.1
noncomputable def laws_eqIntA2_l0_s (N : Nat) : LSum := ⟨laws_eqIntA2_l0_sh, laws_eqIntA2_l0_ex, fun x ks => laws_eqIntA2_l0_again N ks x⟩
theorem laws_eqIntA2_l0_unr (N : Nat) (R : Type) (x : laws_eqIntA2_l0_sh.T) (ks : (j : Nat) → ((laws_eqIntA2_l0_ex.getD j (.ret, Sh.none)).2).T → Option R) : laws_eqIntA2_l0_again N ks x = unrF (laws_eqIntA2_G N) tab (loopAt laws_eqIntA2_code 0) laws_eqIntA2_l0_ex ks 3 (fill laws_eqIntA2_l0_sh x) := by kernel_rfl
theorem laws_eqIntA2_l0_ok (N : Nat) : LoopOk Try.prog Try.f144.ntmps (laws_eqIntA2_l0_s N) (loopAt laws_eqIntA2_code 0) :=
  unroll_ok (l := laws_eqIntA2_l0_s N) progOk (laws_eqIntA2_gok N) (draw_ok progOk (laws_eqIntA2_gok N)) (fun R x ks r h => ⟨3, (laws_eqIntA2_l0_unr N R x ks).symm.trans h⟩) (by kernel_rfl) (by kernel_rfl)
noncomputable def laws_eqIntA2 (N : Nat) (a : (Int × Int)) (b : (Int × Int)) : Option ((Bool × Unit) × (Unit)) :=
  laws_eqIntA2_l0 N (fun x => some ((x, ()), ())) (fun (_ : Unit) => some ((true, ()), ())) N a.1 a.2 b.1 b.2
noncomputable def laws_eqIntA2_S (N : Nat) : FSum := ⟨laws_eqIntA2_ps, laws_eqIntA2_rs, fun x => laws_eqIntA2 N x.1 x.2.1⟩
theorem laws_eqIntA2_run (N : Nat) (x : argsT laws_eqIntA2_ps) : laws_eqIntA2 N x.1 x.2.1 = funF (laws_eqIntA2_G N) tab [laws_eqIntA2_l0_s N] Try.f144 laws_eqIntA2_ps laws_eqIntA2_rs x := by kernel_rfl
theorem laws_eqIntA2_pc (N : Nat) : PC Try.prog 144 (laws_eqIntA2_S N) := by
  have e : laws_eqIntA2_S N = ⟨laws_eqIntA2_ps, laws_eqIntA2_rs, funF (laws_eqIntA2_G N) tab [laws_eqIntA2_l0_s N] Try.f144 laws_eqIntA2_ps laws_eqIntA2_rs⟩ := congrArg (FSum.mk laws_eqIntA2_ps laws_eqIntA2_rs) (funext (laws_eqIntA2_run N))
  rw [e]
  exact fun_ok (c := laws_eqIntA2_code) progOk (laws_eqIntA2_gok N) (draw_ok progOk (laws_eqIntA2_gok N)) Try.call144 Try.func144 (by kernel_rfl) (lsOk_at (L := [laws_eqIntA2_l0_s N]) ⟨laws_eqIntA2_l0_ok N, trivial⟩) (by kernel_rfl) (by kernel_rfl) (by kernel_rfl) (by kernel_rfl) (by kernel_rfl)

/-! ### laws_eqIntA2S -/
abbrev laws_eqIntA2S_ps : List (PV.Mode × Ty) := [(.ro, LQII), (.ro, LQII)]
abbrev laws_eqIntA2S_rs : List (Bool × Ty) := [(true, .bool)]
noncomputable def laws_eqIntA2S_G (N : Nat) : GTab := gOf [(144, laws_eqIntA2_S N)]
theorem laws_eqIntA2S_gok (N : Nat) : GOk Try.prog (laws_eqIntA2S_G N) := gOf_ok ⟨laws_eqIntA2_pc N, trivial⟩
noncomputable def laws_eqIntA2S_code : Code := (Try.f76.body).getD .skip
noncomputable def laws_eqIntA2S_l0_sh : Sh := ⟨[(0, .one (.ro LQII)), (1, .one (.ro LQII)), (5, .one (.ro I))], []⟩
noncomputable def laws_eqIntA2S_l0_ex : List (Ex × Sh) := [(.ret, ⟨[(4, .one (.ro .bool))], []⟩), (.exit 0, ⟨[], []⟩)]
noncomputable def laws_eqIntA2S_l0 {R : Type} (N : Nat) (k0 : Bool → Option R) (k1 : Unit → Option R) : Nat → (List (Int × Int)) → (List (Int × Int)) → Int → Option R
  | 0, _, _, _ => none
  | K + 1, a1, b1, i =>
    (br (ilt i (tLen a1))
      ((chk (inb a1 i)
        (chk (inb b1 i)
        ((laws_eqIntA2 N (rdP a1 i) (rdP b1 i)).bind fun r =>
        (br (!r.1.1)
          (k0 false)
          (laws_eqIntA2S_l0 N k0 k1 K a1 b1 (IntKind.i64.wrap (i + 1))))))))
      (k1 ()))
noncomputable def laws_eqIntA2S_l0_again {R : Type} (N : Nat) (ks : (j : Nat) → ((laws_eqIntA2S_l0_ex.getD j (.ret, Sh.none)).2).T → Option R) (k : Nat) (x : laws_eqIntA2S_l0_sh.T) : Option R :=
  laws_eqIntA2S_l0 N (fun y0 => ks 0 ((y0, ()), ())) (fun (_ : Unit) => ks 1 ((), ())) k x.1.1 x.1.2.1 x.1.2.2.1
noncomputable def laws_eqIntA2S_l0_s (N : Nat) : LSum := ⟨laws_eqIntA2S_l0_sh, laws_eqIntA2S_l0_ex, fun x ks => laws_eqIntA2S_l0_again N ks N x⟩
theorem laws_eqIntA2S_l0_step (N : Nat) (R : Type) (k : Nat) (x : laws_eqIntA2S_l0_sh.T) (ks : (j : Nat) → ((laws_eqIntA2S_l0_ex.getD j (.ret, Sh.none)).2).T → Option R) : laws_eqIntA2S_l0_again N ks (k + 1) x = roundF (laws_eqIntA2S_G N) tab [] (loopAt laws_eqIntA2S_code 0) laws_eqIntA2S_l0_sh laws_eqIntA2S_l0_ex (fun y => laws_eqIntA2S_l0_again N ks k y) ks x := by kernel_rfl
theorem laws_eqIntA2S_l0_ok (N : Nat) : LoopOk Try.prog Try.f76.ntmps (laws_eqIntA2S_l0_s N) (loopAt laws_eqIntA2S_code 0) :=
  loop_ok (l := laws_eqIntA2S_l0_s N) progOk (laws_eqIntA2S_gok N) (draw_ok progOk (laws_eqIntA2S_gok N)) (fun R k x ks => laws_eqIntA2S_l0_again N ks k x) (fun _ _ _ => rfl) (fun R k x ks => laws_eqIntA2S_l0_step N R k x ks) (fun R x ks r h => ⟨N, h⟩) (lsOk_at (L := []) trivial) (by kernel_rfl) (by kernel_rfl)
noncomputable def laws_eqIntA2S (N : Nat) (a : (List (Int × Int))) (b : (List (Int × Int))) : Option ((Bool × Unit) × (Unit)) :=
  (br (ine (tLen a) (tLen b))
    (some ((false, ()), ()))
    (laws_eqIntA2S_l0 N (fun x => some ((x, ()), ())) (fun (_ : Unit) => some ((true, ()), ())) N a b 0))
noncomputable def laws_eqIntA2S_S (N : Nat) : FSum := ⟨laws_eqIntA2S_ps, laws_eqIntA2S_rs, fun x => laws_eqIntA2S N x.1 x.2.1⟩
theorem laws_eqIntA2S_run (N : Nat) (x : argsT laws_eqIntA2S_ps) : laws_eqIntA2S N x.1 x.2.1 = funF (laws_eqIntA2S_G N) tab [laws_eqIntA2S_l0_s N] Try.f76 laws_eqIntA2S_ps laws_eqIntA2S_rs x := by kernel_rfl
theorem laws_eqIntA2S_pc (N : Nat) : PC Try.prog 76 (laws_eqIntA2S_S N) := by
  have e : laws_eqIntA2S_S N = ⟨laws_eqIntA2S_ps, laws_eqIntA2S_rs, funF (laws_eqIntA2S_G N) tab [laws_eqIntA2S_l0_s N] Try.f76 laws_eqIntA2S_ps laws_eqIntA2S_rs⟩ := congrArg (FSum.mk laws_eqIntA2S_ps laws_eqIntA2S_rs) (funext (laws_eqIntA2S_run N))
  rw [e]
  exact fun_ok (c := laws_eqIntA2S_code) progOk (laws_eqIntA2S_gok N) (draw_ok progOk (laws_eqIntA2S_gok N)) Try.call76 Try.func76 (by kernel_rfl) (lsOk_at (L := [laws_eqIntA2S_l0_s N]) ⟨laws_eqIntA2S_l0_ok N, trivial⟩) (by kernel_rfl) (by kernel_rfl) (by kernel_rfl) (by kernel_rfl) (by kernel_rfl)

/-! ### laws_eqGraph -/
abbrev laws_eqGraph_ps : List (PV.Mode × Ty) := [(.ro, QILQII), (.ro, QILQII)]
abbrev laws_eqGraph_rs : List (Bool × Ty) := [(true, .bool)]
noncomputable def laws_eqGraph_G (N : Nat) : GTab := gOf [(76, laws_eqIntA2S_S N)]
theorem laws_eqGraph_gok (N : Nat) : GOk Try.prog (laws_eqGraph_G N) := gOf_ok ⟨laws_eqIntA2S_pc N, trivial⟩
noncomputable def laws_eqGraph_code : Code := (Try.f20.body).getD .skip
noncomputable def laws_eqGraph (N : Nat) (a : (Int × (List (Int × Int)))) (b : (Int × (List (Int × Int)))) : Option ((Bool × Unit) × (Unit)) :=
  (br (ine a.1 b.1)
    (some ((false, ()), ()))
    (((laws_eqIntA2S N a.2 b.2).bind fun r =>
      (br (!r.1.1)
        (some ((false, ()), ()))
        (some ((true, ()), ()))))))
noncomputable def laws_eqGraph_S (N : Nat) : FSum := ⟨laws_eqGraph_ps, laws_eqGraph_rs, fun x => laws_eqGraph N x.1 x.2.1⟩
theorem laws_eqGraph_run (N : Nat) (x : argsT laws_eqGraph_ps) : laws_eqGraph N x.1 x.2.1 = funF (laws_eqGraph_G N) tab [] Try.f20 laws_eqGraph_ps laws_eqGraph_rs x := by kernel_rfl
theorem laws_eqGraph_pc (N : Nat) : PC Try.prog 20 (laws_eqGraph_S N) := by
  have e : laws_eqGraph_S N = ⟨laws_eqGraph_ps, laws_eqGraph_rs, funF (laws_eqGraph_G N) tab [] Try.f20 laws_eqGraph_ps laws_eqGraph_rs⟩ := congrArg (FSum.mk laws_eqGraph_ps laws_eqGraph_rs) (funext (laws_eqGraph_run N))
  rw [e]
  exact fun_ok (c := laws_eqGraph_code) progOk (laws_eqGraph_gok N) (draw_ok progOk (laws_eqGraph_gok N)) Try.call20 Try.func20 (by kernel_rfl) (lsOk_at (L := []) trivial) (by kernel_rfl) (by kernel_rfl) (by kernel_rfl) (by kernel_rfl) (by kernel_rfl)

/-! ### laws_markIntA2S -/
abbrev laws_markIntA2S_ps : List (PV.Mode × Ty) := [(.mut, LQII), (.ro, I)]
abbrev laws_markIntA2S_rs : List (Bool × Ty) := [(true, I)]
noncomputable def laws_markIntA2S_G (N : Nat) : GTab := gOf []
theorem laws_markIntA2S_gok (N : Nat) : GOk Try.prog (laws_markIntA2S_G N) := gOf_ok trivial
noncomputable def laws_markIntA2S_code : Code := (Try.f77.body).getD .skip
noncomputable def laws_markIntA2S_l0_0_sh : Sh := ⟨[(0, .one (.ref 0)), (1, .one (.ro I)), (5, .one (.ro I)), (6, .one (.num .i64 0))], [.sl 137 QII .own]⟩
noncomputable def laws_markIntA2S_l0_0_ex : List (Ex × Sh) := [(.exit 2, ⟨[(0, .one (.ref 0)), (1, .one (.ro I)), (5, .one (.ro I))], [.sl 137 QII .own]⟩)]
noncomputable def laws_markIntA2S_l0_0 {R : Type} (N : Nat) (k0 : Int → Int → (List (Int × Int)) → Option R) (_ : Nat) (kv3 : Int) (i2 : Int) (o2 : (List (Int × Int))) : Option R :=
  (chk (inb o2 i2)
    (chk (inb (tSet o2 i2 (kv3, (rdP o2 i2).2)) i2)
    (k0 (IntKind.i64.wrap ((IntKind.i64.wrap (kv3 + 1)) + 1)) i2 (tSet (tSet o2 i2 (kv3, (rdP o2 i2).2)) i2 ((rdP (tSet o2 i2 (kv3, (rdP o2 i2).2)) i2).1, (IntKind.i64.wrap (kv3 + 1)))))))
noncomputable def laws_markIntA2S_l0_0_again {R : Type} (N : Nat) (ks : (j : Nat) → ((laws_markIntA2S_l0_0_ex.getD j (.ret, Sh.none)).2).T → Option R) (x : laws_markIntA2S_l0_0_sh.T) : Option R :=
  laws_markIntA2S_l0_0 N (fun y0 y1 y2 => ks 0 (((), y0, y1, ()), (y2, ()))) N x.1.2.1 x.1.2.2.1 x.2.1
noncomputable def laws_markIntA2S_l0_0_s (N : Nat) : LSum := ⟨laws_markIntA2S_l0_0_sh, laws_markIntA2S_l0_0_ex, fun x ks => laws_markIntA2S_l0_0_again N ks x⟩
theorem laws_markIntA2S_l0_0_unr (N : Nat) (R : Type) (x : laws_markIntA2S_l0_0_sh.T) (ks : (j : Nat) → ((laws_markIntA2S_l0_0_ex.getD j (.ret, Sh.none)).2).T → Option R) : laws_markIntA2S_l0_0_again N ks x = unrF (laws_markIntA2S_G N) tab (loopAt (loopAt laws_markIntA2S_code 0) 0) laws_markIntA2S_l0_0_ex ks 3 (fill laws_markIntA2S_l0_0_sh x) := by kernel_rfl
theorem laws_markIntA2S_l0_0_ok (N : Nat) : LoopOk Try.prog Try.f77.ntmps (laws_markIntA2S_l0_0_s N) (loopAt (loopAt laws_markIntA2S_code 0) 0) :=
  unroll_ok (l := laws_markIntA2S_l0_0_s N) progOk (laws_markIntA2S_gok N) (draw_ok progOk (laws_markIntA2S_gok N)) (fun R x ks r h => ⟨3, (laws_markIntA2S_l0_0_unr N R x ks).symm.trans h⟩) (by kernel_rfl) (by kernel_rfl)
noncomputable def laws_markIntA2S_l0_sh : Sh := ⟨[(0, .one (.ref 0)), (1, .one (.ro I)), (5, .one (.ro I))], [.sl 137 QII .own]⟩
noncomputable def laws_markIntA2S_l0_ex : List (Ex × Sh) := [(.exit 0, ⟨[(0, .one (.ref 0)), (1, .one (.ro I))], [.sl 137 QII .own]⟩)]
noncomputable def laws_markIntA2S_l0 {R : Type} (N : Nat) (k0 : Int → (List (Int × Int)) → Option R) : Nat → Int → Int → (List (Int × Int)) → Option R
  | 0, _, _, _ => none
  | K + 1, kv1, i, o =>
    (br (ilt i (tLen o))
      (laws_markIntA2S_l0_0 N (fun kv2 i1 o1 => laws_markIntA2S_l0 N k0 K kv2 (IntKind.i64.wrap (i1 + 1)) o1) N kv1 i o)
      (k0 kv1 o))
noncomputable def laws_markIntA2S_l0_again {R : Type} (N : Nat) (ks : (j : Nat) → ((laws_markIntA2S_l0_ex.getD j (.ret, Sh.none)).2).T → Option R) (k : Nat) (x : laws_markIntA2S_l0_sh.T) : Option R :=
  laws_markIntA2S_l0 N (fun y0 y1 => ks 0 (((), y0, ()), (y1, ()))) k x.1.2.1 x.1.2.2.1 x.2.1
noncomputable def laws_markIntA2S_l0_s (N : Nat) : LSum := ⟨laws_markIntA2S_l0_sh, laws_markIntA2S_l0_ex, fun x ks => laws_markIntA2S_l0_again N ks N x⟩
theorem laws_markIntA2S_l0_step (N : Nat) (R : Type) (k : Nat) (x : laws_markIntA2S_l0_sh.T) (ks : (j : Nat) → ((laws_markIntA2S_l0_ex.getD j (.ret, Sh.none)).2).T → Option R) : laws_markIntA2S_l0_again N ks (k + 1) x = roundF (laws_markIntA2S_G N) tab [laws_markIntA2S_l0_0_s N] (loopAt laws_markIntA2S_code 0) laws_markIntA2S_l0_sh laws_markIntA2S_l0_ex (fun y => laws_markIntA2S_l0_again N ks k y) ks x := by kernel_rfl
theorem laws_markIntA2S_l0_ok (N : Nat) : LoopOk Try.prog Try.f77.ntmps (laws_markIntA2S_l0_s N) (loopAt laws_markIntA2S_code 0) :=
  loop_ok (l := laws_markIntA2S_l0_s N) progOk (laws_markIntA2S_gok N) (draw_ok progOk (laws_markIntA2S_gok N)) (fun R k x ks => laws_markIntA2S_l0_again N ks k x) (fun _ _ _ => rfl) (fun R k x ks => laws_markIntA2S_l0_step N R k x ks) (fun R x ks r h => ⟨N, h⟩) (lsOk_at (L := [laws_markIntA2S_l0_0_s N]) ⟨laws_markIntA2S_l0_0_ok N, trivial⟩) (by kernel_rfl) (by kernel_rfl)
noncomputable def laws_markIntA2S (N : Nat) (a : (List (Int × Int))) (kv : Int) : Option ((Int × Unit) × ((List (Int × Int)) × Unit)) :=
  laws_markIntA2S_l0 N (fun kv1 o => some ((kv1, ()), (o, ()))) N kv 0 a
noncomputable def laws_markIntA2S_S (N : Nat) : FSum := ⟨laws_markIntA2S_ps, laws_markIntA2S_rs, fun x => laws_markIntA2S N x.1 x.2.1⟩
theorem laws_markIntA2S_run (N : Nat) (x : argsT laws_markIntA2S_ps) : laws_markIntA2S N x.1 x.2.1 = funF (laws_markIntA2S_G N) tab [laws_markIntA2S_l0_s N] Try.f77 laws_markIntA2S_ps laws_markIntA2S_rs x := by kernel_rfl
theorem laws_markIntA2S_pc (N : Nat) : PC Try.prog 77 (laws_markIntA2S_S N) := by
  have e : laws_markIntA2S_S N = ⟨laws_markIntA2S_ps, laws_markIntA2S_rs, funF (laws_markIntA2S_G N) tab [laws_markIntA2S_l0_s N] Try.f77 laws_markIntA2S_ps laws_markIntA2S_rs⟩ := congrArg (FSum.mk laws_markIntA2S_ps laws_markIntA2S_rs) (funext (laws_markIntA2S_run N))
  rw [e]
  exact fun_ok (c := laws_markIntA2S_code) progOk (laws_markIntA2S_gok N) (draw_ok progOk (laws_markIntA2S_gok N)) Try.call77 Try.func77 (by kernel_rfl) (lsOk_at (L := [laws_markIntA2S_l0_s N]) ⟨laws_markIntA2S_l0_ok N, trivial⟩) (by kernel_rfl) (by kernel_rfl) (by kernel_rfl) (by kernel_rfl) (by kernel_rfl)

/-! ### laws_markGraph -/
abbrev laws_markGraph_ps : List (PV.Mode × Ty) := [(.mut, QILQII), (.ro, I)]
abbrev laws_markGraph_rs : List (Bool × Ty) := [(true, I)]
noncomputable def laws_markGraph_G (N : Nat) : GTab := gOf [(77, laws_markIntA2S_S N)]
theorem laws_markGraph_gok (N : Nat) : GOk Try.prog (laws_markGraph_G N) := gOf_ok ⟨laws_markIntA2S_pc N, trivial⟩
noncomputable def laws_markGraph_code : Code := (Try.f21.body).getD .skip
noncomputable def laws_markGraph (N : Nat) (a : (Int × (List (Int × Int)))) (kv : Int) : Option ((Int × Unit) × ((Int × (List (Int × Int))) × Unit)) :=
  ((laws_markIntA2S N a.2 kv).bind fun r =>
    some ((r.1.1, ()), ((a.1, r.2.1), ())))
noncomputable def laws_markGraph_S (N : Nat) : FSum := ⟨laws_markGraph_ps, laws_markGraph_rs, fun x => laws_markGraph N x.1 x.2.1⟩
theorem laws_markGraph_run (N : Nat) (x : argsT laws_markGraph_ps) : laws_markGraph N x.1 x.2.1 = funF (laws_markGraph_G N) tab [] Try.f21 laws_markGraph_ps laws_markGraph_rs x := by kernel_rfl
theorem laws_markGraph_pc (N : Nat) : PC Try.prog 21 (laws_markGraph_S N) := by
  have e : laws_markGraph_S N = ⟨laws_markGraph_ps, laws_markGraph_rs, funF (laws_markGraph_G N) tab [] Try.f21 laws_markGraph_ps laws_markGraph_rs⟩ := congrArg (FSum.mk laws_markGraph_ps laws_markGraph_rs) (funext (laws_markGraph_run N))
  rw [e]
  exact fun_ok (c := laws_markGraph_code) progOk (laws_markGraph_gok N) (draw_ok progOk (laws_markGraph_gok N)) Try.call21 Try.func21 (by kernel_rfl) (lsOk_at (L := []) trivial) (by kernel_rfl) (by kernel_rfl) (by kernel_rfl) (by kernel_rfl) (by kernel_rfl)

/-! ### laws_markIntS -/
abbrev laws_markIntS_ps : List (PV.Mode × Ty) := [(.mut, LI), (.ro, I)]
abbrev laws_markIntS_rs : List (Bool × Ty) := [(true, I)]
noncomputable def laws_markIntS_G (N : Nat) : GTab := gOf []
theorem laws_markIntS_gok (N : Nat) : GOk Try.prog (laws_markIntS_G N) := gOf_ok trivial
noncomputable def laws_markIntS_code : Code := (Try.f36.body).getD .skip
noncomputable def laws_markIntS_l0_sh : Sh := ⟨[(0, .one (.ref 0)), (1, .one (.ro I)), (5, .one (.ro I))], [.sl 3 I .own]⟩
noncomputable def laws_markIntS_l0_ex : List (Ex × Sh) := [(.exit 0, ⟨[(0, .one (.ref 0)), (1, .one (.ro I))], [.sl 3 I .own]⟩)]
noncomputable def laws_markIntS_l0 {R : Type} (N : Nat) (k0 : Int → (List Int) → Option R) : Nat → Int → Int → (List Int) → Option R
  | 0, _, _, _ => none
  | K + 1, kv1, i, o =>
    (br (ilt i (tLen o))
      ((chk (inb o i)
        (laws_markIntS_l0 N k0 K (IntKind.i64.wrap (kv1 + 1)) (IntKind.i64.wrap (i + 1)) (tSet o i kv1))))
      (k0 kv1 o))
noncomputable def laws_markIntS_l0_again {R : Type} (N : Nat) (ks : (j : Nat) → ((laws_markIntS_l0_ex.getD j (.ret, Sh.none)).2).T → Option R) (k : Nat) (x : laws_markIntS_l0_sh.T) : Option R :=
  laws_markIntS_l0 N (fun y0 y1 => ks 0 (((), y0, ()), (y1, ()))) k x.1.2.1 x.1.2.2.1 x.2.1
noncomputable def laws_markIntS_l0_s (N : Nat) : LSum := ⟨laws_markIntS_l0_sh, laws_markIntS_l0_ex, fun x ks => laws_markIntS_l0_again N ks N x⟩
theorem laws_markIntS_l0_step (N : Nat) (R : Type) (k : Nat) (x : laws_markIntS_l0_sh.T) (ks : (j : Nat) → ((laws_markIntS_l0_ex.getD j (.ret, Sh.none)).2).T → Option R) : laws_markIntS_l0_again N ks (k + 1) x = roundF (laws_markIntS_G N) tab [] (loopAt laws_markIntS_code 0) laws_markIntS_l0_sh laws_markIntS_l0_ex (fun y => laws_markIntS_l0_again N ks k y) ks x := by kernel_rfl
theorem laws_markIntS_l0_ok (N : Nat) : LoopOk Try.prog Try.f36.ntmps (laws_markIntS_l0_s N) (loopAt laws_markIntS_code 0) :=
  loop_ok (l := laws_markIntS_l0_s N) progOk (laws_markIntS_gok N) (draw_ok progOk (laws_markIntS_gok N)) (fun R k x ks => laws_markIntS_l0_again N ks k x) (fun _ _ _ => rfl) (fun R k x ks => laws_markIntS_l0_step N R k x ks) (fun R x ks r h => ⟨N, h⟩) (lsOk_at (L := []) trivial) (by kernel_rfl) (by kernel_rfl)
noncomputable def laws_markIntS (N : Nat) (a : (List Int)) (kv : Int) : Option ((Int × Unit) × ((List Int) × Unit)) :=
  laws_markIntS_l0 N (fun kv1 o => some ((kv1, ()), (o, ()))) N kv 0 a
noncomputable def laws_markIntS_S (N : Nat) : FSum := ⟨laws_markIntS_ps, laws_markIntS_rs, fun x => laws_markIntS N x.1 x.2.1⟩
theorem laws_markIntS_run (N : Nat) (x : argsT laws_markIntS_ps) : laws_markIntS N x.1 x.2.1 = funF (laws_markIntS_G N) tab [laws_markIntS_l0_s N] Try.f36 laws_markIntS_ps laws_markIntS_rs x := by kernel_rfl
theorem laws_markIntS_pc (N : Nat) : PC Try.prog 36 (laws_markIntS_S N) := by
  have e : laws_markIntS_S N = ⟨laws_markIntS_ps, laws_markIntS_rs, funF (laws_markIntS_G N) tab [laws_markIntS_l0_s N] Try.f36 laws_markIntS_ps laws_markIntS_rs⟩ := congrArg (FSum.mk laws_markIntS_ps laws_markIntS_rs) (funext (laws_markIntS_run N))
  rw [e]
  exact fun_ok (c := laws_markIntS_code) progOk (laws_markIntS_gok N) (draw_ok progOk (laws_markIntS_gok N)) Try.call36 Try.func36 (by kernel_rfl) (lsOk_at (L := [laws_markIntS_l0_s N]) ⟨laws_markIntS_l0_ok N, trivial⟩) (by kernel_rfl) (by kernel_rfl) (by kernel_rfl) (by kernel_rfl) (by kernel_rfl)

/-! ### laws_markIntSS -/
abbrev laws_markIntSS_ps : List (PV.Mode × Ty) := [(.mut, LLI), (.ro, I)]
abbrev laws_markIntSS_rs : List (Bool × Ty) := [(true, I)]
noncomputable def laws_markIntSS_G (N : Nat) : GTab := gOf [(36, laws_markIntS_S N)]
theorem laws_markIntSS_gok (N : Nat) : GOk Try.prog (laws_markIntSS_G N) := gOf_ok ⟨laws_markIntS_pc N, trivial⟩
noncomputable def laws_markIntSS_code : Code := (Try.f22.body).getD .skip
noncomputable def laws_markIntSS_l0_sh : Sh := ⟨[(0, .one (.ref 0)), (1, .one (.ro I)), (5, .one (.ro I))], [.sl 42 LI .deep]⟩
noncomputable def laws_markIntSS_l0_ex : List (Ex × Sh) := [(.exit 0, ⟨[(0, .one (.ref 0)), (1, .one (.ro I))], [.sl 42 LI .deep]⟩)]
noncomputable def laws_markIntSS_l0 {R : Type} (N : Nat) (k0 : Int → (List (List Int)) → Option R) : Nat → Int → Int → (List (List Int)) → Option R
  | 0, _, _, _ => none
  | K + 1, kv1, i, o =>
    (br (ilt i (tLen o))
      ((chk (inb o i)
        ((laws_markIntS N (rdL o i) kv1).bind fun r =>
        laws_markIntSS_l0 N k0 K r.1.1 (IntKind.i64.wrap (i + 1)) (tSet o i r.2.1))))
      (k0 kv1 o))
noncomputable def laws_markIntSS_l0_again {R : Type} (N : Nat) (ks : (j : Nat) → ((laws_markIntSS_l0_ex.getD j (.ret, Sh.none)).2).T → Option R) (k : Nat) (x : laws_markIntSS_l0_sh.T) : Option R :=
  laws_markIntSS_l0 N (fun y0 y1 => ks 0 (((), y0, ()), (y1, ()))) k x.1.2.1 x.1.2.2.1 x.2.1
noncomputable def laws_markIntSS_l0_s (N : Nat) : LSum := ⟨laws_markIntSS_l0_sh, laws_markIntSS_l0_ex, fun x ks => laws_markIntSS_l0_again N ks N x⟩
theorem laws_markIntSS_l0_step (N : Nat) (R : Type) (k : Nat) (x : laws_markIntSS_l0_sh.T) (ks : (j : Nat) → ((laws_markIntSS_l0_ex.getD j (.ret, Sh.none)).2).T → Option R) : laws_markIntSS_l0_again N ks (k + 1) x = roundF (laws_markIntSS_G N) tab [] (loopAt laws_markIntSS_code 0) laws_markIntSS_l0_sh laws_markIntSS_l0_ex (fun y => laws_markIntSS_l0_again N ks k y) ks x := by kernel_rfl
theorem laws_markIntSS_l0_ok (N : Nat) : LoopOk Try.prog Try.f22.ntmps (laws_markIntSS_l0_s N) (loopAt laws_markIntSS_code 0) :=
  loop_ok (l := laws_markIntSS_l0_s N) progOk (laws_markIntSS_gok N) (draw_ok progOk (laws_markIntSS_gok N)) (fun R k x ks => laws_markIntSS_l0_again N ks k x) (fun _ _ _ => rfl) (fun R k x ks => laws_markIntSS_l0_step N R k x ks) (fun R x ks r h => ⟨N, h⟩) (lsOk_at (L := []) trivial) (by kernel_rfl) (by kernel_rfl)
noncomputable def laws_markIntSS (N : Nat) (a : (List (List Int))) (kv : Int) : Option ((Int × Unit) × ((List (List Int)) × Unit)) :=
  laws_markIntSS_l0 N (fun kv1 o => some ((kv1, ()), (o, ()))) N kv 0 a
noncomputable def laws_markIntSS_S (N : Nat) : FSum := ⟨laws_markIntSS_ps, laws_markIntSS_rs, fun x => laws_markIntSS N x.1 x.2.1⟩
theorem laws_markIntSS_run (N : Nat) (x : argsT laws_markIntSS_ps) : laws_markIntSS N x.1 x.2.1 = funF (laws_markIntSS_G N) tab [laws_markIntSS_l0_s N] Try.f22 laws_markIntSS_ps laws_markIntSS_rs x := by kernel_rfl
theorem laws_markIntSS_pc (N : Nat) : PC Try.prog 22 (laws_markIntSS_S N) := by
  have e : laws_markIntSS_S N = ⟨laws_markIntSS_ps, laws_markIntSS_rs, funF (laws_markIntSS_G N) tab [laws_markIntSS_l0_s N] Try.f22 laws_markIntSS_ps laws_markIntSS_rs⟩ := congrArg (FSum.mk laws_markIntSS_ps laws_markIntSS_rs) (funext (laws_markIntSS_run N))
  rw [e]
  exact fun_ok (c := laws_markIntSS_code) progOk (laws_markIntSS_gok N) (draw_ok progOk (laws_markIntSS_gok N)) Try.call22 Try.func22 (by kernel_rfl) (lsOk_at (L := [laws_markIntSS_l0_s N]) ⟨laws_markIntSS_l0_ok N, trivial⟩) (by kernel_rfl) (by kernel_rfl) (by kernel_rfl) (by kernel_rfl) (by kernel_rfl)

/-! ### laws_heldIntS -/
abbrev laws_heldIntS_ps : List (PV.Mode × Ty) := [(.ro, LI), (.ro, I)]
abbrev laws_heldIntS_rs : List (Bool × Ty) := [(true, I)]
noncomputable def laws_heldIntS_G (N : Nat) : GTab := gOf []
theorem laws_heldIntS_gok (N : Nat) : GOk Try.prog (laws_heldIntS_G N) := gOf_ok trivial
noncomputable def laws_heldIntS_code : Code := (Try.f37.body).getD .skip
noncomputable def laws_heldIntS_l0_sh : Sh := ⟨[(0, .one (.ro LI)), (1, .one (.ro I)), (5, .one (.ro I))], []⟩
noncomputable def laws_heldIntS_l0_ex : List (Ex × Sh) := [(.ret, ⟨[(4, .one (.ro I))], []⟩), (.exit 0, ⟨[(1, .one (.ro I))], []⟩)]
noncomputable def laws_heldIntS_l0 {R : Type} (N : Nat) (k0 : Int → Option R) (k1 : Int → Option R) : Nat → (List Int) → Int → Int → Option R
  | 0, _, _, _ => none
  | K + 1, a1, kv1, i =>
    (br (ilt i (tLen a1))
      ((chk (inb a1 i)
        (br (ine (rdI a1 i) kv1)
        (k0 (-1))
        (laws_heldIntS_l0 N k0 k1 K a1 (IntKind.i64.wrap (kv1 + 1)) (IntKind.i64.wrap (i + 1))))))
      (k1 kv1))
noncomputable def laws_heldIntS_l0_again {R : Type} (N : Nat) (ks : (j : Nat) → ((laws_heldIntS_l0_ex.getD j (.ret, Sh.none)).2).T → Option R) (k : Nat) (x : laws_heldIntS_l0_sh.T) : Option R :=
  laws_heldIntS_l0 N (fun y0 => ks 0 ((y0, ()), ())) (fun y0 => ks 1 ((y0, ()), ())) k x.1.1 x.1.2.1 x.1.2.2.1
noncomputable def laws_heldIntS_l0_s (N : Nat) : LSum := ⟨laws_heldIntS_l0_sh, laws_heldIntS_l0_ex, fun x ks => laws_heldIntS_l0_again N ks N x⟩
theorem laws_heldIntS_l0_step (N : Nat) (R : Type) (k : Nat) (x : laws_heldIntS_l0_sh.T) (ks : (j : Nat) → ((laws_heldIntS_l0_ex.getD j (.ret, Sh.none)).2).T → Option R) : laws_heldIntS_l0_again N ks (k + 1) x = roundF (laws_heldIntS_G N) tab [] (loopAt laws_heldIntS_code 0) laws_heldIntS_l0_sh laws_heldIntS_l0_ex (fun y => laws_heldIntS_l0_again N ks k y) ks x := by kernel_rfl
theorem laws_heldIntS_l0_ok (N : Nat) : LoopOk Try.prog Try.f37.ntmps (laws_heldIntS_l0_s N) (loopAt laws_heldIntS_code 0) :=
  loop_ok (l := laws_heldIntS_l0_s N) progOk (laws_heldIntS_gok N) (draw_ok progOk (laws_heldIntS_gok N)) (fun R k x ks => laws_heldIntS_l0_again N ks k x) (fun _ _ _ => rfl) (fun R k x ks => laws_heldIntS_l0_step N R k x ks) (fun R x ks r h => ⟨N, h⟩) (lsOk_at (L := []) trivial) (by kernel_rfl) (by kernel_rfl)
noncomputable def laws_heldIntS (N : Nat) (a : (List Int)) (kv : Int) : Option ((Int × Unit) × (Unit)) :=
  laws_heldIntS_l0 N (fun x => some ((x, ()), ())) (fun kv1 => some ((kv1, ()), ())) N a kv 0
noncomputable def laws_heldIntS_S (N : Nat) : FSum := ⟨laws_heldIntS_ps, laws_heldIntS_rs, fun x => laws_heldIntS N x.1 x.2.1⟩
theorem laws_heldIntS_run (N : Nat) (x : argsT laws_heldIntS_ps) : laws_heldIntS N x.1 x.2.1 = funF (laws_heldIntS_G N) tab [laws_heldIntS_l0_s N] Try.f37 laws_heldIntS_ps laws_heldIntS_rs x := by kernel_rfl
theorem laws_heldIntS_pc (N : Nat) : PC Try.prog 37 (laws_heldIntS_S N) := by
  have e : laws_heldIntS_S N = ⟨laws_heldIntS_ps, laws_heldIntS_rs, funF (laws_heldIntS_G N) tab [laws_heldIntS_l0_s N] Try.f37 laws_heldIntS_ps laws_heldIntS_rs⟩ := congrArg (FSum.mk laws_heldIntS_ps laws_heldIntS_rs) (funext (laws_heldIntS_run N))
  rw [e]
  exact fun_ok (c := laws_heldIntS_code) progOk (laws_heldIntS_gok N) (draw_ok progOk (laws_heldIntS_gok N)) Try.call37 Try.func37 (by kernel_rfl) (lsOk_at (L := [laws_heldIntS_l0_s N]) ⟨laws_heldIntS_l0_ok N, trivial⟩) (by kernel_rfl) (by kernel_rfl) (by kernel_rfl) (by kernel_rfl) (by kernel_rfl)

/-! ### laws_heldIntSS -/
abbrev laws_heldIntSS_ps : List (PV.Mode × Ty) := [(.ro, LLI), (.ro, I)]
abbrev laws_heldIntSS_rs : List (Bool × Ty) := [(true, I)]
noncomputable def laws_heldIntSS_G (N : Nat) : GTab := gOf [(37, laws_heldIntS_S N)]
theorem laws_heldIntSS_gok (N : Nat) : GOk Try.prog (laws_heldIntSS_G N) := gOf_ok ⟨laws_heldIntS_pc N, trivial⟩
noncomputable def laws_heldIntSS_code : Code := (Try.f23.body).getD .skip
noncomputable def laws_heldIntSS_l0_sh : Sh := ⟨[(0, .one (.ro LLI)), (1, .one (.ro I)), (5, .one (.ro I))], []⟩
noncomputable def laws_heldIntSS_l0_ex : List (Ex × Sh) := [(.ret, ⟨[(4, .one (.ro I))], []⟩), (.exit 0, ⟨[(1, .one (.ro I))], []⟩)]
noncomputable def laws_heldIntSS_l0 {R : Type} (N : Nat) (k0 : Int → Option R) (k1 : Int → Option R) : Nat → (List (List Int)) → Int → Int → Option R
  | 0, _, _, _ => none
  | K + 1, a1, kv1, i =>
    (br (ilt i (tLen a1))
      ((chk (inb a1 i)
        ((laws_heldIntS N (rdL a1 i) kv1).bind fun r =>
        (br (ilt r.1.1 0)
          (k0 (-1))
          (laws_heldIntSS_l0 N k0 k1 K a1 r.1.1 (IntKind.i64.wrap (i + 1)))))))
      (k1 kv1))
noncomputable def laws_heldIntSS_l0_again {R : Type} (N : Nat) (ks : (j : Nat) → ((laws_heldIntSS_l0_ex.getD j (.ret, Sh.none)).2).T → Option R) (k : Nat) (x : laws_heldIntSS_l0_sh.T) : Option R :=
  laws_heldIntSS_l0 N (fun y0 => ks 0 ((y0, ()), ())) (fun y0 => ks 1 ((y0, ()), ())) k x.1.1 x.1.2.1 x.1.2.2.1
noncomputable def laws_heldIntSS_l0_s (N : Nat) : LSum := ⟨laws_heldIntSS_l0_sh, laws_heldIntSS_l0_ex, fun x ks => laws_heldIntSS_l0_again N ks N x⟩
theorem laws_heldIntSS_l0_step (N : Nat) (R : Type) (k : Nat) (x : laws_heldIntSS_l0_sh.T) (ks : (j : Nat) → ((laws_heldIntSS_l0_ex.getD j (.ret, Sh.none)).2).T → Option R) : laws_heldIntSS_l0_again N ks (k + 1) x = roundF (laws_heldIntSS_G N) tab [] (loopAt laws_heldIntSS_code 0) laws_heldIntSS_l0_sh laws_heldIntSS_l0_ex (fun y => laws_heldIntSS_l0_again N ks k y) ks x := by kernel_rfl
theorem laws_heldIntSS_l0_ok (N : Nat) : LoopOk Try.prog Try.f23.ntmps (laws_heldIntSS_l0_s N) (loopAt laws_heldIntSS_code 0) :=
  loop_ok (l := laws_heldIntSS_l0_s N) progOk (laws_heldIntSS_gok N) (draw_ok progOk (laws_heldIntSS_gok N)) (fun R k x ks => laws_heldIntSS_l0_again N ks k x) (fun _ _ _ => rfl) (fun R k x ks => laws_heldIntSS_l0_step N R k x ks) (fun R x ks r h => ⟨N, h⟩) (lsOk_at (L := []) trivial) (by kernel_rfl) (by kernel_rfl)
noncomputable def laws_heldIntSS (N : Nat) (a : (List (List Int))) (kv : Int) : Option ((Int × Unit) × (Unit)) :=
  laws_heldIntSS_l0 N (fun x => some ((x, ()), ())) (fun kv1 => some ((kv1, ()), ())) N a kv 0
noncomputable def laws_heldIntSS_S (N : Nat) : FSum := ⟨laws_heldIntSS_ps, laws_heldIntSS_rs, fun x => laws_heldIntSS N x.1 x.2.1⟩
theorem laws_heldIntSS_run (N : Nat) (x : argsT laws_heldIntSS_ps) : laws_heldIntSS N x.1 x.2.1 = funF (laws_heldIntSS_G N) tab [laws_heldIntSS_l0_s N] Try.f23 laws_heldIntSS_ps laws_heldIntSS_rs x := by kernel_rfl
theorem laws_heldIntSS_pc (N : Nat) : PC Try.prog 23 (laws_heldIntSS_S N) := by
  have e : laws_heldIntSS_S N = ⟨laws_heldIntSS_ps, laws_heldIntSS_rs, funF (laws_heldIntSS_G N) tab [laws_heldIntSS_l0_s N] Try.f23 laws_heldIntSS_ps laws_heldIntSS_rs⟩ := congrArg (FSum.mk laws_heldIntSS_ps laws_heldIntSS_rs) (funext (laws_heldIntSS_run N))
  rw [e]
  exact fun_ok (c := laws_heldIntSS_code) progOk (laws_heldIntSS_gok N) (draw_ok progOk (laws_heldIntSS_gok N)) Try.call23 Try.func23 (by kernel_rfl) (lsOk_at (L := [laws_heldIntSS_l0_s N]) ⟨laws_heldIntSS_l0_ok N, trivial⟩) (by kernel_rfl) (by kernel_rfl) (by kernel_rfl) (by kernel_rfl) (by kernel_rfl)

/-! ### laws_FnExactSpanningTrees -/
abbrev laws_FnExactSpanningTrees_ps : List (PV.Mode × Ty) := [(.ro, QILQII)]
abbrev laws_FnExactSpanningTrees_rs : List (Bool × Ty) := [(true, .bool)]
noncomputable def laws_FnExactSpanningTrees_G (N : Nat) : GTab := gOf [(15, laws_szGraph_S N), (17, laws_toGraph_S N), (26, spec_SpanningTrees_S N), (27, impl_SpanningTrees_S N), (19, laws_eqIntSS_S N), (20, laws_eqGraph_S N), (21, laws_markGraph_S N), (22, laws_markIntSS_S N), (23, laws_heldIntSS_S N)]
theorem laws_FnExactSpanningTrees_gok (N : Nat) : GOk Try.prog (laws_FnExactSpanningTrees_G N) := gOf_ok ⟨laws_szGraph_pc N, laws_toGraph_pc N, spec_SpanningTrees_pc N, impl_SpanningTrees_pc N, laws_eqIntSS_pc N, laws_eqGraph_pc N, laws_markGraph_pc N, laws_markIntSS_pc N, laws_heldIntSS_pc N, trivial⟩
noncomputable def laws_FnExactSpanningTrees_code : Code := (Try.f5.body).getD .skip
noncomputable def laws_FnExactSpanningTrees (N : Nat) (c : (Int × (List (Int × Int)))) : Option ((Bool × Unit) × (Unit)) :=
  ((laws_szGraph N (c.1, c.2) 1048576).bind fun r =>
    (br (ilt r.1.1 0)
      (some ((true, ()), ()))
      (((laws_toGraph N (c.1, c.2)).bind fun r1 =>
        ((spec_SpanningTrees N (r1.1.1.1, r1.1.1.2)).bind fun r2 =>
          ((laws_toGraph N (c.1, c.2)).bind fun r3 =>
            ((impl_SpanningTrees N (r3.1.1.1, r3.1.1.2)).bind fun r4 =>
              ((laws_eqIntSS N r4.1.1 r2.1.1).bind fun r5 =>
                (br (!r5.1.1)
                  (some ((false, ()), ()))
                  ((br (!(r4.1.2.1 == r2.1.2.1))
                    (some ((false, ()), ()))
                    (((laws_toGraph N (c.1, c.2)).bind fun r6 =>
                      ((laws_eqGraph N (r3.1.1.1, r3.1.1.2) (r6.1.1.1, r6.1.1.2)).bind fun r7 =>
                        (br (!r7.1.1)
                          (some ((false, ()), ()))
                          (((laws_markGraph N (r3.1.1.1, r3.1.1.2) 1).bind fun r8 =>
                            (br (ilt r8.1.1 0)
                              (some ((false, ()), ()))
                              (((laws_eqIntSS N r4.1.1 r2.1.1).bind fun r9 =>
                                (br (!r9.1.1)
                                  (some ((false, ()), ()))
                                  ((br (!(r4.1.2.1 == r2.1.2.1))
                                    (some ((false, ()), ()))
                                    (((laws_markIntSS N r4.1.1 1).bind fun r10 =>
                                      ((laws_heldIntSS N r10.2.1 1).bind fun r11 =>
                                        (br (ilt r11.1.1 0)
                                          (some ((false, ()), ()))
                                          ((br (ine r11.1.1 r10.1.1)
                                            (some ((false, ()), ()))
                                            (((laws_toGraph N (c.1, c.2)).bind fun r12 =>
                                              ((impl_SpanningTrees N (r12.1.1.1, r12.1.1.2)).bind fun r13 =>
                                                ((laws_eqIntSS N r13.1.1 r2.1.1).bind fun r14 =>
                                                  (br (!r14.1.1)
                                                    (some ((false, ()), ()))
                                                    ((br (!(r13.1.2.1 == r2.1.2.1))
                                                      (some ((false, ()), ()))
                                                      (((laws_heldIntSS N r10.2.1 1).bind fun r15 =>
                                                        (br (ilt r15.1.1 0)
                                                          (some ((false, ()), ()))
                                                          ((br (ine r15.1.1 r10.1.1)
                                                            (some ((false, ()), ()))
                                                            (some ((true, ()), ())))))))))))))))))))))))))))))))))))))))))))
noncomputable def laws_FnExactSpanningTrees_S (N : Nat) : FSum := ⟨laws_FnExactSpanningTrees_ps, laws_FnExactSpanningTrees_rs, fun x => laws_FnExactSpanningTrees N x.1⟩
theorem laws_FnExactSpanningTrees_run (N : Nat) (x : argsT laws_FnExactSpanningTrees_ps) : laws_FnExactSpanningTrees N x.1 = funF (laws_FnExactSpanningTrees_G N) tab [] Try.f5 laws_FnExactSpanningTrees_ps laws_FnExactSpanningTrees_rs x := by kernel_rfl
theorem laws_FnExactSpanningTrees_pc (N : Nat) : PC Try.prog 5 (laws_FnExactSpanningTrees_S N) := by
  have e : laws_FnExactSpanningTrees_S N = ⟨laws_FnExactSpanningTrees_ps, laws_FnExactSpanningTrees_rs, funF (laws_FnExactSpanningTrees_G N) tab [] Try.f5 laws_FnExactSpanningTrees_ps laws_FnExactSpanningTrees_rs⟩ := congrArg (FSum.mk laws_FnExactSpanningTrees_ps laws_FnExactSpanningTrees_rs) (funext (laws_FnExactSpanningTrees_run N))
  rw [e]
  exact fun_ok (c := laws_FnExactSpanningTrees_code) progOk (laws_FnExactSpanningTrees_gok N) (draw_ok progOk (laws_FnExactSpanningTrees_gok N)) Try.call5 Try.func5 (by kernel_rfl) (lsOk_at (L := []) trivial) (by kernel_rfl) (by kernel_rfl) (by kernel_rfl) (by kernel_rfl) (by kernel_rfl)
end Go.Proofs.Ytfbkjgeaoafejaa
