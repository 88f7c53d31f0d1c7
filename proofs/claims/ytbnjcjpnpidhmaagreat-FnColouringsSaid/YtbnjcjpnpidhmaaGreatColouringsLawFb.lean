/- Functions of the program as functions on data. -/
import Derived.Test.YtbnjcjpnpidhmaaGreatColouringsLawFa
set_option linter.all false
namespace Go.Proofs.YtbnjcjpnpidhmaaGreat
open Go Go.PV
/-! ### impl_IsGraph -/
abbrev impl_IsGraph_ps : List (PV.Mode × Ty) := [(.ro, QILQII)]
abbrev impl_IsGraph_rs : List (Bool × Ty) := [(true, .bool)]
noncomputable def impl_IsGraph_G (N : Nat) : GTab := gOf [(204, impl_between_S N), (232, impl_isPairs_S N)]
theorem impl_IsGraph_gok (N : Nat) : GOk Tryz.prog (impl_IsGraph_G N) := gOf_ok ⟨impl_between_pc N, impl_isPairs_pc N, trivial⟩
noncomputable def impl_IsGraph_code : Code := (Tryz.f138.body).getD .skip
noncomputable def impl_IsGraph (N : Nat) (g : (Int × (List (Int × Int)))) : Option ((Bool × Unit) × (Unit)) :=
  ((impl_between N g.1 0 8).bind fun r =>
    (br r.1.1
      (((impl_isPairs N g.2 g.1).bind fun r1 =>
        some ((r1.1.1, ()), ())))
      (some ((false, ()), ()))))
noncomputable def impl_IsGraph_S (N : Nat) : FSum := ⟨impl_IsGraph_ps, impl_IsGraph_rs, fun x => impl_IsGraph N x.1⟩
theorem impl_IsGraph_run (N : Nat) (x : argsT impl_IsGraph_ps) : impl_IsGraph N x.1 = funF (impl_IsGraph_G N) tab [] Tryz.f138 impl_IsGraph_ps impl_IsGraph_rs x := by kernel_rfl
theorem impl_IsGraph_pc (N : Nat) : PC Tryz.prog 138 (impl_IsGraph_S N) := by
  have e : impl_IsGraph_S N = ⟨impl_IsGraph_ps, impl_IsGraph_rs, funF (impl_IsGraph_G N) tab [] Tryz.f138 impl_IsGraph_ps impl_IsGraph_rs⟩ := congrArg (FSum.mk impl_IsGraph_ps impl_IsGraph_rs) (funext (impl_IsGraph_run N))
  rw [e]
  exact fun_ok (c := impl_IsGraph_code) progOk (impl_IsGraph_gok N) (draw_ok progOk (impl_IsGraph_gok N)) Tryz.call138 Tryz.func138 (by kernel_rfl) (lsOk_at (L := []) trivial) (by kernel_rfl) (by kernel_rfl) (by kernel_rfl) (by kernel_rfl) (by kernel_rfl)

/-! ### impl_isColourCase -/
abbrev impl_isColourCase_ps : List (PV.Mode × Ty) := [(.ro, QILQII), (.ro, I)]
abbrev impl_isColourCase_rs : List (Bool × Ty) := [(true, .bool)]
noncomputable def impl_isColourCase_G (N : Nat) : GTab := gOf [(138, impl_IsGraph_S N), (204, impl_between_S N)]
theorem impl_isColourCase_gok (N : Nat) : GOk Tryz.prog (impl_isColourCase_G N) := gOf_ok ⟨impl_IsGraph_pc N, impl_between_pc N, trivial⟩
noncomputable def impl_isColourCase_code : Code := (Tryz.f190.body).getD .skip
noncomputable def impl_isColourCase (N : Nat) (g : (Int × (List (Int × Int)))) (kv : Int) : Option ((Bool × Unit) × (Unit)) :=
  ((impl_IsGraph N (g.1, g.2)).bind fun r =>
    (br r.1.1
      (((impl_between N kv 1 5).bind fun r1 =>
        some ((r1.1.1, ()), ())))
      (some ((false, ()), ()))))
noncomputable def impl_isColourCase_S (N : Nat) : FSum := ⟨impl_isColourCase_ps, impl_isColourCase_rs, fun x => impl_isColourCase N x.1 x.2.1⟩
theorem impl_isColourCase_run (N : Nat) (x : argsT impl_isColourCase_ps) : impl_isColourCase N x.1 x.2.1 = funF (impl_isColourCase_G N) tab [] Tryz.f190 impl_isColourCase_ps impl_isColourCase_rs x := by kernel_rfl
theorem impl_isColourCase_pc (N : Nat) : PC Tryz.prog 190 (impl_isColourCase_S N) := by
  have e : impl_isColourCase_S N = ⟨impl_isColourCase_ps, impl_isColourCase_rs, funF (impl_isColourCase_G N) tab [] Tryz.f190 impl_isColourCase_ps impl_isColourCase_rs⟩ := congrArg (FSum.mk impl_isColourCase_ps impl_isColourCase_rs) (funext (impl_isColourCase_run N))
  rw [e]
  exact fun_ok (c := impl_isColourCase_code) progOk (impl_isColourCase_gok N) (draw_ok progOk (impl_isColourCase_gok N)) Tryz.call190 Tryz.func190 (by kernel_rfl) (lsOk_at (L := []) trivial) (by kernel_rfl) (by kernel_rfl) (by kernel_rfl) (by kernel_rfl) (by kernel_rfl)

/-! ### slices_Clone_LI_int -/
abbrev slices_Clone_LI_int_ps : List (PV.Mode × Ty) := [(.ro, LI)]
abbrev slices_Clone_LI_int_rs : List (Bool × Ty) := [(true, LI)]
noncomputable def slices_Clone_LI_int_G (N : Nat) : GTab := gOf []
theorem slices_Clone_LI_int_gok (N : Nat) : GOk Tryz.prog (slices_Clone_LI_int_G N) := gOf_ok trivial
noncomputable def slices_Clone_LI_int_code : Code := (Tryz.f242.body).getD .skip
noncomputable def slices_Clone_LI_int (N : Nat) (s : (List Int)) : Option (((List Int) × Unit) × (Unit)) :=
  (br (ieq (tLen s) 0)
    ((amb
      (some (([], ()), ()))
      ((chk (room (α := Int) (β := Int) [] s)
        (some (((tApp [] s), ()), ()))))))
    ((chk (room (α := Int) (β := Int) [] s)
      (some (((tApp [] s), ()), ())))))
noncomputable def slices_Clone_LI_int_S (N : Nat) : FSum := ⟨slices_Clone_LI_int_ps, slices_Clone_LI_int_rs, fun x => slices_Clone_LI_int N x.1⟩
theorem slices_Clone_LI_int_run (N : Nat) (x : argsT slices_Clone_LI_int_ps) : slices_Clone_LI_int N x.1 = funF (slices_Clone_LI_int_G N) tab [] Tryz.f242 slices_Clone_LI_int_ps slices_Clone_LI_int_rs x := by kernel_rfl
theorem slices_Clone_LI_int_pc (N : Nat) : PC Tryz.prog 242 (slices_Clone_LI_int_S N) := by
  have e : slices_Clone_LI_int_S N = ⟨slices_Clone_LI_int_ps, slices_Clone_LI_int_rs, funF (slices_Clone_LI_int_G N) tab [] Tryz.f242 slices_Clone_LI_int_ps slices_Clone_LI_int_rs⟩ := congrArg (FSum.mk slices_Clone_LI_int_ps slices_Clone_LI_int_rs) (funext (slices_Clone_LI_int_run N))
  rw [e]
  exact fun_ok (c := slices_Clone_LI_int_code) progOk (slices_Clone_LI_int_gok N) (draw_ok progOk (slices_Clone_LI_int_gok N)) Tryz.call242 Tryz.func242 (by kernel_rfl) (lsOk_at (L := []) trivial) (by kernel_rfl) (by kernel_rfl) (by kernel_rfl) (by kernel_rfl) (by kernel_rfl)

/-! ### impl_pair -/
abbrev impl_pair_ps : List (PV.Mode × Ty) := [(.ro, I), (.ro, I)]
abbrev impl_pair_rs : List (Bool × Ty) := [(true, QII)]
noncomputable def impl_pair_G (N : Nat) : GTab := gOf []
theorem impl_pair_gok (N : Nat) : GOk Tryz.prog (impl_pair_G N) := gOf_ok trivial
noncomputable def impl_pair_code : Code := (Tryz.f170.body).getD .skip
noncomputable def impl_pair (N : Nat) (a : Int) (b : Int) : Option (((Int × Int) × Unit) × (Unit)) :=
  some ((((if b < a then b else a), (if b > a then b else a)), ()), ())
noncomputable def impl_pair_S (N : Nat) : FSum := ⟨impl_pair_ps, impl_pair_rs, fun x => impl_pair N x.1 x.2.1⟩
theorem impl_pair_run (N : Nat) (x : argsT impl_pair_ps) : impl_pair N x.1 x.2.1 = funF (impl_pair_G N) tab [] Tryz.f170 impl_pair_ps impl_pair_rs x := by kernel_rfl
theorem impl_pair_pc (N : Nat) : PC Tryz.prog 170 (impl_pair_S N) := by
  have e : impl_pair_S N = ⟨impl_pair_ps, impl_pair_rs, funF (impl_pair_G N) tab [] Tryz.f170 impl_pair_ps impl_pair_rs⟩ := congrArg (FSum.mk impl_pair_ps impl_pair_rs) (funext (impl_pair_run N))
  rw [e]
  exact fun_ok (c := impl_pair_code) progOk (impl_pair_gok N) (draw_ok progOk (impl_pair_gok N)) Tryz.call170 Tryz.func170 (by kernel_rfl) (lsOk_at (L := []) trivial) (by kernel_rfl) (by kernel_rfl) (by kernel_rfl) (by kernel_rfl) (by kernel_rfl)

/-! ### slices_Index_LP_P2 -/
abbrev slices_Index_LP_P2_ps : List (PV.Mode × Ty) := [(.ro, LQII), (.ro, QII)]
abbrev slices_Index_LP_P2_rs : List (Bool × Ty) := [(true, I)]
noncomputable def slices_Index_LP_P2_G (N : Nat) : GTab := gOf []
theorem slices_Index_LP_P2_gok (N : Nat) : GOk Tryz.prog (slices_Index_LP_P2_G N) := gOf_ok trivial
noncomputable def slices_Index_LP_P2_code : Code := (Tryz.f299.body).getD .skip
noncomputable def slices_Index_LP_P2_l0_sh : Sh := ⟨[(0, .one (.ro LQII)), (3, .one (.adr 0 0)), (7, .one (.ro I)), (8, .one (.ro I))], [.box [.ro I, .ro I]]⟩
noncomputable def slices_Index_LP_P2_l0_ex : List (Ex × Sh) := [(.ret, ⟨[(4, .one (.ro I))], []⟩), (.exit 0, ⟨[], []⟩)]
noncomputable def slices_Index_LP_P2_l0 {R : Type} (N : Nat) (k0 : Int → Option R) (k1 : Unit → Option R) : Nat → (List (Int × Int)) → Int → Int → Int → Int → Option R
  | 0, _, _, _, _, _ => none
  | K + 1, s1, x, x1, o, o1 =>
    (br (ilt x1 x)
      ((chk (inb s1 x1)
        (br (ieq o ((rdP s1 x1).1) && ieq o1 ((rdP s1 x1).2))
        (k0 x1)
        (slices_Index_LP_P2_l0 N k0 k1 K s1 x (IntKind.i64.wrap (x1 + 1)) o o1))))
      (k1 ()))
noncomputable def slices_Index_LP_P2_l0_again {R : Type} (N : Nat) (ks : (j : Nat) → ((slices_Index_LP_P2_l0_ex.getD j (.ret, Sh.none)).2).T → Option R) (k : Nat) (x : slices_Index_LP_P2_l0_sh.T) : Option R :=
  slices_Index_LP_P2_l0 N (fun y0 => ks 0 ((y0, ()), ())) (fun (_ : Unit) => ks 1 ((), ())) k x.1.1 x.1.2.2.1 x.1.2.2.2.1 x.2.1.1 x.2.1.2.1
noncomputable def slices_Index_LP_P2_l0_s (N : Nat) : LSum := ⟨slices_Index_LP_P2_l0_sh, slices_Index_LP_P2_l0_ex, fun x ks => slices_Index_LP_P2_l0_again N ks N x⟩
theorem slices_Index_LP_P2_l0_step (N : Nat) (R : Type) (k : Nat) (x : slices_Index_LP_P2_l0_sh.T) (ks : (j : Nat) → ((slices_Index_LP_P2_l0_ex.getD j (.ret, Sh.none)).2).T → Option R) : slices_Index_LP_P2_l0_again N ks (k + 1) x = roundF (slices_Index_LP_P2_G N) tab [] (loopAt slices_Index_LP_P2_code 0) slices_Index_LP_P2_l0_sh slices_Index_LP_P2_l0_ex (fun y => slices_Index_LP_P2_l0_again N ks k y) ks x := by kernel_rfl
theorem slices_Index_LP_P2_l0_ok (N : Nat) : LoopOk Tryz.prog Tryz.f299.ntmps (slices_Index_LP_P2_l0_s N) (loopAt slices_Index_LP_P2_code 0) :=
  loop_ok (l := slices_Index_LP_P2_l0_s N) progOk (slices_Index_LP_P2_gok N) (draw_ok progOk (slices_Index_LP_P2_gok N)) (fun R k x ks => slices_Index_LP_P2_l0_again N ks k x) (fun _ _ _ => rfl) (fun R k x ks => slices_Index_LP_P2_l0_step N R k x ks) (fun R x ks r h => ⟨N, h⟩) (lsOk_at (L := []) trivial) (by kernel_rfl) (by kernel_rfl)
noncomputable def slices_Index_LP_P2 (N : Nat) (s : (List (Int × Int))) (v : (Int × Int)) : Option ((Int × Unit) × (Unit)) :=
  slices_Index_LP_P2_l0 N (fun x => some ((x, ()), ())) (fun (_ : Unit) => some (((-1), ()), ())) N s (tLen s) 0 v.1 v.2
noncomputable def slices_Index_LP_P2_S (N : Nat) : FSum := ⟨slices_Index_LP_P2_ps, slices_Index_LP_P2_rs, fun x => slices_Index_LP_P2 N x.1 x.2.1⟩
theorem slices_Index_LP_P2_run (N : Nat) (x : argsT slices_Index_LP_P2_ps) : slices_Index_LP_P2 N x.1 x.2.1 = funF (slices_Index_LP_P2_G N) tab [slices_Index_LP_P2_l0_s N] Tryz.f299 slices_Index_LP_P2_ps slices_Index_LP_P2_rs x := by kernel_rfl
theorem slices_Index_LP_P2_pc (N : Nat) : PC Tryz.prog 299 (slices_Index_LP_P2_S N) := by
  have e : slices_Index_LP_P2_S N = ⟨slices_Index_LP_P2_ps, slices_Index_LP_P2_rs, funF (slices_Index_LP_P2_G N) tab [slices_Index_LP_P2_l0_s N] Tryz.f299 slices_Index_LP_P2_ps slices_Index_LP_P2_rs⟩ := congrArg (FSum.mk slices_Index_LP_P2_ps slices_Index_LP_P2_rs) (funext (slices_Index_LP_P2_run N))
  rw [e]
  exact fun_ok (c := slices_Index_LP_P2_code) progOk (slices_Index_LP_P2_gok N) (draw_ok progOk (slices_Index_LP_P2_gok N)) Tryz.call299 Tryz.func299 (by kernel_rfl) (lsOk_at (L := [slices_Index_LP_P2_l0_s N]) ⟨slices_Index_LP_P2_l0_ok N, trivial⟩) (by kernel_rfl) (by kernel_rfl) (by kernel_rfl) (by kernel_rfl) (by kernel_rfl)

/-! ### slices_Contains_LP_P2 -/
abbrev slices_Contains_LP_P2_ps : List (PV.Mode × Ty) := [(.ro, LQII), (.ro, QII)]
abbrev slices_Contains_LP_P2_rs : List (Bool × Ty) := [(true, .bool)]
noncomputable def slices_Contains_LP_P2_G (N : Nat) : GTab := gOf [(299, slices_Index_LP_P2_S N)]
theorem slices_Contains_LP_P2_gok (N : Nat) : GOk Tryz.prog (slices_Contains_LP_P2_G N) := gOf_ok ⟨slices_Index_LP_P2_pc N, trivial⟩
noncomputable def slices_Contains_LP_P2_code : Code := (Tryz.f240.body).getD .skip
noncomputable def slices_Contains_LP_P2 (N : Nat) (s : (List (Int × Int))) (v : (Int × Int)) : Option ((Bool × Unit) × (Unit)) :=
  ((slices_Index_LP_P2 N s (v.1, v.2)).bind fun r =>
    some (((ile 0 r.1.1), ()), ()))
noncomputable def slices_Contains_LP_P2_S (N : Nat) : FSum := ⟨slices_Contains_LP_P2_ps, slices_Contains_LP_P2_rs, fun x => slices_Contains_LP_P2 N x.1 x.2.1⟩
theorem slices_Contains_LP_P2_run (N : Nat) (x : argsT slices_Contains_LP_P2_ps) : slices_Contains_LP_P2 N x.1 x.2.1 = funF (slices_Contains_LP_P2_G N) tab [] Tryz.f240 slices_Contains_LP_P2_ps slices_Contains_LP_P2_rs x := by kernel_rfl
theorem slices_Contains_LP_P2_pc (N : Nat) : PC Tryz.prog 240 (slices_Contains_LP_P2_S N) := by
  have e : slices_Contains_LP_P2_S N = ⟨slices_Contains_LP_P2_ps, slices_Contains_LP_P2_rs, funF (slices_Contains_LP_P2_G N) tab [] Tryz.f240 slices_Contains_LP_P2_ps slices_Contains_LP_P2_rs⟩ := congrArg (FSum.mk slices_Contains_LP_P2_ps slices_Contains_LP_P2_rs) (funext (slices_Contains_LP_P2_run N))
  rw [e]
  exact fun_ok (c := slices_Contains_LP_P2_code) progOk (slices_Contains_LP_P2_gok N) (draw_ok progOk (slices_Contains_LP_P2_gok N)) Tryz.call240 Tryz.func240 (by kernel_rfl) (lsOk_at (L := []) trivial) (by kernel_rfl) (by kernel_rfl) (by kernel_rfl) (by kernel_rfl) (by kernel_rfl)

/-! ### impl_Graph_has -/
abbrev impl_Graph_has_ps : List (PV.Mode × Ty) := [(.ro, QILQII), (.ro, I), (.ro, I)]
abbrev impl_Graph_has_rs : List (Bool × Ty) := [(true, .bool)]
noncomputable def impl_Graph_has_G (N : Nat) : GTab := gOf [(170, impl_pair_S N), (240, slices_Contains_LP_P2_S N)]
theorem impl_Graph_has_gok (N : Nat) : GOk Tryz.prog (impl_Graph_has_G N) := gOf_ok ⟨impl_pair_pc N, slices_Contains_LP_P2_pc N, trivial⟩
noncomputable def impl_Graph_has_code : Code := (Tryz.f148.body).getD .skip
noncomputable def impl_Graph_has (N : Nat) (g : (Int × (List (Int × Int)))) (a : Int) (b : Int) : Option ((Bool × Unit) × (Unit)) :=
  ((impl_pair N a b).bind fun r =>
    ((slices_Contains_LP_P2 N g.2 (r.1.1.1, r.1.1.2)).bind fun r1 =>
      some ((r1.1.1, ()), ())))
noncomputable def impl_Graph_has_S (N : Nat) : FSum := ⟨impl_Graph_has_ps, impl_Graph_has_rs, fun x => impl_Graph_has N x.1 x.2.1 x.2.2.1⟩
theorem impl_Graph_has_run (N : Nat) (x : argsT impl_Graph_has_ps) : impl_Graph_has N x.1 x.2.1 x.2.2.1 = funF (impl_Graph_has_G N) tab [] Tryz.f148 impl_Graph_has_ps impl_Graph_has_rs x := by kernel_rfl
theorem impl_Graph_has_pc (N : Nat) : PC Tryz.prog 148 (impl_Graph_has_S N) := by
  have e : impl_Graph_has_S N = ⟨impl_Graph_has_ps, impl_Graph_has_rs, funF (impl_Graph_has_G N) tab [] Tryz.f148 impl_Graph_has_ps impl_Graph_has_rs⟩ := congrArg (FSum.mk impl_Graph_has_ps impl_Graph_has_rs) (funext (impl_Graph_has_run N))
  rw [e]
  exact fun_ok (c := impl_Graph_has_code) progOk (impl_Graph_has_gok N) (draw_ok progOk (impl_Graph_has_gok N)) Tryz.call148 Tryz.func148 (by kernel_rfl) (lsOk_at (L := []) trivial) (by kernel_rfl) (by kernel_rfl) (by kernel_rfl) (by kernel_rfl) (by kernel_rfl)

/-! ### impl_Graph_neighbors -/
abbrev impl_Graph_neighbors_ps : List (PV.Mode × Ty) := [(.ro, QILQII), (.ro, I)]
abbrev impl_Graph_neighbors_rs : List (Bool × Ty) := [(true, LI)]
noncomputable def impl_Graph_neighbors_G (N : Nat) : GTab := gOf [(148, impl_Graph_has_S N)]
theorem impl_Graph_neighbors_gok (N : Nat) : GOk Tryz.prog (impl_Graph_neighbors_G N) := gOf_ok ⟨impl_Graph_has_pc N, trivial⟩
noncomputable def impl_Graph_neighbors_code : Code := (Tryz.f193.body).getD .skip
noncomputable def impl_Graph_neighbors_l0_sh : Sh := ⟨[(1, .one (.ro I)), (2, .one (.adr 0 0)), (5, .one (.ref 1)), (9, .one (.ro I)), (10, .one (.ro I))], [.box [.ro I, .ro LQII], .sl 3 I .own]⟩
noncomputable def impl_Graph_neighbors_l0_ex : List (Ex × Sh) := [(.exit 0, ⟨[(5, .one (.ref 0))], [.sl 3 I .own]⟩)]
noncomputable def impl_Graph_neighbors_l0 {R : Type} (N : Nat) (k0 : (List Int) → Option R) : Nat → Int → Int → Int → Int → (List (Int × Int)) → (List Int) → Option R
  | 0, _, _, _, _, _, _ => none
  | K + 1, x1, x2, x3, o, o1, o2 =>
    (br (ilt x3 x2)
      ((br (ine x3 x1)
        (((impl_Graph_has N (o, o1) x1 x3).bind fun r =>
          (br r.1.1
            ((chk (room o2 [x3])
              (impl_Graph_neighbors_l0 N k0 K x1 x2 (IntKind.i64.wrap (x3 + 1)) o o1 (tApp o2 [x3]))))
            (impl_Graph_neighbors_l0 N k0 K x1 x2 (IntKind.i64.wrap (x3 + 1)) o o1 o2))))
        (impl_Graph_neighbors_l0 N k0 K x1 x2 (IntKind.i64.wrap (x3 + 1)) o o1 o2)))
      (k0 o2))
noncomputable def impl_Graph_neighbors_l0_again {R : Type} (N : Nat) (ks : (j : Nat) → ((impl_Graph_neighbors_l0_ex.getD j (.ret, Sh.none)).2).T → Option R) (k : Nat) (x : impl_Graph_neighbors_l0_sh.T) : Option R :=
  impl_Graph_neighbors_l0 N (fun y0 => ks 0 (((), ()), (y0, ()))) k x.1.1 x.1.2.2.2.1 x.1.2.2.2.2.1 x.2.1.1 x.2.1.2.1 x.2.2.1
noncomputable def impl_Graph_neighbors_l0_s (N : Nat) : LSum := ⟨impl_Graph_neighbors_l0_sh, impl_Graph_neighbors_l0_ex, fun x ks => impl_Graph_neighbors_l0_again N ks N x⟩
theorem impl_Graph_neighbors_l0_step (N : Nat) (R : Type) (k : Nat) (x : impl_Graph_neighbors_l0_sh.T) (ks : (j : Nat) → ((impl_Graph_neighbors_l0_ex.getD j (.ret, Sh.none)).2).T → Option R) : impl_Graph_neighbors_l0_again N ks (k + 1) x = roundF (impl_Graph_neighbors_G N) tab [] (loopAt impl_Graph_neighbors_code 0) impl_Graph_neighbors_l0_sh impl_Graph_neighbors_l0_ex (fun y => impl_Graph_neighbors_l0_again N ks k y) ks x := by kernel_rfl
theorem impl_Graph_neighbors_l0_ok (N : Nat) : LoopOk Tryz.prog Tryz.f193.ntmps (impl_Graph_neighbors_l0_s N) (loopAt impl_Graph_neighbors_code 0) :=
  loop_ok (l := impl_Graph_neighbors_l0_s N) progOk (impl_Graph_neighbors_gok N) (draw_ok progOk (impl_Graph_neighbors_gok N)) (fun R k x ks => impl_Graph_neighbors_l0_again N ks k x) (fun _ _ _ => rfl) (fun R k x ks => impl_Graph_neighbors_l0_step N R k x ks) (fun R x ks r h => ⟨N, h⟩) (lsOk_at (L := []) trivial) (by kernel_rfl) (by kernel_rfl)
noncomputable def impl_Graph_neighbors (N : Nat) (g : (Int × (List (Int × Int)))) (x : Int) : Option (((List Int) × Unit) × (Unit)) :=
  impl_Graph_neighbors_l0 N (fun o => some ((o, ()), ())) N x g.1 0 g.1 g.2 []
noncomputable def impl_Graph_neighbors_S (N : Nat) : FSum := ⟨impl_Graph_neighbors_ps, impl_Graph_neighbors_rs, fun x => impl_Graph_neighbors N x.1 x.2.1⟩
theorem impl_Graph_neighbors_run (N : Nat) (x : argsT impl_Graph_neighbors_ps) : impl_Graph_neighbors N x.1 x.2.1 = funF (impl_Graph_neighbors_G N) tab [impl_Graph_neighbors_l0_s N] Tryz.f193 impl_Graph_neighbors_ps impl_Graph_neighbors_rs x := by kernel_rfl
theorem impl_Graph_neighbors_pc (N : Nat) : PC Tryz.prog 193 (impl_Graph_neighbors_S N) := by
  have e : impl_Graph_neighbors_S N = ⟨impl_Graph_neighbors_ps, impl_Graph_neighbors_rs, funF (impl_Graph_neighbors_G N) tab [impl_Graph_neighbors_l0_s N] Tryz.f193 impl_Graph_neighbors_ps impl_Graph_neighbors_rs⟩ := congrArg (FSum.mk impl_Graph_neighbors_ps impl_Graph_neighbors_rs) (funext (impl_Graph_neighbors_run N))
  rw [e]
  exact fun_ok (c := impl_Graph_neighbors_code) progOk (impl_Graph_neighbors_gok N) (draw_ok progOk (impl_Graph_neighbors_gok N)) Tryz.call193 Tryz.func193 (by kernel_rfl) (lsOk_at (L := [impl_Graph_neighbors_l0_s N]) ⟨impl_Graph_neighbors_l0_ok N, trivial⟩) (by kernel_rfl) (by kernel_rfl) (by kernel_rfl) (by kernel_rfl) (by kernel_rfl)

/-! ### slices_IndexFunc_LI_int -/
abbrev slices_IndexFunc_LI_int_ps : List (PV.Mode × Ty) := [(.ro, LI), (.ro, FIBo)]
abbrev slices_IndexFunc_LI_int_rs : List (Bool × Ty) := [(true, I)]
noncomputable def slices_IndexFunc_LI_int_G (N : Nat) : GTab := gOf []
theorem slices_IndexFunc_LI_int_gok (N : Nat) : GOk Tryz.prog (slices_IndexFunc_LI_int_G N) := gOf_ok trivial
noncomputable def slices_IndexFunc_LI_int_code : Code := (Tryz.f324.body).getD .skip
noncomputable def slices_IndexFunc_LI_int_l0_sh : Sh := ⟨[(0, .one (.ro LI)), (1, .one (.ro FIBo)), (7, .one (.ro I)), (8, .one (.ro I))], []⟩
noncomputable def slices_IndexFunc_LI_int_l0_ex : List (Ex × Sh) := [(.ret, ⟨[(4, .one (.ro I))], []⟩), (.exit 0, ⟨[], []⟩)]
noncomputable def slices_IndexFunc_LI_int_l0 {R : Type} (N : Nat) (k0 : Int → Option R) (k1 : Unit → Option R) : Nat → (List Int) → (Int → Option Bool) → Int → Int → Option R
  | 0, _, _, _, _ => none
  | K + 1, s1, f1, x, x1 =>
    (br (ilt x1 x)
      ((chk (inb s1 x1)
        ((f1 (rdI s1 x1)).bind fun v =>
        (br v
        (k0 x1)
        (slices_IndexFunc_LI_int_l0 N k0 k1 K s1 f1 x (IntKind.i64.wrap (x1 + 1)))))))
      (k1 ()))
noncomputable def slices_IndexFunc_LI_int_l0_again {R : Type} (N : Nat) (ks : (j : Nat) → ((slices_IndexFunc_LI_int_l0_ex.getD j (.ret, Sh.none)).2).T → Option R) (k : Nat) (x : slices_IndexFunc_LI_int_l0_sh.T) : Option R :=
  slices_IndexFunc_LI_int_l0 N (fun y0 => ks 0 ((y0, ()), ())) (fun (_ : Unit) => ks 1 ((), ())) k x.1.1 x.1.2.1 x.1.2.2.1 x.1.2.2.2.1
noncomputable def slices_IndexFunc_LI_int_l0_s (N : Nat) : LSum := ⟨slices_IndexFunc_LI_int_l0_sh, slices_IndexFunc_LI_int_l0_ex, fun x ks => slices_IndexFunc_LI_int_l0_again N ks N x⟩
theorem slices_IndexFunc_LI_int_l0_step (N : Nat) (R : Type) (k : Nat) (x : slices_IndexFunc_LI_int_l0_sh.T) (ks : (j : Nat) → ((slices_IndexFunc_LI_int_l0_ex.getD j (.ret, Sh.none)).2).T → Option R) : slices_IndexFunc_LI_int_l0_again N ks (k + 1) x = roundF (slices_IndexFunc_LI_int_G N) tab [] (loopAt slices_IndexFunc_LI_int_code 0) slices_IndexFunc_LI_int_l0_sh slices_IndexFunc_LI_int_l0_ex (fun y => slices_IndexFunc_LI_int_l0_again N ks k y) ks x := by kernel_rfl
theorem slices_IndexFunc_LI_int_l0_ok (N : Nat) : LoopOk Tryz.prog Tryz.f324.ntmps (slices_IndexFunc_LI_int_l0_s N) (loopAt slices_IndexFunc_LI_int_code 0) :=
  loop_ok (l := slices_IndexFunc_LI_int_l0_s N) progOk (slices_IndexFunc_LI_int_gok N) (draw_ok progOk (slices_IndexFunc_LI_int_gok N)) (fun R k x ks => slices_IndexFunc_LI_int_l0_again N ks k x) (fun _ _ _ => rfl) (fun R k x ks => slices_IndexFunc_LI_int_l0_step N R k x ks) (fun R x ks r h => ⟨N, h⟩) (lsOk_at (L := []) trivial) (by kernel_rfl) (by kernel_rfl)
noncomputable def slices_IndexFunc_LI_int (N : Nat) (s : (List Int)) (f : (Int → Option Bool)) : Option ((Int × Unit) × (Unit)) :=
  slices_IndexFunc_LI_int_l0 N (fun x => some ((x, ()), ())) (fun (_ : Unit) => some (((-1), ()), ())) N s f (tLen s) 0
noncomputable def slices_IndexFunc_LI_int_S (N : Nat) : FSum := ⟨slices_IndexFunc_LI_int_ps, slices_IndexFunc_LI_int_rs, fun x => slices_IndexFunc_LI_int N x.1 x.2.1⟩
theorem slices_IndexFunc_LI_int_run (N : Nat) (x : argsT slices_IndexFunc_LI_int_ps) : slices_IndexFunc_LI_int N x.1 x.2.1 = funF (slices_IndexFunc_LI_int_G N) tab [slices_IndexFunc_LI_int_l0_s N] Tryz.f324 slices_IndexFunc_LI_int_ps slices_IndexFunc_LI_int_rs x := by kernel_rfl
theorem slices_IndexFunc_LI_int_pc (N : Nat) : PC Tryz.prog 324 (slices_IndexFunc_LI_int_S N) := by
  have e : slices_IndexFunc_LI_int_S N = ⟨slices_IndexFunc_LI_int_ps, slices_IndexFunc_LI_int_rs, funF (slices_IndexFunc_LI_int_G N) tab [slices_IndexFunc_LI_int_l0_s N] Tryz.f324 slices_IndexFunc_LI_int_ps slices_IndexFunc_LI_int_rs⟩ := congrArg (FSum.mk slices_IndexFunc_LI_int_ps slices_IndexFunc_LI_int_rs) (funext (slices_IndexFunc_LI_int_run N))
  rw [e]
  exact fun_ok (c := slices_IndexFunc_LI_int_code) progOk (slices_IndexFunc_LI_int_gok N) (draw_ok progOk (slices_IndexFunc_LI_int_gok N)) Tryz.call324 Tryz.func324 (by kernel_rfl) (lsOk_at (L := [slices_IndexFunc_LI_int_l0_s N]) ⟨slices_IndexFunc_LI_int_l0_ok N, trivial⟩) (by kernel_rfl) (by kernel_rfl) (by kernel_rfl) (by kernel_rfl) (by kernel_rfl)

/-! ### slices_ContainsFunc_LI_int -/
abbrev slices_ContainsFunc_LI_int_ps : List (PV.Mode × Ty) := [(.ro, LI), (.ro, FIBo)]
abbrev slices_ContainsFunc_LI_int_rs : List (Bool × Ty) := [(true, .bool)]
noncomputable def slices_ContainsFunc_LI_int_G (N : Nat) : GTab := gOf [(324, slices_IndexFunc_LI_int_S N)]
theorem slices_ContainsFunc_LI_int_gok (N : Nat) : GOk Tryz.prog (slices_ContainsFunc_LI_int_G N) := gOf_ok ⟨slices_IndexFunc_LI_int_pc N, trivial⟩
noncomputable def slices_ContainsFunc_LI_int_code : Code := (Tryz.f264.body).getD .skip
noncomputable def slices_ContainsFunc_LI_int (N : Nat) (s : (List Int)) (f : (Int → Option Bool)) : Option ((Bool × Unit) × (Unit)) :=
  ((slices_IndexFunc_LI_int N s f).bind fun r =>
    some (((ile 0 r.1.1), ()), ()))
noncomputable def slices_ContainsFunc_LI_int_S (N : Nat) : FSum := ⟨slices_ContainsFunc_LI_int_ps, slices_ContainsFunc_LI_int_rs, fun x => slices_ContainsFunc_LI_int N x.1 x.2.1⟩
theorem slices_ContainsFunc_LI_int_run (N : Nat) (x : argsT slices_ContainsFunc_LI_int_ps) : slices_ContainsFunc_LI_int N x.1 x.2.1 = funF (slices_ContainsFunc_LI_int_G N) tab [] Tryz.f264 slices_ContainsFunc_LI_int_ps slices_ContainsFunc_LI_int_rs x := by kernel_rfl
theorem slices_ContainsFunc_LI_int_pc (N : Nat) : PC Tryz.prog 264 (slices_ContainsFunc_LI_int_S N) := by
  have e : slices_ContainsFunc_LI_int_S N = ⟨slices_ContainsFunc_LI_int_ps, slices_ContainsFunc_LI_int_rs, funF (slices_ContainsFunc_LI_int_G N) tab [] Tryz.f264 slices_ContainsFunc_LI_int_ps slices_ContainsFunc_LI_int_rs⟩ := congrArg (FSum.mk slices_ContainsFunc_LI_int_ps slices_ContainsFunc_LI_int_rs) (funext (slices_ContainsFunc_LI_int_run N))
  rw [e]
  exact fun_ok (c := slices_ContainsFunc_LI_int_code) progOk (slices_ContainsFunc_LI_int_gok N) (draw_ok progOk (slices_ContainsFunc_LI_int_gok N)) Tryz.call264 Tryz.func264 (by kernel_rfl) (lsOk_at (L := []) trivial) (by kernel_rfl) (by kernel_rfl) (by kernel_rfl) (by kernel_rfl) (by kernel_rfl)

/-! ### impl_Graph_colourings_c1_c1 -/
abbrev impl_Graph_colourings_c1_c1_ps : List (PV.Mode × Ty) := [(.ro, I), (.ro, AI), (.ro, ALI), (.ro, AI)]
abbrev impl_Graph_colourings_c1_c1_rs : List (Bool × Ty) := [(true, .bool)]
noncomputable def impl_Graph_colourings_c1_c1_G (N : Nat) : GTab := gOf []
theorem impl_Graph_colourings_c1_c1_gok (N : Nat) : GOk Tryz.prog (impl_Graph_colourings_c1_c1_G N) := gOf_ok trivial
noncomputable def impl_Graph_colourings_c1_c1_code : Code := (Tryz.f265.body).getD .skip
noncomputable def impl_Graph_colourings_c1_c1 (N : Nat) (y : Int) (c : Int) (c1 : (List Int)) (c2 : Int) : Option ((Bool × Unit) × (Unit)) :=
  (br (ilt y c)
    ((chk (inb c1 y)
      (some (((ieq (rdI c1 y) c2), ()), ()))))
    (some ((false, ()), ())))
noncomputable def impl_Graph_colourings_c1_c1_S (N : Nat) : FSum := ⟨impl_Graph_colourings_c1_c1_ps, impl_Graph_colourings_c1_c1_rs, fun x => impl_Graph_colourings_c1_c1 N x.1 x.2.1 x.2.2.1 x.2.2.2.1⟩
theorem impl_Graph_colourings_c1_c1_run (N : Nat) (x : argsT impl_Graph_colourings_c1_c1_ps) : impl_Graph_colourings_c1_c1 N x.1 x.2.1 x.2.2.1 x.2.2.2.1 = funF (impl_Graph_colourings_c1_c1_G N) tab [] Tryz.f265 impl_Graph_colourings_c1_c1_ps impl_Graph_colourings_c1_c1_rs x := by kernel_rfl
theorem impl_Graph_colourings_c1_c1_pc (N : Nat) : PC Tryz.prog 265 (impl_Graph_colourings_c1_c1_S N) := by
  have e : impl_Graph_colourings_c1_c1_S N = ⟨impl_Graph_colourings_c1_c1_ps, impl_Graph_colourings_c1_c1_rs, funF (impl_Graph_colourings_c1_c1_G N) tab [] Tryz.f265 impl_Graph_colourings_c1_c1_ps impl_Graph_colourings_c1_c1_rs⟩ := congrArg (FSum.mk impl_Graph_colourings_c1_c1_ps impl_Graph_colourings_c1_c1_rs) (funext (impl_Graph_colourings_c1_c1_run N))
  rw [e]
  exact fun_ok (c := impl_Graph_colourings_c1_c1_code) progOk (impl_Graph_colourings_c1_c1_gok N) (draw_ok progOk (impl_Graph_colourings_c1_c1_gok N)) Tryz.call265 Tryz.func265 (by kernel_rfl) (lsOk_at (L := []) trivial) (by kernel_rfl) (by kernel_rfl) (by kernel_rfl) (by kernel_rfl) (by kernel_rfl)

/-! ### impl_Graph_colourings_c1 -/
abbrev impl_Graph_colourings_c1_ps : List (PV.Mode × Ty) := [(.ro, I), (.ro, AQILQII), (.mut, BLLI), (.mut, BLI), (.ro, AI), (.ro, S263)]
abbrev impl_Graph_colourings_c1_rs : List (Bool × Ty) := [(true, .bool)]
noncomputable def impl_Graph_colourings_c1_T (slf : (Int → (Int × (List (Int × Int))) → (List (List Int)) → (List Int) → Int → Unit → Option ((Bool × Unit) × ((List (List Int)) × (List Int) × Unit)))) : FSum := ⟨impl_Graph_colourings_c1_ps, impl_Graph_colourings_c1_rs, fun x => slf x.1 x.2.1 x.2.2.1 x.2.2.2.1 x.2.2.2.2.1 x.2.2.2.2.2.1⟩
noncomputable def impl_Graph_colourings_c1_G (N : Nat) (slf : (Int → (Int × (List (Int × Int))) → (List (List Int)) → (List Int) → Int → Unit → Option ((Bool × Unit) × ((List (List Int)) × (List Int) × Unit)))) : GTab := gOf [(263, impl_Graph_colourings_c1_T slf), (242, slices_Clone_LI_int_S N), (193, impl_Graph_neighbors_S N), (264, slices_ContainsFunc_LI_int_S N), (265, impl_Graph_colourings_c1_c1_S N)]
theorem impl_Graph_colourings_c1_gok (N : Nat) (slf : (Int → (Int × (List (Int × Int))) → (List (List Int)) → (List Int) → Int → Unit → Option ((Bool × Unit) × ((List (List Int)) × (List Int) × Unit)))) (hslf : PC Tryz.prog 263 (impl_Graph_colourings_c1_T slf)) : GOk Tryz.prog (impl_Graph_colourings_c1_G N slf) := gOf_ok ⟨hslf, slices_Clone_LI_int_pc N, impl_Graph_neighbors_pc N, slices_ContainsFunc_LI_int_pc N, impl_Graph_colourings_c1_c1_pc N, trivial⟩
noncomputable def impl_Graph_colourings_c1_code : Code := (Tryz.f263.body).getD .skip
noncomputable def impl_Graph_colourings_c1_l0_sh : Sh := ⟨[(1, .one (.ro AQILQII)), (2, .one (.adr 0 0)), (3, .one (.adr 1 0)), (5, .one (.sadr 263 [.ro QILQII, .id 0, .id 1, .ro I, .me])), (6, .one (.adr 2 0)), (22, .one (.ro I)), (23, .one (.ro I))], [.mbox LLI, .mbox LI, .box [.ro I]]⟩
noncomputable def impl_Graph_colourings_c1_l0_ex : List (Ex × Sh) := [(.ret, ⟨[(2, .one (.adr 0 0)), (3, .one (.adr 1 0)), (7, .one (.ro .bool))], [.mbox LLI, .mbox LI]⟩), (.exit 0, ⟨[(2, .one (.adr 0 0)), (3, .one (.adr 1 0))], [.mbox LLI, .mbox LI]⟩)]
noncomputable def impl_Graph_colourings_c1_l0 {R : Type} (N : Nat) (slf : (Int → (Int × (List (Int × Int))) → (List (List Int)) → (List Int) → Int → Unit → Option ((Bool × Unit) × ((List (List Int)) × (List Int) × Unit)))) (k0 : Bool → (List (List Int)) → (List Int) → Option R) (k1 : (List (List Int)) → (List Int) → Option R) : Nat → (Int × (List (Int × Int))) → (Int × (List (Int × Int))) → Int → Int → Int → (List (List Int)) → (List Int) → Int → Option R
  | 0, _, _, _, _, _, _, _, _ => none
  | K + 1, x1, x2, x3, x4, x5, o, o1, o2 =>
    (br (ilt x5 x4)
      (((impl_Graph_neighbors N x1 o2).bind fun r1 =>
        ((slices_ContainsFunc_LI_int N r1.1.1 (fun y0 => (impl_Graph_colourings_c1_c1 N y0 o2 o1 x5).bind fun z => some z.1.1)).bind fun r2 =>
          (chk (inb o1 o2)
            (br (!r2.1.1)
            (((slf (IntKind.i64.wrap (o2 + 1)) x2 o (tSet o1 o2 x5) x3 ()).bind fun r3 =>
              (br (!r3.1.1)
                (k0 false r3.2.1 r3.2.2.1)
                (impl_Graph_colourings_c1_l0 N slf k0 k1 K x1 x2 x3 x4 (IntKind.i64.wrap (x5 + 1)) r3.2.1 r3.2.2.1 o2))))
            (impl_Graph_colourings_c1_l0 N slf k0 k1 K x1 x2 x3 x4 (IntKind.i64.wrap (x5 + 1)) o (tSet o1 o2 x5) o2))))))
      (k1 o o1))
noncomputable def impl_Graph_colourings_c1_l0_again {R : Type} (N : Nat) (slf : (Int → (Int × (List (Int × Int))) → (List (List Int)) → (List Int) → Int → Unit → Option ((Bool × Unit) × ((List (List Int)) × (List Int) × Unit)))) (ks : (j : Nat) → ((impl_Graph_colourings_c1_l0_ex.getD j (.ret, Sh.none)).2).T → Option R) (k : Nat) (x : impl_Graph_colourings_c1_l0_sh.T) : Option R :=
  impl_Graph_colourings_c1_l0 N slf (fun y0 y1 y2 => ks 0 (((), (), y0, ()), (y1, y2, ()))) (fun y0 y1 => ks 1 (((), (), ()), (y0, y1, ()))) k x.1.1 x.1.2.2.2.1.1 x.1.2.2.2.1.2.2.2.1 x.1.2.2.2.2.2.1 x.1.2.2.2.2.2.2.1 x.2.1 x.2.2.1 x.2.2.2.1.1
noncomputable def impl_Graph_colourings_c1_l0_s (N : Nat) (slf : (Int → (Int × (List (Int × Int))) → (List (List Int)) → (List Int) → Int → Unit → Option ((Bool × Unit) × ((List (List Int)) × (List Int) × Unit)))) : LSum := ⟨impl_Graph_colourings_c1_l0_sh, impl_Graph_colourings_c1_l0_ex, fun x ks => impl_Graph_colourings_c1_l0_again N slf ks N x⟩
theorem impl_Graph_colourings_c1_l0_step (N : Nat) (slf : (Int → (Int × (List (Int × Int))) → (List (List Int)) → (List Int) → Int → Unit → Option ((Bool × Unit) × ((List (List Int)) × (List Int) × Unit)))) (R : Type) (k : Nat) (x : impl_Graph_colourings_c1_l0_sh.T) (ks : (j : Nat) → ((impl_Graph_colourings_c1_l0_ex.getD j (.ret, Sh.none)).2).T → Option R) : impl_Graph_colourings_c1_l0_again N slf ks (k + 1) x = roundF (impl_Graph_colourings_c1_G N slf) tab [] (loopAt impl_Graph_colourings_c1_code 0) impl_Graph_colourings_c1_l0_sh impl_Graph_colourings_c1_l0_ex (fun y => impl_Graph_colourings_c1_l0_again N slf ks k y) ks x := by kernel_rfl
theorem impl_Graph_colourings_c1_l0_ok (N : Nat) (slf : (Int → (Int × (List (Int × Int))) → (List (List Int)) → (List Int) → Int → Unit → Option ((Bool × Unit) × ((List (List Int)) × (List Int) × Unit)))) (hslf : PC Tryz.prog 263 (impl_Graph_colourings_c1_T slf)) : LoopOk Tryz.prog Tryz.f263.ntmps (impl_Graph_colourings_c1_l0_s N slf) (loopAt impl_Graph_colourings_c1_code 0) :=
  loop_ok (l := impl_Graph_colourings_c1_l0_s N slf) progOk (impl_Graph_colourings_c1_gok N slf hslf) (draw_ok progOk (impl_Graph_colourings_c1_gok N slf hslf)) (fun R k x ks => impl_Graph_colourings_c1_l0_again N slf ks k x) (fun _ _ _ => rfl) (fun R k x ks => impl_Graph_colourings_c1_l0_step N slf R k x ks) (fun R x ks r h => ⟨N, h⟩) (lsOk_at (L := []) trivial) (by kernel_rfl) (by kernel_rfl)
noncomputable def impl_Graph_colourings_c1_b (N : Nat) (slf : (Int → (Int × (List (Int × Int))) → (List (List Int)) → (List Int) → Int → Unit → Option ((Bool × Unit) × ((List (List Int)) × (List Int) × Unit)))) (x : Int) (c : (Int × (List (Int × Int)))) (c1 : (List (List Int))) (c2 : (List Int)) (c3 : Int) (c4 : Unit) : Option ((Bool × Unit) × ((List (List Int)) × (List Int) × Unit)) :=
  (br (ieq x c.1)
    (((slices_Clone_LI_int N c2).bind fun r =>
      (chk (room c1 [r.1.1])
        (some (((ile (tLen (tApp c1 [r.1.1])) 300), ()), ((tApp c1 [r.1.1]), c2, ()))))))
    (impl_Graph_colourings_c1_l0 N slf (fun x1 o o1 => some ((x1, ()), (o, o1, ()))) (fun o2 o3 => some ((true, ()), (o2, o3, ()))) N c c c3 c3 0 c1 c2 x))
theorem impl_Graph_colourings_c1_run (N : Nat) (slf : (Int → (Int × (List (Int × Int))) → (List (List Int)) → (List Int) → Int → Unit → Option ((Bool × Unit) × ((List (List Int)) × (List Int) × Unit)))) (x : argsT impl_Graph_colourings_c1_ps) : impl_Graph_colourings_c1_b N slf x.1 x.2.1 x.2.2.1 x.2.2.2.1 x.2.2.2.2.1 x.2.2.2.2.2.1 = funF (impl_Graph_colourings_c1_G N slf) tab [impl_Graph_colourings_c1_l0_s N slf] Tryz.f263 impl_Graph_colourings_c1_ps impl_Graph_colourings_c1_rs x := by kernel_rfl
theorem impl_Graph_colourings_c1_bpc (N : Nat) (slf : (Int → (Int × (List (Int × Int))) → (List (List Int)) → (List Int) → Int → Unit → Option ((Bool × Unit) × ((List (List Int)) × (List Int) × Unit)))) (hslf : PC Tryz.prog 263 (impl_Graph_colourings_c1_T slf)) : PC Tryz.prog 263 (impl_Graph_colourings_c1_T (impl_Graph_colourings_c1_b N slf)) := by
  have e : impl_Graph_colourings_c1_T (impl_Graph_colourings_c1_b N slf) = ⟨impl_Graph_colourings_c1_ps, impl_Graph_colourings_c1_rs, funF (impl_Graph_colourings_c1_G N slf) tab [impl_Graph_colourings_c1_l0_s N slf] Tryz.f263 impl_Graph_colourings_c1_ps impl_Graph_colourings_c1_rs⟩ := congrArg (FSum.mk impl_Graph_colourings_c1_ps impl_Graph_colourings_c1_rs) (funext (impl_Graph_colourings_c1_run N slf))
  rw [e]
  exact fun_ok (c := impl_Graph_colourings_c1_code) progOk (impl_Graph_colourings_c1_gok N slf hslf) (draw_ok progOk (impl_Graph_colourings_c1_gok N slf hslf)) Tryz.call263 Tryz.func263 (by kernel_rfl) (lsOk_at (L := [impl_Graph_colourings_c1_l0_s N slf]) ⟨impl_Graph_colourings_c1_l0_ok N slf hslf, trivial⟩) (by kernel_rfl) (by kernel_rfl) (by kernel_rfl) (by kernel_rfl) (by kernel_rfl)
noncomputable def impl_Graph_colourings_c1_r (N : Nat) : Nat → (Int → (Int × (List (Int × Int))) → (List (List Int)) → (List Int) → Int → Unit → Option ((Bool × Unit) × ((List (List Int)) × (List Int) × Unit)))
  | 0 => fun _ _ _ _ _ _ => none
  | K + 1 => impl_Graph_colourings_c1_b N (impl_Graph_colourings_c1_r N K)
theorem impl_Graph_colourings_c1_rpc (N : Nat) : ∀ K, PC Tryz.prog 263 (impl_Graph_colourings_c1_T (impl_Graph_colourings_c1_r N K))
  | 0 => pc_none Tryz.call263
  | K + 1 => impl_Graph_colourings_c1_bpc N (impl_Graph_colourings_c1_r N K) (impl_Graph_colourings_c1_rpc N K)
noncomputable def impl_Graph_colourings_c1 (N : Nat) (x : Int) (c : (Int × (List (Int × Int)))) (c1 : (List (List Int))) (c2 : (List Int)) (c3 : Int) (c4 : Unit) : Option ((Bool × Unit) × ((List (List Int)) × (List Int) × Unit)) := impl_Graph_colourings_c1_r N N x c c1 c2 c3 c4
noncomputable def impl_Graph_colourings_c1_S (N : Nat) : FSum := ⟨impl_Graph_colourings_c1_ps, impl_Graph_colourings_c1_rs, fun x => impl_Graph_colourings_c1 N x.1 x.2.1 x.2.2.1 x.2.2.2.1 x.2.2.2.2.1 x.2.2.2.2.2.1⟩
theorem impl_Graph_colourings_c1_pc (N : Nat) : PC Tryz.prog 263 (impl_Graph_colourings_c1_S N) := impl_Graph_colourings_c1_rpc N N

/-! ### impl_Graph_colourings -/
abbrev impl_Graph_colourings_ps : List (PV.Mode × Ty) := [(.ro, QILQII), (.ro, I)]
abbrev impl_Graph_colourings_rs : List (Bool × Ty) := [(true, LLI), (true, .bool)]
noncomputable def impl_Graph_colourings_G (N : Nat) : GTab := gOf [(263, impl_Graph_colourings_c1_S N)]
theorem impl_Graph_colourings_gok (N : Nat) : GOk Tryz.prog (impl_Graph_colourings_G N) := gOf_ok ⟨impl_Graph_colourings_c1_pc N, trivial⟩
noncomputable def impl_Graph_colourings_code : Code := (Tryz.f191.body).getD .skip
noncomputable def impl_Graph_colourings (N : Nat) (g : (Int × (List (Int × Int)))) (kv : Int) : Option (((List (List Int)) × Bool × Unit) × (Unit)) :=
  (chk (ile 0 g.1 && ile g.1 g.1 && fits g.1)
    ((impl_Graph_colourings_c1 N 0 (g.1, g.2) [] (tRep g.1 (0 : Int)) kv ()).bind fun r =>
    (br (!r.1.1)
      (some (([], false, ()), ()))
      (some ((r.2.1, true, ()), ())))))
noncomputable def impl_Graph_colourings_S (N : Nat) : FSum := ⟨impl_Graph_colourings_ps, impl_Graph_colourings_rs, fun x => impl_Graph_colourings N x.1 x.2.1⟩
theorem impl_Graph_colourings_run (N : Nat) (x : argsT impl_Graph_colourings_ps) : impl_Graph_colourings N x.1 x.2.1 = funF (impl_Graph_colourings_G N) tab [] Tryz.f191 impl_Graph_colourings_ps impl_Graph_colourings_rs x := by kernel_rfl
theorem impl_Graph_colourings_pc (N : Nat) : PC Tryz.prog 191 (impl_Graph_colourings_S N) := by
  have e : impl_Graph_colourings_S N = ⟨impl_Graph_colourings_ps, impl_Graph_colourings_rs, funF (impl_Graph_colourings_G N) tab [] Tryz.f191 impl_Graph_colourings_ps impl_Graph_colourings_rs⟩ := congrArg (FSum.mk impl_Graph_colourings_ps impl_Graph_colourings_rs) (funext (impl_Graph_colourings_run N))
  rw [e]
  exact fun_ok (c := impl_Graph_colourings_code) progOk (impl_Graph_colourings_gok N) (draw_ok progOk (impl_Graph_colourings_gok N)) Tryz.call191 Tryz.func191 (by kernel_rfl) (lsOk_at (L := []) trivial) (by kernel_rfl) (by kernel_rfl) (by kernel_rfl) (by kernel_rfl) (by kernel_rfl)

/-! ### impl_Colourings -/
abbrev impl_Colourings_ps : List (PV.Mode × Ty) := [(.ro, QILQII), (.ro, I)]
abbrev impl_Colourings_rs : List (Bool × Ty) := [(true, LLI), (true, .bool)]
noncomputable def impl_Colourings_G (N : Nat) : GTab := gOf [(190, impl_isColourCase_S N), (191, impl_Graph_colourings_S N)]
theorem impl_Colourings_gok (N : Nat) : GOk Tryz.prog (impl_Colourings_G N) := gOf_ok ⟨impl_isColourCase_pc N, impl_Graph_colourings_pc N, trivial⟩
noncomputable def impl_Colourings_code : Code := (Tryz.f75.body).getD .skip
noncomputable def impl_Colourings (N : Nat) (g : (Int × (List (Int × Int)))) (kv : Int) : Option (((List (List Int)) × Bool × Unit) × (Unit)) :=
  ((impl_isColourCase N (g.1, g.2) kv).bind fun r =>
    (br (!r.1.1)
      (some (([], false, ()), ()))
      (((impl_Graph_colourings N (g.1, g.2) kv).bind fun r1 =>
        some ((r1.1.1, r1.1.2.1, ()), ())))))
noncomputable def impl_Colourings_S (N : Nat) : FSum := ⟨impl_Colourings_ps, impl_Colourings_rs, fun x => impl_Colourings N x.1 x.2.1⟩
theorem impl_Colourings_run (N : Nat) (x : argsT impl_Colourings_ps) : impl_Colourings N x.1 x.2.1 = funF (impl_Colourings_G N) tab [] Tryz.f75 impl_Colourings_ps impl_Colourings_rs x := by kernel_rfl
theorem impl_Colourings_pc (N : Nat) : PC Tryz.prog 75 (impl_Colourings_S N) := by
  have e : impl_Colourings_S N = ⟨impl_Colourings_ps, impl_Colourings_rs, funF (impl_Colourings_G N) tab [] Tryz.f75 impl_Colourings_ps impl_Colourings_rs⟩ := congrArg (FSum.mk impl_Colourings_ps impl_Colourings_rs) (funext (impl_Colourings_run N))
  rw [e]
  exact fun_ok (c := impl_Colourings_code) progOk (impl_Colourings_gok N) (draw_ok progOk (impl_Colourings_gok N)) Tryz.call75 Tryz.func75 (by kernel_rfl) (lsOk_at (L := []) trivial) (by kernel_rfl) (by kernel_rfl) (by kernel_rfl) (by kernel_rfl) (by kernel_rfl)

/-! ### slices_Compare_LI_int -/
abbrev slices_Compare_LI_int_ps : List (PV.Mode × Ty) := [(.ro, LI), (.ro, LI)]
abbrev slices_Compare_LI_int_rs : List (Bool × Ty) := [(true, I)]
noncomputable def slices_Compare_LI_int_G (N : Nat) : GTab := gOf [(253, cmp_Compare_int_S N)]
theorem slices_Compare_LI_int_gok (N : Nat) : GOk Tryz.prog (slices_Compare_LI_int_G N) := gOf_ok ⟨cmp_Compare_int_pc N, trivial⟩
noncomputable def slices_Compare_LI_int_code : Code := (Tryz.f166.body).getD .skip
noncomputable def slices_Compare_LI_int_l0_sh : Sh := ⟨[(0, .one (.ro LI)), (1, .one (.ro LI)), (9, .one (.ro LI)), (10, .one (.ro I)), (11, .one (.ro I))], []⟩
noncomputable def slices_Compare_LI_int_l0_ex : List (Ex × Sh) := [(.ret, ⟨[(4, .one (.ro I))], []⟩), (.exit 0, ⟨[(0, .one (.ro LI)), (1, .one (.ro LI))], []⟩)]
noncomputable def slices_Compare_LI_int_l0 {R : Type} (N : Nat) (k0 : Int → Option R) (k1 : (List Int) → (List Int) → Option R) : Nat → (List Int) → (List Int) → (List Int) → Int → Int → Option R
  | 0, _, _, _, _, _ => none
  | K + 1, s11, s21, x, x1, x2 =>
    (br (ilt x2 x1)
      ((chk (inb x x2)
        (br (ile (tLen s21) x2)
        (k0 1)
        ((chk (inb s21 x2)
          ((cmp_Compare_int N (rdI x x2) (rdI s21 x2)).bind fun r =>
          (br (ine r.1.1 0)
            (k0 r.1.1)
            (slices_Compare_LI_int_l0 N k0 k1 K s11 s21 x x1 (IntKind.i64.wrap (x2 + 1))))))))))
      (k1 s11 s21))
noncomputable def slices_Compare_LI_int_l0_again {R : Type} (N : Nat) (ks : (j : Nat) → ((slices_Compare_LI_int_l0_ex.getD j (.ret, Sh.none)).2).T → Option R) (k : Nat) (x : slices_Compare_LI_int_l0_sh.T) : Option R :=
  slices_Compare_LI_int_l0 N (fun y0 => ks 0 ((y0, ()), ())) (fun y0 y1 => ks 1 ((y0, y1, ()), ())) k x.1.1 x.1.2.1 x.1.2.2.1 x.1.2.2.2.1 x.1.2.2.2.2.1
noncomputable def slices_Compare_LI_int_l0_s (N : Nat) : LSum := ⟨slices_Compare_LI_int_l0_sh, slices_Compare_LI_int_l0_ex, fun x ks => slices_Compare_LI_int_l0_again N ks N x⟩
theorem slices_Compare_LI_int_l0_step (N : Nat) (R : Type) (k : Nat) (x : slices_Compare_LI_int_l0_sh.T) (ks : (j : Nat) → ((slices_Compare_LI_int_l0_ex.getD j (.ret, Sh.none)).2).T → Option R) : slices_Compare_LI_int_l0_again N ks (k + 1) x = roundF (slices_Compare_LI_int_G N) tab [] (loopAt slices_Compare_LI_int_code 0) slices_Compare_LI_int_l0_sh slices_Compare_LI_int_l0_ex (fun y => slices_Compare_LI_int_l0_again N ks k y) ks x := by kernel_rfl
theorem slices_Compare_LI_int_l0_ok (N : Nat) : LoopOk Tryz.prog Tryz.f166.ntmps (slices_Compare_LI_int_l0_s N) (loopAt slices_Compare_LI_int_code 0) :=
  loop_ok (l := slices_Compare_LI_int_l0_s N) progOk (slices_Compare_LI_int_gok N) (draw_ok progOk (slices_Compare_LI_int_gok N)) (fun R k x ks => slices_Compare_LI_int_l0_again N ks k x) (fun _ _ _ => rfl) (fun R k x ks => slices_Compare_LI_int_l0_step N R k x ks) (fun R x ks r h => ⟨N, h⟩) (lsOk_at (L := []) trivial) (by kernel_rfl) (by kernel_rfl)
noncomputable def slices_Compare_LI_int (N : Nat) (s1 : (List Int)) (s2 : (List Int)) : Option ((Int × Unit) × (Unit)) :=
  slices_Compare_LI_int_l0 N (fun x => some ((x, ()), ())) (fun s11 s21 => (br (ilt (tLen s11) (tLen s21))
    (some (((-1), ()), ()))
    (some ((0, ()), ())))) N s1 s2 s1 (tLen s1) 0
noncomputable def slices_Compare_LI_int_S (N : Nat) : FSum := ⟨slices_Compare_LI_int_ps, slices_Compare_LI_int_rs, fun x => slices_Compare_LI_int N x.1 x.2.1⟩
theorem slices_Compare_LI_int_run (N : Nat) (x : argsT slices_Compare_LI_int_ps) : slices_Compare_LI_int N x.1 x.2.1 = funF (slices_Compare_LI_int_G N) tab [slices_Compare_LI_int_l0_s N] Tryz.f166 slices_Compare_LI_int_ps slices_Compare_LI_int_rs x := by kernel_rfl
theorem slices_Compare_LI_int_pc (N : Nat) : PC Tryz.prog 166 (slices_Compare_LI_int_S N) := by
  have e : slices_Compare_LI_int_S N = ⟨slices_Compare_LI_int_ps, slices_Compare_LI_int_rs, funF (slices_Compare_LI_int_G N) tab [slices_Compare_LI_int_l0_s N] Tryz.f166 slices_Compare_LI_int_ps slices_Compare_LI_int_rs⟩ := congrArg (FSum.mk slices_Compare_LI_int_ps slices_Compare_LI_int_rs) (funext (slices_Compare_LI_int_run N))
  rw [e]
  exact fun_ok (c := slices_Compare_LI_int_code) progOk (slices_Compare_LI_int_gok N) (draw_ok progOk (slices_Compare_LI_int_gok N)) Tryz.call166 Tryz.func166 (by kernel_rfl) (lsOk_at (L := [slices_Compare_LI_int_l0_s N]) ⟨slices_Compare_LI_int_l0_ok N, trivial⟩) (by kernel_rfl) (by kernel_rfl) (by kernel_rfl) (by kernel_rfl) (by kernel_rfl)

/-! ### slices_SortFunc_LLI_LI_kslices_Compare_LI_int -/
abbrev slices_SortFunc_LLI_LI_kslices_Compare_LI_int_ps : List (PV.Mode × Ty) := [(.mut, LLI), (.own, K166Un)]
abbrev slices_SortFunc_LLI_LI_kslices_Compare_LI_int_rs : List (Bool × Ty) := []
noncomputable def slices_SortFunc_LLI_LI_kslices_Compare_LI_int (N : Nat) (x : List (List Int)) (_ : Unit) : Option (Unit × (List (List Int) × Unit)) := sortF (fun a b => (slices_Compare_LI_int N a b).map fun z => z.1.1) x
noncomputable def slices_SortFunc_LLI_LI_kslices_Compare_LI_int_S (N : Nat) : FSum := ⟨slices_SortFunc_LLI_LI_kslices_Compare_LI_int_ps, slices_SortFunc_LLI_LI_kslices_Compare_LI_int_rs, fun x => slices_SortFunc_LLI_LI_kslices_Compare_LI_int N x.1 x.2.1⟩
theorem slices_SortFunc_LLI_LI_kslices_Compare_LI_int_pc (N : Nat) : PC Tryz.prog 165 (slices_SortFunc_LLI_LI_kslices_Compare_LI_int_S N) := sortRows_pc (fc := fun a b => slices_Compare_LI_int N a b) (sortsAt Tryz.sortL) (sortsNone Tryz.sortL) Tryz.call165 (slices_Compare_LI_int_pc N)

/-! ### impl_spaceOf -/
abbrev impl_spaceOf_ps : List (PV.Mode × Ty) := [(.own, LLI), (.ro, GLILIBo)]
abbrev impl_spaceOf_rs : List (Bool × Ty) := [(true, QLLILQII)]
noncomputable def impl_spaceOf_G (N : Nat) : GTab := gOf [(165, slices_SortFunc_LLI_LI_kslices_Compare_LI_int_S N)]
theorem impl_spaceOf_gok (N : Nat) : GOk Tryz.prog (impl_spaceOf_G N) := gOf_ok ⟨slices_SortFunc_LLI_LI_kslices_Compare_LI_int_pc N, trivial⟩
noncomputable def impl_spaceOf_code : Code := (Tryz.f158.body).getD .skip
noncomputable def impl_spaceOf_l0_0_sh : Sh := ⟨[(1, .one (.ro GLILIBo)), (4, .one (.adr 0 0)), (5, .one (.adr 1 0)), (6, .one (.ro I)), (7, .one (.el 2)), (16, .one (.ref 2)), (17, .one (.ro I)), (18, .one (.ro I)), (27, .one (.sub 2 1)), (28, .one (.ro I)), (29, .one (.ro I))], [.box [.nilsl, .nilsl], .box [.ref 2, .ref 3], .sl 25 LI .deep, .sl 123 QII .own]⟩
noncomputable def impl_spaceOf_l0_0_ex : List (Ex × Sh) := [(.exit 2, ⟨[(1, .one (.ro GLILIBo)), (4, .one (.adr 0 0)), (5, .one (.adr 1 0)), (16, .one (.ref 2)), (17, .one (.ro I)), (18, .one (.ro I))], [.box [.nilsl, .nilsl], .box [.ref 2, .ref 3], .sl 25 LI .deep, .sl 123 QII .own]⟩)]
noncomputable def impl_spaceOf_l0_0 {R : Type} (N : Nat) (k0 : ((List Int) → (List Int) → Option Bool) → Int → Int → (List (List Int)) → (List (Int × Int)) → Option R) : Nat → ((List Int) → (List Int) → Option Bool) → Int → Int → Int → Int → Int → Int → Int → Int → (List (List Int)) → (List (Int × Int)) → Option R
  | 0, _, _, _, _, _, _, _, _, _, _, _ => none
  | K + 1, isStep2, i, a, x2, x3, x4, x5, x6, x7, o2, o3 =>
    (br (ilt x7 x6)
      ((chk (ile 0 x7 && ilt x7 (x5 - x4))
        ((isStep2 (rdL o2 a) (rdL o2 (x4 + x7))).bind fun v =>
        (br v
        ((chk (room o3 [(i, (IntKind.i64.wrap ((IntKind.i64.wrap (i + 1)) + x7)))])
          (impl_spaceOf_l0_0 N k0 K isStep2 i a x2 x3 x4 x5 x6 (IntKind.i64.wrap (x7 + 1)) o2 (tApp o3 [(i, (IntKind.i64.wrap ((IntKind.i64.wrap (i + 1)) + x7)))]))))
        (impl_spaceOf_l0_0 N k0 K isStep2 i a x2 x3 x4 x5 x6 (IntKind.i64.wrap (x7 + 1)) o2 o3)))))
      (k0 isStep2 x2 x3 o2 o3))
noncomputable def impl_spaceOf_l0_0_again {R : Type} (N : Nat) (ks : (j : Nat) → ((impl_spaceOf_l0_0_ex.getD j (.ret, Sh.none)).2).T → Option R) (k : Nat) (x : impl_spaceOf_l0_0_sh.T) : Option R :=
  impl_spaceOf_l0_0 N (fun y0 y1 y2 y3 y4 => ks 0 ((y0, (), (), (), y1, y2, ()), (((), (), ()), ((), (), ()), y3, y4, ()))) k x.1.1 x.1.2.2.2.1 x.1.2.2.2.2.1 x.1.2.2.2.2.2.2.1 x.1.2.2.2.2.2.2.2.1 x.1.2.2.2.2.2.2.2.2.1.1 x.1.2.2.2.2.2.2.2.2.1.2 x.1.2.2.2.2.2.2.2.2.2.1 x.1.2.2.2.2.2.2.2.2.2.2.1 x.2.2.2.1 x.2.2.2.2.1
noncomputable def impl_spaceOf_l0_0_s (N : Nat) : LSum := ⟨impl_spaceOf_l0_0_sh, impl_spaceOf_l0_0_ex, fun x ks => impl_spaceOf_l0_0_again N ks N x⟩
theorem impl_spaceOf_l0_0_step (N : Nat) (R : Type) (k : Nat) (x : impl_spaceOf_l0_0_sh.T) (ks : (j : Nat) → ((impl_spaceOf_l0_0_ex.getD j (.ret, Sh.none)).2).T → Option R) : impl_spaceOf_l0_0_again N ks (k + 1) x = roundF (impl_spaceOf_G N) tab [] (loopAt (loopAt impl_spaceOf_code 0) 0) impl_spaceOf_l0_0_sh impl_spaceOf_l0_0_ex (fun y => impl_spaceOf_l0_0_again N ks k y) ks x := by kernel_rfl
theorem impl_spaceOf_l0_0_ok (N : Nat) : LoopOk Tryz.prog Tryz.f158.ntmps (impl_spaceOf_l0_0_s N) (loopAt (loopAt impl_spaceOf_code 0) 0) :=
  loop_ok (l := impl_spaceOf_l0_0_s N) progOk (impl_spaceOf_gok N) (draw_ok progOk (impl_spaceOf_gok N)) (fun R k x ks => impl_spaceOf_l0_0_again N ks k x) (fun _ _ _ => rfl) (fun R k x ks => impl_spaceOf_l0_0_step N R k x ks) (fun R x ks r h => ⟨N, h⟩) (lsOk_at (L := []) trivial) (by kernel_rfl) (by kernel_rfl)
noncomputable def impl_spaceOf_l0_sh : Sh := ⟨[(1, .one (.ro GLILIBo)), (4, .one (.adr 0 0)), (5, .one (.adr 1 0)), (16, .one (.ref 2)), (17, .one (.ro I)), (18, .one (.ro I))], [.box [.nilsl, .nilsl], .box [.ref 2, .ref 3], .sl 25 LI .deep, .sl 123 QII .own]⟩
noncomputable def impl_spaceOf_l0_ex : List (Ex × Sh) := [(.exit 0, ⟨[(4, .one (.adr 0 0)), (5, .one (.adr 1 0))], [.box [.nilsl, .nilsl], .box [.ref 2, .ref 3], .sl 25 LI .deep, .sl 123 QII .own]⟩)]
noncomputable def impl_spaceOf_l0 {R : Type} (N : Nat) (k0 : (List (List Int)) → (List (Int × Int)) → Option R) : Nat → ((List Int) → (List Int) → Option Bool) → Int → Int → (List (List Int)) → (List (Int × Int)) → Option R
  | 0, _, _, _, _, _ => none
  | K + 1, isStep1, x, x1, o, o1 =>
    (br (ilt x1 x)
      ((chk (inb o x1)
        (chk (ile 0 (IntKind.i64.wrap (x1 + 1)) && ile (IntKind.i64.wrap (x1 + 1)) (tLen o) && ile (tLen o) (tLen o))
        (impl_spaceOf_l0_0 N (fun isStep2 x2 x3 o2 o3 => impl_spaceOf_l0 N k0 K isStep2 x2 (IntKind.i64.wrap (x3 + 1)) o2 o3) N isStep1 x1 x1 x x1 (IntKind.i64.wrap (x1 + 1)) (tLen o) ((tLen o) - (IntKind.i64.wrap (x1 + 1))) 0 o o1))))
      (k0 o o1))
noncomputable def impl_spaceOf_l0_again {R : Type} (N : Nat) (ks : (j : Nat) → ((impl_spaceOf_l0_ex.getD j (.ret, Sh.none)).2).T → Option R) (k : Nat) (x : impl_spaceOf_l0_sh.T) : Option R :=
  impl_spaceOf_l0 N (fun y0 y1 => ks 0 (((), (), ()), (((), (), ()), ((), (), ()), y0, y1, ()))) k x.1.1 x.1.2.2.2.2.1 x.1.2.2.2.2.2.1 x.2.2.2.1 x.2.2.2.2.1
noncomputable def impl_spaceOf_l0_s (N : Nat) : LSum := ⟨impl_spaceOf_l0_sh, impl_spaceOf_l0_ex, fun x ks => impl_spaceOf_l0_again N ks N x⟩
theorem impl_spaceOf_l0_step (N : Nat) (R : Type) (k : Nat) (x : impl_spaceOf_l0_sh.T) (ks : (j : Nat) → ((impl_spaceOf_l0_ex.getD j (.ret, Sh.none)).2).T → Option R) : impl_spaceOf_l0_again N ks (k + 1) x = roundF (impl_spaceOf_G N) tab [impl_spaceOf_l0_0_s N] (loopAt impl_spaceOf_code 0) impl_spaceOf_l0_sh impl_spaceOf_l0_ex (fun y => impl_spaceOf_l0_again N ks k y) ks x := by kernel_rfl
theorem impl_spaceOf_l0_ok (N : Nat) : LoopOk Tryz.prog Tryz.f158.ntmps (impl_spaceOf_l0_s N) (loopAt impl_spaceOf_code 0) :=
  loop_ok (l := impl_spaceOf_l0_s N) progOk (impl_spaceOf_gok N) (draw_ok progOk (impl_spaceOf_gok N)) (fun R k x ks => impl_spaceOf_l0_again N ks k x) (fun _ _ _ => rfl) (fun R k x ks => impl_spaceOf_l0_step N R k x ks) (fun R x ks r h => ⟨N, h⟩) (lsOk_at (L := [impl_spaceOf_l0_0_s N]) ⟨impl_spaceOf_l0_0_ok N, trivial⟩) (by kernel_rfl) (by kernel_rfl)
noncomputable def impl_spaceOf (N : Nat) (states : (List (List Int))) (isStep : ((List Int) → (List Int) → Option Bool)) : Option ((((List (List Int)) × (List (Int × Int))) × Unit) × (Unit)) :=
  ((slices_SortFunc_LLI_LI_kslices_Compare_LI_int N states ()).bind fun r =>
    impl_spaceOf_l0 N (fun o o1 => some (((o, o1), ()), ())) N isStep (tLen r.2.1) 0 r.2.1 [])
noncomputable def impl_spaceOf_S (N : Nat) : FSum := ⟨impl_spaceOf_ps, impl_spaceOf_rs, fun x => impl_spaceOf N x.1 x.2.1⟩
theorem impl_spaceOf_run (N : Nat) (x : argsT impl_spaceOf_ps) : impl_spaceOf N x.1 x.2.1 = funF (impl_spaceOf_G N) tab [impl_spaceOf_l0_s N] Tryz.f158 impl_spaceOf_ps impl_spaceOf_rs x := by kernel_rfl
theorem impl_spaceOf_pc (N : Nat) : PC Tryz.prog 158 (impl_spaceOf_S N) := by
  have e : impl_spaceOf_S N = ⟨impl_spaceOf_ps, impl_spaceOf_rs, funF (impl_spaceOf_G N) tab [impl_spaceOf_l0_s N] Tryz.f158 impl_spaceOf_ps impl_spaceOf_rs⟩ := congrArg (FSum.mk impl_spaceOf_ps impl_spaceOf_rs) (funext (impl_spaceOf_run N))
  rw [e]
  exact fun_ok (c := impl_spaceOf_code) progOk (impl_spaceOf_gok N) (draw_ok progOk (impl_spaceOf_gok N)) Tryz.call158 Tryz.func158 (by kernel_rfl) (lsOk_at (L := [impl_spaceOf_l0_s N]) ⟨impl_spaceOf_l0_ok N, trivial⟩) (by kernel_rfl) (by kernel_rfl) (by kernel_rfl) (by kernel_rfl) (by kernel_rfl)

/-! ### impl_places -/
abbrev impl_places_ps : List (PV.Mode × Ty) := [(.ro, LI), (.ro, LI)]
abbrev impl_places_rs : List (Bool × Ty) := [(true, LI)]
noncomputable def impl_places_G (N : Nat) : GTab := gOf []
theorem impl_places_gok (N : Nat) : GOk Tryz.prog (impl_places_G N) := gOf_ok trivial
noncomputable def impl_places_code : Code := (Tryz.f188.body).getD .skip
noncomputable def impl_places_l0_sh : Sh := ⟨[(1, .one (.ro LI)), (5, .one (.ref 0)), (9, .one (.ro LI)), (10, .one (.ro I)), (11, .one (.ro I))], [.sl 3 I .own]⟩
noncomputable def impl_places_l0_ex : List (Ex × Sh) := [(.exit 0, ⟨[(5, .one (.ref 0))], [.sl 3 I .own]⟩)]
noncomputable def impl_places_l0 {R : Type} (N : Nat) (k0 : (List Int) → Option R) : Nat → (List Int) → (List Int) → Int → Int → (List Int) → Option R
  | 0, _, _, _, _, _ => none
  | K + 1, b1, x, x1, x2, o =>
    (br (ilt x2 x1)
      ((chk (inb x x2)
        (chk (inb b1 x2)
        (br (ine (rdI b1 x2) (rdI x x2))
        ((chk (room o [x2])
          (impl_places_l0 N k0 K b1 x x1 (IntKind.i64.wrap (x2 + 1)) (tApp o [x2]))))
        (impl_places_l0 N k0 K b1 x x1 (IntKind.i64.wrap (x2 + 1)) o)))))
      (k0 o))
noncomputable def impl_places_l0_again {R : Type} (N : Nat) (ks : (j : Nat) → ((impl_places_l0_ex.getD j (.ret, Sh.none)).2).T → Option R) (k : Nat) (x : impl_places_l0_sh.T) : Option R :=
  impl_places_l0 N (fun y0 => ks 0 (((), ()), (y0, ()))) k x.1.1 x.1.2.2.1 x.1.2.2.2.1 x.1.2.2.2.2.1 x.2.1
noncomputable def impl_places_l0_s (N : Nat) : LSum := ⟨impl_places_l0_sh, impl_places_l0_ex, fun x ks => impl_places_l0_again N ks N x⟩
theorem impl_places_l0_step (N : Nat) (R : Type) (k : Nat) (x : impl_places_l0_sh.T) (ks : (j : Nat) → ((impl_places_l0_ex.getD j (.ret, Sh.none)).2).T → Option R) : impl_places_l0_again N ks (k + 1) x = roundF (impl_places_G N) tab [] (loopAt impl_places_code 0) impl_places_l0_sh impl_places_l0_ex (fun y => impl_places_l0_again N ks k y) ks x := by kernel_rfl
theorem impl_places_l0_ok (N : Nat) : LoopOk Tryz.prog Tryz.f188.ntmps (impl_places_l0_s N) (loopAt impl_places_code 0) :=
  loop_ok (l := impl_places_l0_s N) progOk (impl_places_gok N) (draw_ok progOk (impl_places_gok N)) (fun R k x ks => impl_places_l0_again N ks k x) (fun _ _ _ => rfl) (fun R k x ks => impl_places_l0_step N R k x ks) (fun R x ks r h => ⟨N, h⟩) (lsOk_at (L := []) trivial) (by kernel_rfl) (by kernel_rfl)
noncomputable def impl_places (N : Nat) (a : (List Int)) (b : (List Int)) : Option (((List Int) × Unit) × (Unit)) :=
  impl_places_l0 N (fun o => some ((o, ()), ())) N b a (tLen a) 0 []
noncomputable def impl_places_S (N : Nat) : FSum := ⟨impl_places_ps, impl_places_rs, fun x => impl_places N x.1 x.2.1⟩
theorem impl_places_run (N : Nat) (x : argsT impl_places_ps) : impl_places N x.1 x.2.1 = funF (impl_places_G N) tab [impl_places_l0_s N] Tryz.f188 impl_places_ps impl_places_rs x := by kernel_rfl
theorem impl_places_pc (N : Nat) : PC Tryz.prog 188 (impl_places_S N) := by
  have e : impl_places_S N = ⟨impl_places_ps, impl_places_rs, funF (impl_places_G N) tab [impl_places_l0_s N] Tryz.f188 impl_places_ps impl_places_rs⟩ := congrArg (FSum.mk impl_places_ps impl_places_rs) (funext (impl_places_run N))
  rw [e]
  exact fun_ok (c := impl_places_code) progOk (impl_places_gok N) (draw_ok progOk (impl_places_gok N)) Tryz.call188 Tryz.func188 (by kernel_rfl) (lsOk_at (L := [impl_places_l0_s N]) ⟨impl_places_l0_ok N, trivial⟩) (by kernel_rfl) (by kernel_rfl) (by kernel_rfl) (by kernel_rfl) (by kernel_rfl)

/-! ### impl_isChange -/
abbrev impl_isChange_ps : List (PV.Mode × Ty) := [(.ro, LI), (.ro, LI)]
abbrev impl_isChange_rs : List (Bool × Ty) := [(true, .bool)]
noncomputable def impl_isChange_G (N : Nat) : GTab := gOf [(188, impl_places_S N)]
theorem impl_isChange_gok (N : Nat) : GOk Tryz.prog (impl_isChange_G N) := gOf_ok ⟨impl_places_pc N, trivial⟩
noncomputable def impl_isChange_code : Code := (Tryz.f185.body).getD .skip
noncomputable def impl_isChange (N : Nat) (a : (List Int)) (b : (List Int)) : Option ((Bool × Unit) × (Unit)) :=
  ((impl_places N a b).bind fun r =>
    some (((ieq (tLen r.1.1) 1), ()), ()))
noncomputable def impl_isChange_S (N : Nat) : FSum := ⟨impl_isChange_ps, impl_isChange_rs, fun x => impl_isChange N x.1 x.2.1⟩
theorem impl_isChange_run (N : Nat) (x : argsT impl_isChange_ps) : impl_isChange N x.1 x.2.1 = funF (impl_isChange_G N) tab [] Tryz.f185 impl_isChange_ps impl_isChange_rs x := by kernel_rfl
theorem impl_isChange_pc (N : Nat) : PC Tryz.prog 185 (impl_isChange_S N) := by
  have e : impl_isChange_S N = ⟨impl_isChange_ps, impl_isChange_rs, funF (impl_isChange_G N) tab [] Tryz.f185 impl_isChange_ps impl_isChange_rs⟩ := congrArg (FSum.mk impl_isChange_ps impl_isChange_rs) (funext (impl_isChange_run N))
  rw [e]
  exact fun_ok (c := impl_isChange_code) progOk (impl_isChange_gok N) (draw_ok progOk (impl_isChange_gok N)) Tryz.call185 Tryz.func185 (by kernel_rfl) (lsOk_at (L := []) trivial) (by kernel_rfl) (by kernel_rfl) (by kernel_rfl) (by kernel_rfl) (by kernel_rfl)

/-! ### impl_orNone -/
abbrev impl_orNone_ps : List (PV.Mode × Ty) := [(.own, QLLILQII)]
abbrev impl_orNone_rs : List (Bool × Ty) := [(true, QLLILQII), (true, .bool)]
noncomputable def impl_orNone_G (N : Nat) : GTab := gOf []
theorem impl_orNone_gok (N : Nat) : GOk Tryz.prog (impl_orNone_G N) := gOf_ok trivial
noncomputable def impl_orNone_code : Code := (Tryz.f184.body).getD .skip
noncomputable def impl_orNone (N : Nat) (x : ((List (List Int)) × (List (Int × Int)))) : Option ((((List (List Int)) × (List (Int × Int))) × Bool × Unit) × (Unit)) :=
  (br (ilt 300 (tLen x.1))
    (some ((([], []), false, ()), ()))
    ((br (ilt 6000 (tLen x.2))
      (some ((([], []), false, ()), ()))
      (some (((x.1, x.2), true, ()), ())))))
noncomputable def impl_orNone_S (N : Nat) : FSum := ⟨impl_orNone_ps, impl_orNone_rs, fun x => impl_orNone N x.1⟩
theorem impl_orNone_run (N : Nat) (x : argsT impl_orNone_ps) : impl_orNone N x.1 = funF (impl_orNone_G N) tab [] Tryz.f184 impl_orNone_ps impl_orNone_rs x := by kernel_rfl
theorem impl_orNone_pc (N : Nat) : PC Tryz.prog 184 (impl_orNone_S N) := by
  have e : impl_orNone_S N = ⟨impl_orNone_ps, impl_orNone_rs, funF (impl_orNone_G N) tab [] Tryz.f184 impl_orNone_ps impl_orNone_rs⟩ := congrArg (FSum.mk impl_orNone_ps impl_orNone_rs) (funext (impl_orNone_run N))
  rw [e]
  exact fun_ok (c := impl_orNone_code) progOk (impl_orNone_gok N) (draw_ok progOk (impl_orNone_gok N)) Tryz.call184 Tryz.func184 (by kernel_rfl) (lsOk_at (L := []) trivial) (by kernel_rfl) (by kernel_rfl) (by kernel_rfl) (by kernel_rfl) (by kernel_rfl)

/-! ### impl_ColourSpace -/
abbrev impl_ColourSpace_ps : List (PV.Mode × Ty) := [(.ro, QILQII), (.ro, I)]
abbrev impl_ColourSpace_rs : List (Bool × Ty) := [(true, QLLILQII), (true, .bool)]
noncomputable def impl_ColourSpace_G (N : Nat) : GTab := gOf [(75, impl_Colourings_S N), (158, impl_spaceOf_S N), (185, impl_isChange_S N), (184, impl_orNone_S N)]
theorem impl_ColourSpace_gok (N : Nat) : GOk Tryz.prog (impl_ColourSpace_G N) := gOf_ok ⟨impl_Colourings_pc N, impl_spaceOf_pc N, impl_isChange_pc N, impl_orNone_pc N, trivial⟩
noncomputable def impl_ColourSpace_code : Code := (Tryz.f71.body).getD .skip
noncomputable def impl_ColourSpace (N : Nat) (g : (Int × (List (Int × Int)))) (kv : Int) : Option ((((List (List Int)) × (List (Int × Int))) × Bool × Unit) × (Unit)) :=
  ((impl_Colourings N (g.1, g.2) kv).bind fun r =>
    (br (!r.1.2.1)
      (some ((([], []), false, ()), ()))
      (((impl_spaceOf N r.1.1 (fun y0 y1 => (impl_isChange N y0 y1).bind fun z => some z.1.1)).bind fun r1 =>
        ((impl_orNone N (r1.1.1.1, r1.1.1.2)).bind fun r2 =>
          some (((r2.1.1.1, r2.1.1.2), r2.1.2.1, ()), ()))))))
noncomputable def impl_ColourSpace_S (N : Nat) : FSum := ⟨impl_ColourSpace_ps, impl_ColourSpace_rs, fun x => impl_ColourSpace N x.1 x.2.1⟩
theorem impl_ColourSpace_run (N : Nat) (x : argsT impl_ColourSpace_ps) : impl_ColourSpace N x.1 x.2.1 = funF (impl_ColourSpace_G N) tab [] Tryz.f71 impl_ColourSpace_ps impl_ColourSpace_rs x := by kernel_rfl
theorem impl_ColourSpace_pc (N : Nat) : PC Tryz.prog 71 (impl_ColourSpace_S N) := by
  have e : impl_ColourSpace_S N = ⟨impl_ColourSpace_ps, impl_ColourSpace_rs, funF (impl_ColourSpace_G N) tab [] Tryz.f71 impl_ColourSpace_ps impl_ColourSpace_rs⟩ := congrArg (FSum.mk impl_ColourSpace_ps impl_ColourSpace_rs) (funext (impl_ColourSpace_run N))
  rw [e]
  exact fun_ok (c := impl_ColourSpace_code) progOk (impl_ColourSpace_gok N) (draw_ok progOk (impl_ColourSpace_gok N)) Tryz.call71 Tryz.func71 (by kernel_rfl) (lsOk_at (L := []) trivial) (by kernel_rfl) (by kernel_rfl) (by kernel_rfl) (by kernel_rfl) (by kernel_rfl)

/-! ### spec_l5Ask -/
abbrev spec_l5Ask_ps : List (PV.Mode × Ty) := [(.ro, QILQII), (.ro, I)]
abbrev spec_l5Ask_rs : List (Bool × Ty) := [(true, .bool)]
noncomputable def spec_l5Ask_G (N : Nat) : GTab := gOf [(146, spec_l2Good_S N), (238, spec_l1In_S N)]
theorem spec_l5Ask_gok (N : Nat) : GOk Tryz.prog (spec_l5Ask_G N) := gOf_ok ⟨spec_l2Good_pc N, spec_l1In_pc N, trivial⟩
noncomputable def spec_l5Ask_code : Code := (Tryz.f266.body).getD .skip
noncomputable def spec_l5Ask (N : Nat) (g : (Int × (List (Int × Int)))) (kv : Int) : Option ((Bool × Unit) × (Unit)) :=
  ((spec_l2Good N (g.1, g.2)).bind fun r =>
    (br r.1.1
      (((spec_l1In N kv 1 5).bind fun r1 =>
        some ((r1.1.1, ()), ())))
      (some ((false, ()), ()))))
noncomputable def spec_l5Ask_S (N : Nat) : FSum := ⟨spec_l5Ask_ps, spec_l5Ask_rs, fun x => spec_l5Ask N x.1 x.2.1⟩
theorem spec_l5Ask_run (N : Nat) (x : argsT spec_l5Ask_ps) : spec_l5Ask N x.1 x.2.1 = funF (spec_l5Ask_G N) tab [] Tryz.f266 spec_l5Ask_ps spec_l5Ask_rs x := by kernel_rfl
theorem spec_l5Ask_pc (N : Nat) : PC Tryz.prog 266 (spec_l5Ask_S N) := by
  have e : spec_l5Ask_S N = ⟨spec_l5Ask_ps, spec_l5Ask_rs, funF (spec_l5Ask_G N) tab [] Tryz.f266 spec_l5Ask_ps spec_l5Ask_rs⟩ := congrArg (FSum.mk spec_l5Ask_ps spec_l5Ask_rs) (funext (spec_l5Ask_run N))
  rw [e]
  exact fun_ok (c := spec_l5Ask_code) progOk (spec_l5Ask_gok N) (draw_ok progOk (spec_l5Ask_gok N)) Tryz.call266 Tryz.func266 (by kernel_rfl) (lsOk_at (L := []) trivial) (by kernel_rfl) (by kernel_rfl) (by kernel_rfl) (by kernel_rfl) (by kernel_rfl)

/-! ### spec_l1Own -/
abbrev spec_l1Own_ps : List (PV.Mode × Ty) := [(.ro, LI)]
abbrev spec_l1Own_rs : List (Bool × Ty) := [(true, LI)]
noncomputable def spec_l1Own_G (N : Nat) : GTab := gOf []
theorem spec_l1Own_gok (N : Nat) : GOk Tryz.prog (spec_l1Own_G N) := gOf_ok trivial
noncomputable def spec_l1Own_code : Code := (Tryz.f135.body).getD .skip
noncomputable def spec_l1Own (N : Nat) (l : (List Int)) : Option (((List Int) × Unit) × (Unit)) :=
  (chk (room (α := Int) (β := Int) [] l)
    (some (((tApp [] l), ()), ())))
noncomputable def spec_l1Own_S (N : Nat) : FSum := ⟨spec_l1Own_ps, spec_l1Own_rs, fun x => spec_l1Own N x.1⟩
theorem spec_l1Own_run (N : Nat) (x : argsT spec_l1Own_ps) : spec_l1Own N x.1 = funF (spec_l1Own_G N) tab [] Tryz.f135 spec_l1Own_ps spec_l1Own_rs x := by kernel_rfl
theorem spec_l1Own_pc (N : Nat) : PC Tryz.prog 135 (spec_l1Own_S N) := by
  have e : spec_l1Own_S N = ⟨spec_l1Own_ps, spec_l1Own_rs, funF (spec_l1Own_G N) tab [] Tryz.f135 spec_l1Own_ps spec_l1Own_rs⟩ := congrArg (FSum.mk spec_l1Own_ps spec_l1Own_rs) (funext (spec_l1Own_run N))
  rw [e]
  exact fun_ok (c := spec_l1Own_code) progOk (spec_l1Own_gok N) (draw_ok progOk (spec_l1Own_gok N)) Tryz.call135 Tryz.func135 (by kernel_rfl) (lsOk_at (L := []) trivial) (by kernel_rfl) (by kernel_rfl) (by kernel_rfl) (by kernel_rfl) (by kernel_rfl)

/-! ### spec_l5More -/
abbrev spec_l5More_ps : List (PV.Mode × Ty) := [(.ro, QILQII), (.ro, I), (.ro, LI), (.own, LLI)]
abbrev spec_l5More_rs : List (Bool × Ty) := [(true, LLI)]
noncomputable def spec_l5More_T (slf : ((Int × (List (Int × Int))) → Int → (List Int) → (List (List Int)) → Option (((List (List Int)) × Unit) × (Unit)))) : FSum := ⟨spec_l5More_ps, spec_l5More_rs, fun x => slf x.1 x.2.1 x.2.2.1 x.2.2.2.1⟩
noncomputable def spec_l5More_G (N : Nat) (slf : ((Int × (List (Int × Int))) → Int → (List Int) → (List (List Int)) → Option (((List (List Int)) × Unit) × (Unit)))) : GTab := gOf [(267, spec_l5More_T slf), (135, spec_l1Own_S N), (149, spec_l2Near_S N)]
theorem spec_l5More_gok (N : Nat) (slf : ((Int × (List (Int × Int))) → Int → (List Int) → (List (List Int)) → Option (((List (List Int)) × Unit) × (Unit)))) (hslf : PC Tryz.prog 267 (spec_l5More_T slf)) : GOk Tryz.prog (spec_l5More_G N slf) := gOf_ok ⟨hslf, spec_l1Own_pc N, spec_l2Near_pc N, trivial⟩
noncomputable def spec_l5More_code : Code := (Tryz.f267.body).getD .skip
noncomputable def spec_l5More_l0_0_sh : Sh := ⟨[(1, .one (.ro I)), (2, .one (.ro LI)), (3, .one (.ref 0)), (4, .one (.adr 1 0)), (9, .one (.ro I)), (10, .one (.ro .bool)), (11, .one (.ro I)), (26, .one (.ref 0)), (27, .one (.ro I)), (28, .one (.ro .bool))], [.sl 25 LI .deep, .box [.ro I, .ro LQII]]⟩
noncomputable def spec_l5More_l0_0_ex : List (Ex × Sh) := [(.exit 2, ⟨[(1, .one (.ro I)), (2, .one (.ro LI)), (3, .one (.ref 0)), (4, .one (.adr 1 0)), (9, .one (.ro I)), (10, .one (.ro .bool)), (26, .one (.ref 0)), (27, .one (.ro I)), (28, .one (.ro .bool))], [.sl 25 LI .deep, .box [.ro I, .ro LQII]]⟩)]
noncomputable def spec_l5More_l0_0 {R : Type} (N : Nat) (slf : ((Int × (List (Int × Int))) → Int → (List Int) → (List (List Int)) → Option (((List (List Int)) × Unit) × (Unit)))) (k0 : Int → (List Int) → Int → Bool → Int → Bool → (List (List Int)) → Int → (List (Int × Int)) → Option R) : Nat → Int → (List Int) → Int → Bool → Int → Int → Bool → (List (List Int)) → Int → (List (Int × Int)) → Option R
  | 0, _, _, _, _, _, _, _, _, _, _ => none
  | K + 1, x3, x4, x5, x6, x7, x8, x9, o3, o4, o5 =>
    (br (ilt x7 (tLen x4))
      ((br x6
        ((chk (inb x4 x7)
          (br (ine (rdI x4 x7) x5)
          (spec_l5More_l0_0 N slf k0 K x3 x4 x5 true (IntKind.i64.wrap (x7 + 1)) x8 x9 o3 o4 o5)
          (((spec_l2Near N (o4, o5) x7 (tLen x4)).bind fun r1 =>
            spec_l5More_l0_0 N slf k0 K x3 x4 x5 (!r1.1.1) (IntKind.i64.wrap (x7 + 1)) x8 x9 o3 o4 o5)))))
        (spec_l5More_l0_0 N slf k0 K x3 x4 x5 false (IntKind.i64.wrap (x7 + 1)) x8 x9 o3 o4 o5)))
      (k0 x3 x4 x5 x6 x8 x9 o3 o4 o5))
noncomputable def spec_l5More_l0_0_again {R : Type} (N : Nat) (slf : ((Int × (List (Int × Int))) → Int → (List Int) → (List (List Int)) → Option (((List (List Int)) × Unit) × (Unit)))) (ks : (j : Nat) → ((spec_l5More_l0_0_ex.getD j (.ret, Sh.none)).2).T → Option R) (k : Nat) (x : spec_l5More_l0_0_sh.T) : Option R :=
  spec_l5More_l0_0 N slf (fun y0 y1 y2 y3 y4 y5 y6 y7 y8 => ks 0 ((y0, y1, (), (), y2, y3, (), y4, y5, ()), (y6, (y7, y8, ()), ()))) k x.1.1 x.1.2.1 x.1.2.2.2.2.1 x.1.2.2.2.2.2.1 x.1.2.2.2.2.2.2.1 x.1.2.2.2.2.2.2.2.2.1 x.1.2.2.2.2.2.2.2.2.2.1 x.2.1 x.2.2.1.1 x.2.2.1.2.1
noncomputable def spec_l5More_l0_0_s (N : Nat) (slf : ((Int × (List (Int × Int))) → Int → (List Int) → (List (List Int)) → Option (((List (List Int)) × Unit) × (Unit)))) : LSum := ⟨spec_l5More_l0_0_sh, spec_l5More_l0_0_ex, fun x ks => spec_l5More_l0_0_again N slf ks N x⟩
theorem spec_l5More_l0_0_step (N : Nat) (slf : ((Int × (List (Int × Int))) → Int → (List Int) → (List (List Int)) → Option (((List (List Int)) × Unit) × (Unit)))) (R : Type) (k : Nat) (x : spec_l5More_l0_0_sh.T) (ks : (j : Nat) → ((spec_l5More_l0_0_ex.getD j (.ret, Sh.none)).2).T → Option R) : spec_l5More_l0_0_again N slf ks (k + 1) x = roundF (spec_l5More_G N slf) tab [] (loopAt (loopAt spec_l5More_code 0) 0) spec_l5More_l0_0_sh spec_l5More_l0_0_ex (fun y => spec_l5More_l0_0_again N slf ks k y) ks x := by kernel_rfl
theorem spec_l5More_l0_0_ok (N : Nat) (slf : ((Int × (List (Int × Int))) → Int → (List Int) → (List (List Int)) → Option (((List (List Int)) × Unit) × (Unit)))) (hslf : PC Tryz.prog 267 (spec_l5More_T slf)) : LoopOk Tryz.prog Tryz.f267.ntmps (spec_l5More_l0_0_s N slf) (loopAt (loopAt spec_l5More_code 0) 0) :=
  loop_ok (l := spec_l5More_l0_0_s N slf) progOk (spec_l5More_gok N slf hslf) (draw_ok progOk (spec_l5More_gok N slf hslf)) (fun R k x ks => spec_l5More_l0_0_again N slf ks k x) (fun _ _ _ => rfl) (fun R k x ks => spec_l5More_l0_0_step N slf R k x ks) (fun R x ks r h => ⟨N, h⟩) (lsOk_at (L := []) trivial) (by kernel_rfl) (by kernel_rfl)
noncomputable def spec_l5More_l0_sh : Sh := ⟨[(1, .one (.ro I)), (2, .one (.ro LI)), (3, .one (.ref 0)), (4, .one (.adr 1 0)), (9, .one (.ro I))], [.sl 25 LI .deep, .box [.ro I, .ro LQII]]⟩
noncomputable def spec_l5More_l0_ex : List (Ex × Sh) := [(.exit 0, ⟨[(3, .one (.ref 0))], [.sl 25 LI .deep]⟩)]
noncomputable def spec_l5More_l0 {R : Type} (N : Nat) (slf : ((Int × (List (Int × Int))) → Int → (List Int) → (List (List Int)) → Option (((List (List Int)) × Unit) × (Unit)))) (k0 : (List (List Int)) → Option R) : Nat → Int → (List Int) → Int → (List (List Int)) → Int → (List (Int × Int)) → Option R
  | 0, _, _, _, _, _, _ => none
  | K + 1, x, x1, x2, o, o1, o2 =>
    (br (ilt x2 x)
      ((br (ile (tLen o) 300)
        (spec_l5More_l0_0 N slf (fun x3 x4 x5 x6 x7 x8 o3 o4 o5 => (br x6
          (((spec_l1Own N x4).bind fun r1 =>
            (chk (room r1.1.1 [x5])
              ((slf (o4, o5) x3 (tApp r1.1.1 [x5]) o3).bind fun r2 =>
              spec_l5More_l0 N slf k0 K x3 x4 (IntKind.i64.wrap (x5 + 1)) r2.1.1 o4 o5))))
          (spec_l5More_l0 N slf k0 K x3 x4 (IntKind.i64.wrap (x5 + 1)) o3 o4 o5))) N x x1 x2 true 0 (tLen o) (ile (tLen o) 300) o o1 o2)
        (k0 o)))
      (k0 o))
noncomputable def spec_l5More_l0_again {R : Type} (N : Nat) (slf : ((Int × (List (Int × Int))) → Int → (List Int) → (List (List Int)) → Option (((List (List Int)) × Unit) × (Unit)))) (ks : (j : Nat) → ((spec_l5More_l0_ex.getD j (.ret, Sh.none)).2).T → Option R) (k : Nat) (x : spec_l5More_l0_sh.T) : Option R :=
  spec_l5More_l0 N slf (fun y0 => ks 0 (((), ()), (y0, ()))) k x.1.1 x.1.2.1 x.1.2.2.2.2.1 x.2.1 x.2.2.1.1 x.2.2.1.2.1
noncomputable def spec_l5More_l0_s (N : Nat) (slf : ((Int × (List (Int × Int))) → Int → (List Int) → (List (List Int)) → Option (((List (List Int)) × Unit) × (Unit)))) : LSum := ⟨spec_l5More_l0_sh, spec_l5More_l0_ex, fun x ks => spec_l5More_l0_again N slf ks N x⟩
theorem spec_l5More_l0_step (N : Nat) (slf : ((Int × (List (Int × Int))) → Int → (List Int) → (List (List Int)) → Option (((List (List Int)) × Unit) × (Unit)))) (R : Type) (k : Nat) (x : spec_l5More_l0_sh.T) (ks : (j : Nat) → ((spec_l5More_l0_ex.getD j (.ret, Sh.none)).2).T → Option R) : spec_l5More_l0_again N slf ks (k + 1) x = roundF (spec_l5More_G N slf) tab [spec_l5More_l0_0_s N slf] (loopAt spec_l5More_code 0) spec_l5More_l0_sh spec_l5More_l0_ex (fun y => spec_l5More_l0_again N slf ks k y) ks x := by kernel_rfl
theorem spec_l5More_l0_ok (N : Nat) (slf : ((Int × (List (Int × Int))) → Int → (List Int) → (List (List Int)) → Option (((List (List Int)) × Unit) × (Unit)))) (hslf : PC Tryz.prog 267 (spec_l5More_T slf)) : LoopOk Tryz.prog Tryz.f267.ntmps (spec_l5More_l0_s N slf) (loopAt spec_l5More_code 0) :=
  loop_ok (l := spec_l5More_l0_s N slf) progOk (spec_l5More_gok N slf hslf) (draw_ok progOk (spec_l5More_gok N slf hslf)) (fun R k x ks => spec_l5More_l0_again N slf ks k x) (fun _ _ _ => rfl) (fun R k x ks => spec_l5More_l0_step N slf R k x ks) (fun R x ks r h => ⟨N, h⟩) (lsOk_at (L := [spec_l5More_l0_0_s N slf]) ⟨spec_l5More_l0_0_ok N slf hslf, trivial⟩) (by kernel_rfl) (by kernel_rfl)
noncomputable def spec_l5More_b (N : Nat) (slf : ((Int × (List (Int × Int))) → Int → (List Int) → (List (List Int)) → Option (((List (List Int)) × Unit) × (Unit)))) (c : (Int × (List (Int × Int)))) (c1 : Int) (c2 : (List Int)) (c3 : (List (List Int))) : Option (((List (List Int)) × Unit) × (Unit)) :=
  (br (ieq (tLen c2) c.1)
    (((spec_l1Own N c2).bind fun r =>
      (chk (room c3 [r.1.1])
        (some (((tApp c3 [r.1.1]), ()), ())))))
    (spec_l5More_l0 N slf (fun o => some ((o, ()), ())) N c1 c2 0 c3 c.1 c.2))
theorem spec_l5More_run (N : Nat) (slf : ((Int × (List (Int × Int))) → Int → (List Int) → (List (List Int)) → Option (((List (List Int)) × Unit) × (Unit)))) (x : argsT spec_l5More_ps) : spec_l5More_b N slf x.1 x.2.1 x.2.2.1 x.2.2.2.1 = funF (spec_l5More_G N slf) tab [spec_l5More_l0_s N slf] Tryz.f267 spec_l5More_ps spec_l5More_rs x := by kernel_rfl
theorem spec_l5More_bpc (N : Nat) (slf : ((Int × (List (Int × Int))) → Int → (List Int) → (List (List Int)) → Option (((List (List Int)) × Unit) × (Unit)))) (hslf : PC Tryz.prog 267 (spec_l5More_T slf)) : PC Tryz.prog 267 (spec_l5More_T (spec_l5More_b N slf)) := by
  have e : spec_l5More_T (spec_l5More_b N slf) = ⟨spec_l5More_ps, spec_l5More_rs, funF (spec_l5More_G N slf) tab [spec_l5More_l0_s N slf] Tryz.f267 spec_l5More_ps spec_l5More_rs⟩ := congrArg (FSum.mk spec_l5More_ps spec_l5More_rs) (funext (spec_l5More_run N slf))
  rw [e]
  exact fun_ok (c := spec_l5More_code) progOk (spec_l5More_gok N slf hslf) (draw_ok progOk (spec_l5More_gok N slf hslf)) Tryz.call267 Tryz.func267 (by kernel_rfl) (lsOk_at (L := [spec_l5More_l0_s N slf]) ⟨spec_l5More_l0_ok N slf hslf, trivial⟩) (by kernel_rfl) (by kernel_rfl) (by kernel_rfl) (by kernel_rfl) (by kernel_rfl)
noncomputable def spec_l5More_r (N : Nat) : Nat → ((Int × (List (Int × Int))) → Int → (List Int) → (List (List Int)) → Option (((List (List Int)) × Unit) × (Unit)))
  | 0 => fun _ _ _ _ => none
  | K + 1 => spec_l5More_b N (spec_l5More_r N K)
theorem spec_l5More_rpc (N : Nat) : ∀ K, PC Tryz.prog 267 (spec_l5More_T (spec_l5More_r N K))
  | 0 => pc_none Tryz.call267
  | K + 1 => spec_l5More_bpc N (spec_l5More_r N K) (spec_l5More_rpc N K)
noncomputable def spec_l5More (N : Nat) (c : (Int × (List (Int × Int)))) (c1 : Int) (c2 : (List Int)) (c3 : (List (List Int))) : Option (((List (List Int)) × Unit) × (Unit)) := spec_l5More_r N N c c1 c2 c3
noncomputable def spec_l5More_S (N : Nat) : FSum := ⟨spec_l5More_ps, spec_l5More_rs, fun x => spec_l5More N x.1 x.2.1 x.2.2.1 x.2.2.2.1⟩
theorem spec_l5More_pc (N : Nat) : PC Tryz.prog 267 (spec_l5More_S N) := spec_l5More_rpc N N

/-! ### spec_l5All -/
abbrev spec_l5All_ps : List (PV.Mode × Ty) := [(.ro, QILQII), (.ro, I)]
abbrev spec_l5All_rs : List (Bool × Ty) := [(true, LLI), (true, .bool)]
noncomputable def spec_l5All_G (N : Nat) : GTab := gOf [(266, spec_l5Ask_S N), (267, spec_l5More_S N)]
theorem spec_l5All_gok (N : Nat) : GOk Tryz.prog (spec_l5All_G N) := gOf_ok ⟨spec_l5Ask_pc N, spec_l5More_pc N, trivial⟩
noncomputable def spec_l5All_code : Code := (Tryz.f192.body).getD .skip
noncomputable def spec_l5All (N : Nat) (g : (Int × (List (Int × Int)))) (kv : Int) : Option (((List (List Int)) × Bool × Unit) × (Unit)) :=
  ((spec_l5Ask N (g.1, g.2) kv).bind fun r =>
    (br (!r.1.1)
      (some (([], false, ()), ()))
      (((spec_l5More N (g.1, g.2) kv [] []).bind fun r1 =>
        (br (ilt 300 (tLen r1.1.1))
          (some (([], false, ()), ()))
          (some ((r1.1.1, true, ()), ())))))))
noncomputable def spec_l5All_S (N : Nat) : FSum := ⟨spec_l5All_ps, spec_l5All_rs, fun x => spec_l5All N x.1 x.2.1⟩
theorem spec_l5All_run (N : Nat) (x : argsT spec_l5All_ps) : spec_l5All N x.1 x.2.1 = funF (spec_l5All_G N) tab [] Tryz.f192 spec_l5All_ps spec_l5All_rs x := by kernel_rfl
theorem spec_l5All_pc (N : Nat) : PC Tryz.prog 192 (spec_l5All_S N) := by
  have e : spec_l5All_S N = ⟨spec_l5All_ps, spec_l5All_rs, funF (spec_l5All_G N) tab [] Tryz.f192 spec_l5All_ps spec_l5All_rs⟩ := congrArg (FSum.mk spec_l5All_ps spec_l5All_rs) (funext (spec_l5All_run N))
  rw [e]
  exact fun_ok (c := spec_l5All_code) progOk (spec_l5All_gok N) (draw_ok progOk (spec_l5All_gok N)) Tryz.call192 Tryz.func192 (by kernel_rfl) (lsOk_at (L := []) trivial) (by kernel_rfl) (by kernel_rfl) (by kernel_rfl) (by kernel_rfl) (by kernel_rfl)
end Go.Proofs.YtbnjcjpnpidhmaaGreat
