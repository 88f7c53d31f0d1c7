/- Functions of the program as functions on data. -/
import Derived.Test.YtgelipdkheahdaaGreatExchangeWayFb
set_option linter.all false
namespace Go.Proofs.YtgelipdkheahdaaGreat
open Go Go.PV
/-! ### impl_Graph_isFree -/
abbrev impl_Graph_isFree_ps : List (PV.Mode × Ty) := [(.ro, QILQII), (.ro, U64)]
abbrev impl_Graph_isFree_rs : List (Bool × Ty) := [(true, .bool)]
noncomputable def impl_Graph_isFree_G (N : Nat) : GTab := gOf [(145, slices_ContainsFunc_LP_P2_S N), (214, impl_Graph_isFree_c1_S N)]
theorem impl_Graph_isFree_gok (N : Nat) : GOk Tryz.prog (impl_Graph_isFree_G N) := gOf_ok ⟨slices_ContainsFunc_LP_P2_pc N, impl_Graph_isFree_c1_pc N, trivial⟩
noncomputable def impl_Graph_isFree_code : Code := (Tryz.f198.body).getD .skip
noncomputable def impl_Graph_isFree (N : Nat) (g : (Int × (List (Int × Int)))) (b : Int) : Option ((Bool × Unit) × (Unit)) :=
  ((slices_ContainsFunc_LP_P2 N g.2 (fun y0 => (impl_Graph_isFree_c1 N y0 b).bind fun z => some z.1.1)).bind fun r =>
    some (((!r.1.1), ()), ()))
noncomputable def impl_Graph_isFree_S (N : Nat) : FSum := ⟨impl_Graph_isFree_ps, impl_Graph_isFree_rs, fun x => impl_Graph_isFree N x.1 x.2.1⟩
theorem impl_Graph_isFree_run (N : Nat) (x : argsT impl_Graph_isFree_ps) : impl_Graph_isFree N x.1 x.2.1 = funF (impl_Graph_isFree_G N) tab [] Tryz.f198 impl_Graph_isFree_ps impl_Graph_isFree_rs x := by kernel_rfl
theorem impl_Graph_isFree_pc (N : Nat) : PC Tryz.prog 198 (impl_Graph_isFree_S N) := by
  have e : impl_Graph_isFree_S N = ⟨impl_Graph_isFree_ps, impl_Graph_isFree_rs, funF (impl_Graph_isFree_G N) tab [] Tryz.f198 impl_Graph_isFree_ps impl_Graph_isFree_rs⟩ := congrArg (FSum.mk impl_Graph_isFree_ps impl_Graph_isFree_rs) (funext (impl_Graph_isFree_run N))
  rw [e]
  exact fun_ok (c := impl_Graph_isFree_code) progOk (impl_Graph_isFree_gok N) (draw_ok progOk (impl_Graph_isFree_gok N)) Tryz.call198 Tryz.func198 (by kernel_rfl) (lsOk_at (L := []) trivial) (by kernel_rfl) (by kernel_rfl) (by kernel_rfl) (by kernel_rfl) (by kernel_rfl)

/-! ### impl_bag_list -/
abbrev impl_bag_list_ps : List (PV.Mode × Ty) := [(.ro, U64)]
abbrev impl_bag_list_rs : List (Bool × Ty) := [(true, LI)]
noncomputable def impl_bag_list_G (N : Nat) : GTab := gOf []
theorem impl_bag_list_gok (N : Nat) : GOk Tryz.prog (impl_bag_list_G N) := gOf_ok trivial
noncomputable def impl_bag_list_code : Code := (Tryz.f69.body).getD .skip
noncomputable def impl_bag_list_l0_sh : Sh := ⟨[(0, .one (.ro U64)), (3, .one (.ref 0)), (6, .one (.ro I))], [.sl 3 I .own]⟩
noncomputable def impl_bag_list_l0_ex : List (Ex × Sh) := [(.exit 0, ⟨[(3, .one (.ref 0))], [.sl 3 I .own]⟩)]
noncomputable def impl_bag_list_l0 {R : Type} (N : Nat) (k0 : (List Int) → Option R) : Nat → Int → Int → (List Int) → Option R
  | 0, _, _, _ => none
  | K + 1, b1, x, o =>
    (br (ilt x 8)
      ((chk (ile 0 x)
        (br (ieq (bitop .and .u64 (shrI .u64 b1 x) 1) 1)
        ((chk (room o [x])
          (impl_bag_list_l0 N k0 K b1 (IntKind.i64.wrap (x + 1)) (tApp o [x]))))
        (impl_bag_list_l0 N k0 K b1 (IntKind.i64.wrap (x + 1)) o))))
      (k0 o))
noncomputable def impl_bag_list_l0_again {R : Type} (N : Nat) (ks : (j : Nat) → ((impl_bag_list_l0_ex.getD j (.ret, Sh.none)).2).T → Option R) (k : Nat) (x : impl_bag_list_l0_sh.T) : Option R :=
  impl_bag_list_l0 N (fun y0 => ks 0 (((), ()), (y0, ()))) k x.1.1 x.1.2.2.1 x.2.1
noncomputable def impl_bag_list_l0_s (N : Nat) : LSum := ⟨impl_bag_list_l0_sh, impl_bag_list_l0_ex, fun x ks => impl_bag_list_l0_again N ks N x⟩
theorem impl_bag_list_l0_step (N : Nat) (R : Type) (k : Nat) (x : impl_bag_list_l0_sh.T) (ks : (j : Nat) → ((impl_bag_list_l0_ex.getD j (.ret, Sh.none)).2).T → Option R) : impl_bag_list_l0_again N ks (k + 1) x = roundF (impl_bag_list_G N) tab [] (loopAt impl_bag_list_code 0) impl_bag_list_l0_sh impl_bag_list_l0_ex (fun y => impl_bag_list_l0_again N ks k y) ks x := by kernel_rfl
theorem impl_bag_list_l0_ok (N : Nat) : LoopOk Tryz.prog Tryz.f69.ntmps (impl_bag_list_l0_s N) (loopAt impl_bag_list_code 0) :=
  loop_ok (l := impl_bag_list_l0_s N) progOk (impl_bag_list_gok N) (draw_ok progOk (impl_bag_list_gok N)) (fun R k x ks => impl_bag_list_l0_again N ks k x) (fun _ _ _ => rfl) (fun R k x ks => impl_bag_list_l0_step N R k x ks) (fun R x ks r h => ⟨N, h⟩) (lsOk_at (L := []) trivial) (by kernel_rfl) (by kernel_rfl)
noncomputable def impl_bag_list (N : Nat) (b : Int) : Option (((List Int) × Unit) × (Unit)) :=
  impl_bag_list_l0 N (fun o => some ((o, ()), ())) N b 0 []
noncomputable def impl_bag_list_S (N : Nat) : FSum := ⟨impl_bag_list_ps, impl_bag_list_rs, fun x => impl_bag_list N x.1⟩
theorem impl_bag_list_run (N : Nat) (x : argsT impl_bag_list_ps) : impl_bag_list N x.1 = funF (impl_bag_list_G N) tab [impl_bag_list_l0_s N] Tryz.f69 impl_bag_list_ps impl_bag_list_rs x := by kernel_rfl
theorem impl_bag_list_pc (N : Nat) : PC Tryz.prog 69 (impl_bag_list_S N) := by
  have e : impl_bag_list_S N = ⟨impl_bag_list_ps, impl_bag_list_rs, funF (impl_bag_list_G N) tab [impl_bag_list_l0_s N] Tryz.f69 impl_bag_list_ps impl_bag_list_rs⟩ := congrArg (FSum.mk impl_bag_list_ps impl_bag_list_rs) (funext (impl_bag_list_run N))
  rw [e]
  exact fun_ok (c := impl_bag_list_code) progOk (impl_bag_list_gok N) (draw_ok progOk (impl_bag_list_gok N)) Tryz.call69 Tryz.func69 (by kernel_rfl) (lsOk_at (L := [impl_bag_list_l0_s N]) ⟨impl_bag_list_l0_ok N, trivial⟩) (by kernel_rfl) (by kernel_rfl) (by kernel_rfl) (by kernel_rfl) (by kernel_rfl)

/-! ### impl_pair -/
abbrev impl_pair_ps : List (PV.Mode × Ty) := [(.ro, I), (.ro, I)]
abbrev impl_pair_rs : List (Bool × Ty) := [(true, QII)]
noncomputable def impl_pair_G (N : Nat) : GTab := gOf []
theorem impl_pair_gok (N : Nat) : GOk Tryz.prog (impl_pair_G N) := gOf_ok trivial
noncomputable def impl_pair_code : Code := (Tryz.f204.body).getD .skip
noncomputable def impl_pair (N : Nat) (a : Int) (b : Int) : Option (((Int × Int) × Unit) × (Unit)) :=
  some ((((if b < a then b else a), (if b > a then b else a)), ()), ())
noncomputable def impl_pair_S (N : Nat) : FSum := ⟨impl_pair_ps, impl_pair_rs, fun x => impl_pair N x.1 x.2.1⟩
theorem impl_pair_run (N : Nat) (x : argsT impl_pair_ps) : impl_pair N x.1 x.2.1 = funF (impl_pair_G N) tab [] Tryz.f204 impl_pair_ps impl_pair_rs x := by kernel_rfl
theorem impl_pair_pc (N : Nat) : PC Tryz.prog 204 (impl_pair_S N) := by
  have e : impl_pair_S N = ⟨impl_pair_ps, impl_pair_rs, funF (impl_pair_G N) tab [] Tryz.f204 impl_pair_ps impl_pair_rs⟩ := congrArg (FSum.mk impl_pair_ps impl_pair_rs) (funext (impl_pair_run N))
  rw [e]
  exact fun_ok (c := impl_pair_code) progOk (impl_pair_gok N) (draw_ok progOk (impl_pair_gok N)) Tryz.call204 Tryz.func204 (by kernel_rfl) (lsOk_at (L := []) trivial) (by kernel_rfl) (by kernel_rfl) (by kernel_rfl) (by kernel_rfl) (by kernel_rfl)

/-! ### slices_Index_LP_P2 -/
abbrev slices_Index_LP_P2_ps : List (PV.Mode × Ty) := [(.ro, LQII), (.ro, QII)]
abbrev slices_Index_LP_P2_rs : List (Bool × Ty) := [(true, I)]
noncomputable def slices_Index_LP_P2_G (N : Nat) : GTab := gOf []
theorem slices_Index_LP_P2_gok (N : Nat) : GOk Tryz.prog (slices_Index_LP_P2_G N) := gOf_ok trivial
noncomputable def slices_Index_LP_P2_code : Code := (Tryz.f219.body).getD .skip
noncomputable def slices_Index_LP_P2_l0_sh : Sh := ⟨[(0, .one (.ro LQII)), (3, .one (.adr 0 0)), (7, .one (.ro I)), (8, .one (.ro I))], [.box [.ro I, .ro I]]⟩
noncomputable def slices_Index_LP_P2_l0_ex : List (Ex × Sh) := [(.ret, ⟨[(4, .one (.ro I))], []⟩), (.exit 0, ⟨[], []⟩)]
noncomputable def slices_Index_LP_P2_l0 {R : Type} (N : Nat) (k0 : Int → Option R) (k1 : Unit → Option R) : Nat → (List (Int × Int)) → Int → Int → Int → Int → Option R
  | 0, _, _, _, _, _ => none
  | K + 1, s1, x, x1, o, o1 =>
    (br (ilt x1 x)
      ((chk (inb s1 x1)
        (br (ieq o ((rdP s1 x1).1) && ieq o1 ((rdP s1 x1).2))
        (k0 x1)
        (slices_Index_LP_P2_l0 N k0 k1 K s1 x (IntKind.i64.wrap (x1 + 1)) o o1))))
      (k1 ()))
noncomputable def slices_Index_LP_P2_l0_again {R : Type} (N : Nat) (ks : (j : Nat) → ((slices_Index_LP_P2_l0_ex.getD j (.ret, Sh.none)).2).T → Option R) (k : Nat) (x : slices_Index_LP_P2_l0_sh.T) : Option R :=
  slices_Index_LP_P2_l0 N (fun y0 => ks 0 ((y0, ()), ())) (fun (_ : Unit) => ks 1 ((), ())) k x.1.1 x.1.2.2.1 x.1.2.2.2.1 x.2.1.1 x.2.1.2.1
noncomputable def slices_Index_LP_P2_l0_s (N : Nat) : LSum := ⟨slices_Index_LP_P2_l0_sh, slices_Index_LP_P2_l0_ex, fun x ks => slices_Index_LP_P2_l0_again N ks N x⟩
theorem slices_Index_LP_P2_l0_step (N : Nat) (R : Type) (k : Nat) (x : slices_Index_LP_P2_l0_sh.T) (ks : (j : Nat) → ((slices_Index_LP_P2_l0_ex.getD j (.ret, Sh.none)).2).T → Option R) : slices_Index_LP_P2_l0_again N ks (k + 1) x = roundF (slices_Index_LP_P2_G N) tab [] (loopAt slices_Index_LP_P2_code 0) slices_Index_LP_P2_l0_sh slices_Index_LP_P2_l0_ex (fun y => slices_Index_LP_P2_l0_again N ks k y) ks x := by kernel_rfl
theorem slices_Index_LP_P2_l0_ok (N : Nat) : LoopOk Tryz.prog Tryz.f219.ntmps (slices_Index_LP_P2_l0_s N) (loopAt slices_Index_LP_P2_code 0) :=
  loop_ok (l := slices_Index_LP_P2_l0_s N) progOk (slices_Index_LP_P2_gok N) (draw_ok progOk (slices_Index_LP_P2_gok N)) (fun R k x ks => slices_Index_LP_P2_l0_again N ks k x) (fun _ _ _ => rfl) (fun R k x ks => slices_Index_LP_P2_l0_step N R k x ks) (fun R x ks r h => ⟨N, h⟩) (lsOk_at (L := []) trivial) (by kernel_rfl) (by kernel_rfl)
noncomputable def slices_Index_LP_P2 (N : Nat) (s : (List (Int × Int))) (v : (Int × Int)) : Option ((Int × Unit) × (Unit)) :=
  slices_Index_LP_P2_l0 N (fun x => some ((x, ()), ())) (fun (_ : Unit) => some (((-1), ()), ())) N s (tLen s) 0 v.1 v.2
noncomputable def slices_Index_LP_P2_S (N : Nat) : FSum := ⟨slices_Index_LP_P2_ps, slices_Index_LP_P2_rs, fun x => slices_Index_LP_P2 N x.1 x.2.1⟩
theorem slices_Index_LP_P2_run (N : Nat) (x : argsT slices_Index_LP_P2_ps) : slices_Index_LP_P2 N x.1 x.2.1 = funF (slices_Index_LP_P2_G N) tab [slices_Index_LP_P2_l0_s N] Tryz.f219 slices_Index_LP_P2_ps slices_Index_LP_P2_rs x := by kernel_rfl
theorem slices_Index_LP_P2_pc (N : Nat) : PC Tryz.prog 219 (slices_Index_LP_P2_S N) := by
  have e : slices_Index_LP_P2_S N = ⟨slices_Index_LP_P2_ps, slices_Index_LP_P2_rs, funF (slices_Index_LP_P2_G N) tab [slices_Index_LP_P2_l0_s N] Tryz.f219 slices_Index_LP_P2_ps slices_Index_LP_P2_rs⟩ := congrArg (FSum.mk slices_Index_LP_P2_ps slices_Index_LP_P2_rs) (funext (slices_Index_LP_P2_run N))
  rw [e]
  exact fun_ok (c := slices_Index_LP_P2_code) progOk (slices_Index_LP_P2_gok N) (draw_ok progOk (slices_Index_LP_P2_gok N)) Tryz.call219 Tryz.func219 (by kernel_rfl) (lsOk_at (L := [slices_Index_LP_P2_l0_s N]) ⟨slices_Index_LP_P2_l0_ok N, trivial⟩) (by kernel_rfl) (by kernel_rfl) (by kernel_rfl) (by kernel_rfl) (by kernel_rfl)

/-! ### slices_Contains_LP_P2 -/
abbrev slices_Contains_LP_P2_ps : List (PV.Mode × Ty) := [(.ro, LQII), (.ro, QII)]
abbrev slices_Contains_LP_P2_rs : List (Bool × Ty) := [(true, .bool)]
noncomputable def slices_Contains_LP_P2_G (N : Nat) : GTab := gOf [(219, slices_Index_LP_P2_S N)]
theorem slices_Contains_LP_P2_gok (N : Nat) : GOk Tryz.prog (slices_Contains_LP_P2_G N) := gOf_ok ⟨slices_Index_LP_P2_pc N, trivial⟩
noncomputable def slices_Contains_LP_P2_code : Code := (Tryz.f203.body).getD .skip
noncomputable def slices_Contains_LP_P2 (N : Nat) (s : (List (Int × Int))) (v : (Int × Int)) : Option ((Bool × Unit) × (Unit)) :=
  ((slices_Index_LP_P2 N s (v.1, v.2)).bind fun r =>
    some (((ile 0 r.1.1), ()), ()))
noncomputable def slices_Contains_LP_P2_S (N : Nat) : FSum := ⟨slices_Contains_LP_P2_ps, slices_Contains_LP_P2_rs, fun x => slices_Contains_LP_P2 N x.1 x.2.1⟩
theorem slices_Contains_LP_P2_run (N : Nat) (x : argsT slices_Contains_LP_P2_ps) : slices_Contains_LP_P2 N x.1 x.2.1 = funF (slices_Contains_LP_P2_G N) tab [] Tryz.f203 slices_Contains_LP_P2_ps slices_Contains_LP_P2_rs x := by kernel_rfl
theorem slices_Contains_LP_P2_pc (N : Nat) : PC Tryz.prog 203 (slices_Contains_LP_P2_S N) := by
  have e : slices_Contains_LP_P2_S N = ⟨slices_Contains_LP_P2_ps, slices_Contains_LP_P2_rs, funF (slices_Contains_LP_P2_G N) tab [] Tryz.f203 slices_Contains_LP_P2_ps slices_Contains_LP_P2_rs⟩ := congrArg (FSum.mk slices_Contains_LP_P2_ps slices_Contains_LP_P2_rs) (funext (slices_Contains_LP_P2_run N))
  rw [e]
  exact fun_ok (c := slices_Contains_LP_P2_code) progOk (slices_Contains_LP_P2_gok N) (draw_ok progOk (slices_Contains_LP_P2_gok N)) Tryz.call203 Tryz.func203 (by kernel_rfl) (lsOk_at (L := []) trivial) (by kernel_rfl) (by kernel_rfl) (by kernel_rfl) (by kernel_rfl) (by kernel_rfl)

/-! ### impl_Graph_has -/
abbrev impl_Graph_has_ps : List (PV.Mode × Ty) := [(.ro, QILQII), (.ro, I), (.ro, I)]
abbrev impl_Graph_has_rs : List (Bool × Ty) := [(true, .bool)]
noncomputable def impl_Graph_has_G (N : Nat) : GTab := gOf [(204, impl_pair_S N), (203, slices_Contains_LP_P2_S N)]
theorem impl_Graph_has_gok (N : Nat) : GOk Tryz.prog (impl_Graph_has_G N) := gOf_ok ⟨impl_pair_pc N, slices_Contains_LP_P2_pc N, trivial⟩
noncomputable def impl_Graph_has_code : Code := (Tryz.f165.body).getD .skip
noncomputable def impl_Graph_has (N : Nat) (g : (Int × (List (Int × Int)))) (a : Int) (b : Int) : Option ((Bool × Unit) × (Unit)) :=
  ((impl_pair N a b).bind fun r =>
    ((slices_Contains_LP_P2 N g.2 (r.1.1.1, r.1.1.2)).bind fun r1 =>
      some ((r1.1.1, ()), ())))
noncomputable def impl_Graph_has_S (N : Nat) : FSum := ⟨impl_Graph_has_ps, impl_Graph_has_rs, fun x => impl_Graph_has N x.1 x.2.1 x.2.2.1⟩
theorem impl_Graph_has_run (N : Nat) (x : argsT impl_Graph_has_ps) : impl_Graph_has N x.1 x.2.1 x.2.2.1 = funF (impl_Graph_has_G N) tab [] Tryz.f165 impl_Graph_has_ps impl_Graph_has_rs x := by kernel_rfl
theorem impl_Graph_has_pc (N : Nat) : PC Tryz.prog 165 (impl_Graph_has_S N) := by
  have e : impl_Graph_has_S N = ⟨impl_Graph_has_ps, impl_Graph_has_rs, funF (impl_Graph_has_G N) tab [] Tryz.f165 impl_Graph_has_ps impl_Graph_has_rs⟩ := congrArg (FSum.mk impl_Graph_has_ps impl_Graph_has_rs) (funext (impl_Graph_has_run N))
  rw [e]
  exact fun_ok (c := impl_Graph_has_code) progOk (impl_Graph_has_gok N) (draw_ok progOk (impl_Graph_has_gok N)) Tryz.call165 Tryz.func165 (by kernel_rfl) (lsOk_at (L := []) trivial) (by kernel_rfl) (by kernel_rfl) (by kernel_rfl) (by kernel_rfl) (by kernel_rfl)

/-! ### impl_Graph_neighbors -/
abbrev impl_Graph_neighbors_ps : List (PV.Mode × Ty) := [(.ro, QILQII), (.ro, I)]
abbrev impl_Graph_neighbors_rs : List (Bool × Ty) := [(true, LI)]
noncomputable def impl_Graph_neighbors_G (N : Nat) : GTab := gOf [(165, impl_Graph_has_S N)]
theorem impl_Graph_neighbors_gok (N : Nat) : GOk Tryz.prog (impl_Graph_neighbors_G N) := gOf_ok ⟨impl_Graph_has_pc N, trivial⟩
noncomputable def impl_Graph_neighbors_code : Code := (Tryz.f127.body).getD .skip
noncomputable def impl_Graph_neighbors_l0_sh : Sh := ⟨[(1, .one (.ro I)), (2, .one (.adr 0 0)), (5, .one (.ref 1)), (9, .one (.ro I)), (10, .one (.ro I))], [.box [.ro I, .ro LQII], .sl 3 I .own]⟩
noncomputable def impl_Graph_neighbors_l0_ex : List (Ex × Sh) := [(.exit 0, ⟨[(5, .one (.ref 0))], [.sl 3 I .own]⟩)]
noncomputable def impl_Graph_neighbors_l0 {R : Type} (N : Nat) (k0 : (List Int) → Option R) : Nat → Int → Int → Int → Int → (List (Int × Int)) → (List Int) → Option R
  | 0, _, _, _, _, _, _ => none
  | K + 1, x1, x2, x3, o, o1, o2 =>
    (br (ilt x3 x2)
      ((br (ine x3 x1)
        (((impl_Graph_has N (o, o1) x1 x3).bind fun r =>
          (br r.1.1
            ((chk (room o2 [x3])
              (impl_Graph_neighbors_l0 N k0 K x1 x2 (IntKind.i64.wrap (x3 + 1)) o o1 (tApp o2 [x3]))))
            (impl_Graph_neighbors_l0 N k0 K x1 x2 (IntKind.i64.wrap (x3 + 1)) o o1 o2))))
        (impl_Graph_neighbors_l0 N k0 K x1 x2 (IntKind.i64.wrap (x3 + 1)) o o1 o2)))
      (k0 o2))
noncomputable def impl_Graph_neighbors_l0_again {R : Type} (N : Nat) (ks : (j : Nat) → ((impl_Graph_neighbors_l0_ex.getD j (.ret, Sh.none)).2).T → Option R) (k : Nat) (x : impl_Graph_neighbors_l0_sh.T) : Option R :=
  impl_Graph_neighbors_l0 N (fun y0 => ks 0 (((), ()), (y0, ()))) k x.1.1 x.1.2.2.2.1 x.1.2.2.2.2.1 x.2.1.1 x.2.1.2.1 x.2.2.1
noncomputable def impl_Graph_neighbors_l0_s (N : Nat) : LSum := ⟨impl_Graph_neighbors_l0_sh, impl_Graph_neighbors_l0_ex, fun x ks => impl_Graph_neighbors_l0_again N ks N x⟩
theorem impl_Graph_neighbors_l0_step (N : Nat) (R : Type) (k : Nat) (x : impl_Graph_neighbors_l0_sh.T) (ks : (j : Nat) → ((impl_Graph_neighbors_l0_ex.getD j (.ret, Sh.none)).2).T → Option R) : impl_Graph_neighbors_l0_again N ks (k + 1) x = roundF (impl_Graph_neighbors_G N) tab [] (loopAt impl_Graph_neighbors_code 0) impl_Graph_neighbors_l0_sh impl_Graph_neighbors_l0_ex (fun y => impl_Graph_neighbors_l0_again N ks k y) ks x := by kernel_rfl
theorem impl_Graph_neighbors_l0_ok (N : Nat) : LoopOk Tryz.prog Tryz.f127.ntmps (impl_Graph_neighbors_l0_s N) (loopAt impl_Graph_neighbors_code 0) :=
  loop_ok (l := impl_Graph_neighbors_l0_s N) progOk (impl_Graph_neighbors_gok N) (draw_ok progOk (impl_Graph_neighbors_gok N)) (fun R k x ks => impl_Graph_neighbors_l0_again N ks k x) (fun _ _ _ => rfl) (fun R k x ks => impl_Graph_neighbors_l0_step N R k x ks) (fun R x ks r h => ⟨N, h⟩) (lsOk_at (L := []) trivial) (by kernel_rfl) (by kernel_rfl)
noncomputable def impl_Graph_neighbors (N : Nat) (g : (Int × (List (Int × Int)))) (x : Int) : Option (((List Int) × Unit) × (Unit)) :=
  impl_Graph_neighbors_l0 N (fun o => some ((o, ()), ())) N x g.1 0 g.1 g.2 []
noncomputable def impl_Graph_neighbors_S (N : Nat) : FSum := ⟨impl_Graph_neighbors_ps, impl_Graph_neighbors_rs, fun x => impl_Graph_neighbors N x.1 x.2.1⟩
theorem impl_Graph_neighbors_run (N : Nat) (x : argsT impl_Graph_neighbors_ps) : impl_Graph_neighbors N x.1 x.2.1 = funF (impl_Graph_neighbors_G N) tab [impl_Graph_neighbors_l0_s N] Tryz.f127 impl_Graph_neighbors_ps impl_Graph_neighbors_rs x := by kernel_rfl
theorem impl_Graph_neighbors_pc (N : Nat) : PC Tryz.prog 127 (impl_Graph_neighbors_S N) := by
  have e : impl_Graph_neighbors_S N = ⟨impl_Graph_neighbors_ps, impl_Graph_neighbors_rs, funF (impl_Graph_neighbors_G N) tab [impl_Graph_neighbors_l0_s N] Tryz.f127 impl_Graph_neighbors_ps impl_Graph_neighbors_rs⟩ := congrArg (FSum.mk impl_Graph_neighbors_ps impl_Graph_neighbors_rs) (funext (impl_Graph_neighbors_run N))
  rw [e]
  exact fun_ok (c := impl_Graph_neighbors_code) progOk (impl_Graph_neighbors_gok N) (draw_ok progOk (impl_Graph_neighbors_gok N)) Tryz.call127 Tryz.func127 (by kernel_rfl) (lsOk_at (L := [impl_Graph_neighbors_l0_s N]) ⟨impl_Graph_neighbors_l0_ok N, trivial⟩) (by kernel_rfl) (by kernel_rfl) (by kernel_rfl) (by kernel_rfl) (by kernel_rfl)

/-! ### impl_Graph_hasKind -/
abbrev impl_Graph_hasKind_ps : List (PV.Mode × Ty) := [(.ro, QILQII), (.ro, I), (.ro, U64)]
abbrev impl_Graph_hasKind_rs : List (Bool × Ty) := [(true, .bool)]
noncomputable def impl_Graph_hasKind_G (N : Nat) : GTab := gOf [(68, impl_Graph_all_S N), (198, impl_Graph_isFree_S N), (69, impl_bag_list_S N), (165, impl_Graph_has_S N), (199, impl_bag_has_S N), (127, impl_Graph_neighbors_S N), (67, impl_bagOf_S N)]
theorem impl_Graph_hasKind_gok (N : Nat) : GOk Tryz.prog (impl_Graph_hasKind_G N) := gOf_ok ⟨impl_Graph_all_pc N, impl_Graph_isFree_pc N, impl_bag_list_pc N, impl_Graph_has_pc N, impl_bag_has_pc N, impl_Graph_neighbors_pc N, impl_bagOf_pc N, trivial⟩
noncomputable def impl_Graph_hasKind_code : Code := (Tryz.f156.body).getD .skip
noncomputable def impl_Graph_hasKind_l0_0_sh : Sh := ⟨[(3, .one (.adr 0 0)), (7, .one (.ref 1)), (9, .one (.ro I)), (26, .one (.ref 1)), (27, .one (.ro I)), (28, .one (.ro I)), (35, .one (.sub 1 1)), (36, .one (.ro I)), (37, .one (.ro I))], [.box [.ro I, .ro LQII], .sl 3 I .own]⟩
noncomputable def impl_Graph_hasKind_l0_0_ex : List (Ex × Sh) := [(.ret, ⟨[(6, .one (.ro .bool))], []⟩), (.exit 3, ⟨[(3, .one (.adr 0 0)), (7, .one (.ref 1)), (26, .one (.ref 1)), (27, .one (.ro I)), (28, .one (.ro I))], [.box [.ro I, .ro LQII], .sl 3 I .own]⟩)]
noncomputable def impl_Graph_hasKind_l0_0 {R : Type} (N : Nat) (k0 : Bool → Option R) (k1 : Int → Int → Int → (List (Int × Int)) → (List Int) → Option R) : Nat → Int → Int → Int → Int → Int → Int → Int → Int → (List (Int × Int)) → (List Int) → Option R
  | 0, _, _, _, _, _, _, _, _, _, _ => none
  | K + 1, x2, x3, x4, x5, x6, x7, x8, o3, o4, o5 =>
    (br (ilt x8 x7)
      ((chk (ile 0 x8 && ilt x8 (x6 - x5))
        ((impl_Graph_has N (o3, o4) x2 (rdI o5 (x5 + x8))).bind fun r3 =>
        (br (!r3.1.1)
          (k0 false)
          (impl_Graph_hasKind_l0_0 N k0 k1 K x2 x3 x4 x5 x6 x7 (IntKind.i64.wrap (x8 + 1)) o3 o4 o5)))))
      (k1 x3 x4 o3 o4 o5))
noncomputable def impl_Graph_hasKind_l0_0_again {R : Type} (N : Nat) (ks : (j : Nat) → ((impl_Graph_hasKind_l0_0_ex.getD j (.ret, Sh.none)).2).T → Option R) (k : Nat) (x : impl_Graph_hasKind_l0_0_sh.T) : Option R :=
  impl_Graph_hasKind_l0_0 N (fun y0 => ks 0 ((y0, ()), ())) (fun y0 y1 y2 y3 y4 => ks 1 (((), (), (), y0, y1, ()), ((y2, y3, ()), y4, ()))) k x.1.2.2.1 x.1.2.2.2.2.1 x.1.2.2.2.2.2.1 x.1.2.2.2.2.2.2.1.1 x.1.2.2.2.2.2.2.1.2 x.1.2.2.2.2.2.2.2.1 x.1.2.2.2.2.2.2.2.2.1 x.2.1.1 x.2.1.2.1 x.2.2.1
noncomputable def impl_Graph_hasKind_l0_0_s (N : Nat) : LSum := ⟨impl_Graph_hasKind_l0_0_sh, impl_Graph_hasKind_l0_0_ex, fun x ks => impl_Graph_hasKind_l0_0_again N ks N x⟩
theorem impl_Graph_hasKind_l0_0_step (N : Nat) (R : Type) (k : Nat) (x : impl_Graph_hasKind_l0_0_sh.T) (ks : (j : Nat) → ((impl_Graph_hasKind_l0_0_ex.getD j (.ret, Sh.none)).2).T → Option R) : impl_Graph_hasKind_l0_0_again N ks (k + 1) x = roundF (impl_Graph_hasKind_G N) tab [] (loopAt (loopAt impl_Graph_hasKind_code 0) 0) impl_Graph_hasKind_l0_0_sh impl_Graph_hasKind_l0_0_ex (fun y => impl_Graph_hasKind_l0_0_again N ks k y) ks x := by kernel_rfl
theorem impl_Graph_hasKind_l0_0_ok (N : Nat) : LoopOk Tryz.prog Tryz.f156.ntmps (impl_Graph_hasKind_l0_0_s N) (loopAt (loopAt impl_Graph_hasKind_code 0) 0) :=
  loop_ok (l := impl_Graph_hasKind_l0_0_s N) progOk (impl_Graph_hasKind_gok N) (draw_ok progOk (impl_Graph_hasKind_gok N)) (fun R k x ks => impl_Graph_hasKind_l0_0_again N ks k x) (fun _ _ _ => rfl) (fun R k x ks => impl_Graph_hasKind_l0_0_step N R k x ks) (fun R x ks r h => ⟨N, h⟩) (lsOk_at (L := []) trivial) (by kernel_rfl) (by kernel_rfl)
noncomputable def impl_Graph_hasKind_l0_sh : Sh := ⟨[(3, .one (.adr 0 0)), (7, .one (.ref 1)), (26, .one (.ref 1)), (27, .one (.ro I)), (28, .one (.ro I))], [.box [.ro I, .ro LQII], .sl 3 I .own]⟩
noncomputable def impl_Graph_hasKind_l0_ex : List (Ex × Sh) := [(.ret, ⟨[(6, .one (.ro .bool))], []⟩), (.exit 1, ⟨[], []⟩)]
noncomputable def impl_Graph_hasKind_l0 {R : Type} (N : Nat) (k0 : Bool → Option R) (k1 : Unit → Option R) : Nat → Int → Int → Int → (List (Int × Int)) → (List Int) → Option R
  | 0, _, _, _, _, _ => none
  | K + 1, x, x1, o, o1, o2 =>
    (br (ilt x1 x)
      ((chk (inb o2 x1)
        (chk (ile 0 0 && ile 0 x1 && ile x1 (tLen o2))
        (impl_Graph_hasKind_l0_0 N (fun x2 => k0 x2) (fun x3 x4 o3 o4 o5 => impl_Graph_hasKind_l0 N k0 k1 K x3 (IntKind.i64.wrap (x4 + 1)) o3 o4 o5) N (rdI o2 x1) x x1 0 x1 (x1 - 0) 0 o o1 o2))))
      (k1 ()))
noncomputable def impl_Graph_hasKind_l0_again {R : Type} (N : Nat) (ks : (j : Nat) → ((impl_Graph_hasKind_l0_ex.getD j (.ret, Sh.none)).2).T → Option R) (k : Nat) (x : impl_Graph_hasKind_l0_sh.T) : Option R :=
  impl_Graph_hasKind_l0 N (fun y0 => ks 0 ((y0, ()), ())) (fun (_ : Unit) => ks 1 ((), ())) k x.1.2.2.2.1 x.1.2.2.2.2.1 x.2.1.1 x.2.1.2.1 x.2.2.1
noncomputable def impl_Graph_hasKind_l0_s (N : Nat) : LSum := ⟨impl_Graph_hasKind_l0_sh, impl_Graph_hasKind_l0_ex, fun x ks => impl_Graph_hasKind_l0_again N ks N x⟩
theorem impl_Graph_hasKind_l0_step (N : Nat) (R : Type) (k : Nat) (x : impl_Graph_hasKind_l0_sh.T) (ks : (j : Nat) → ((impl_Graph_hasKind_l0_ex.getD j (.ret, Sh.none)).2).T → Option R) : impl_Graph_hasKind_l0_again N ks (k + 1) x = roundF (impl_Graph_hasKind_G N) tab [impl_Graph_hasKind_l0_0_s N] (loopAt impl_Graph_hasKind_code 0) impl_Graph_hasKind_l0_sh impl_Graph_hasKind_l0_ex (fun y => impl_Graph_hasKind_l0_again N ks k y) ks x := by kernel_rfl
theorem impl_Graph_hasKind_l0_ok (N : Nat) : LoopOk Tryz.prog Tryz.f156.ntmps (impl_Graph_hasKind_l0_s N) (loopAt impl_Graph_hasKind_code 0) :=
  loop_ok (l := impl_Graph_hasKind_l0_s N) progOk (impl_Graph_hasKind_gok N) (draw_ok progOk (impl_Graph_hasKind_gok N)) (fun R k x ks => impl_Graph_hasKind_l0_again N ks k x) (fun _ _ _ => rfl) (fun R k x ks => impl_Graph_hasKind_l0_step N R k x ks) (fun R x ks r h => ⟨N, h⟩) (lsOk_at (L := [impl_Graph_hasKind_l0_0_s N]) ⟨impl_Graph_hasKind_l0_0_ok N, trivial⟩) (by kernel_rfl) (by kernel_rfl)
noncomputable def impl_Graph_hasKind_l1_sh : Sh := ⟨[(2, .one (.ro U64)), (3, .one (.adr 0 0)), (49, .one (.ro I)), (50, .one (.ro I))], [.box [.ro I, .ro LQII]]⟩
noncomputable def impl_Graph_hasKind_l1_ex : List (Ex × Sh) := [(.ret, ⟨[(6, .one (.ro .bool))], []⟩), (.exit 5, ⟨[], []⟩)]
noncomputable def impl_Graph_hasKind_l1 {R : Type} (N : Nat) (k0 : Bool → Option R) (k1 : Unit → Option R) : Nat → Int → Int → Int → Int → (List (Int × Int)) → Option R
  | 0, _, _, _, _, _ => none
  | K + 1, x1, x2, x3, o, o1 =>
    (br (ilt x3 x2)
      (((impl_bag_has N x1 x3).bind fun r3 =>
        (br (!r3.1.1)
          (((impl_Graph_neighbors N (o, o1) x3).bind fun r4 =>
            ((impl_bagOf N r4.1.1).bind fun r5 =>
              (br (ieq (bitop .and .u64 r5.1.1 x1) 0)
                (k0 false)
                (impl_Graph_hasKind_l1 N k0 k1 K x1 x2 (IntKind.i64.wrap (x3 + 1)) o o1)))))
          (impl_Graph_hasKind_l1 N k0 k1 K x1 x2 (IntKind.i64.wrap (x3 + 1)) o o1))))
      (k1 ()))
noncomputable def impl_Graph_hasKind_l1_again {R : Type} (N : Nat) (ks : (j : Nat) → ((impl_Graph_hasKind_l1_ex.getD j (.ret, Sh.none)).2).T → Option R) (k : Nat) (x : impl_Graph_hasKind_l1_sh.T) : Option R :=
  impl_Graph_hasKind_l1 N (fun y0 => ks 0 ((y0, ()), ())) (fun (_ : Unit) => ks 1 ((), ())) k x.1.1 x.1.2.2.1 x.1.2.2.2.1 x.2.1.1 x.2.1.2.1
noncomputable def impl_Graph_hasKind_l1_s (N : Nat) : LSum := ⟨impl_Graph_hasKind_l1_sh, impl_Graph_hasKind_l1_ex, fun x ks => impl_Graph_hasKind_l1_again N ks N x⟩
theorem impl_Graph_hasKind_l1_step (N : Nat) (R : Type) (k : Nat) (x : impl_Graph_hasKind_l1_sh.T) (ks : (j : Nat) → ((impl_Graph_hasKind_l1_ex.getD j (.ret, Sh.none)).2).T → Option R) : impl_Graph_hasKind_l1_again N ks (k + 1) x = roundF (impl_Graph_hasKind_G N) tab [] (loopAt impl_Graph_hasKind_code 1) impl_Graph_hasKind_l1_sh impl_Graph_hasKind_l1_ex (fun y => impl_Graph_hasKind_l1_again N ks k y) ks x := by kernel_rfl
theorem impl_Graph_hasKind_l1_ok (N : Nat) : LoopOk Tryz.prog Tryz.f156.ntmps (impl_Graph_hasKind_l1_s N) (loopAt impl_Graph_hasKind_code 1) :=
  loop_ok (l := impl_Graph_hasKind_l1_s N) progOk (impl_Graph_hasKind_gok N) (draw_ok progOk (impl_Graph_hasKind_gok N)) (fun R k x ks => impl_Graph_hasKind_l1_again N ks k x) (fun _ _ _ => rfl) (fun R k x ks => impl_Graph_hasKind_l1_step N R k x ks) (fun R x ks r h => ⟨N, h⟩) (lsOk_at (L := []) trivial) (by kernel_rfl) (by kernel_rfl)
noncomputable def impl_Graph_hasKind (N : Nat) (c : (Int × (List (Int × Int)))) (c1 : Int) (c2 : Int) : Option ((Bool × Unit) × (Unit)) :=
  (br (ieq c1 1)
    (((impl_Graph_all N (c.1, c.2)).bind fun r =>
      ((impl_Graph_isFree N (c.1, c.2) (bitop .andNot .u64 r.1.1 c2)).bind fun r1 =>
        some ((r1.1.1, ()), ()))))
    ((br (ieq c1 2)
      (((impl_bag_list N c2).bind fun r2 =>
        impl_Graph_hasKind_l0 N (fun x => some ((x, ()), ())) (fun (_ : Unit) => some ((true, ()), ())) N (tLen r2.1.1) 0 c.1 c.2 r2.1.1))
      (impl_Graph_hasKind_l1 N (fun x1 => some ((x1, ()), ())) (fun (_ : Unit) => some ((true, ()), ())) N c2 c.1 0 c.1 c.2))))
noncomputable def impl_Graph_hasKind_S (N : Nat) : FSum := ⟨impl_Graph_hasKind_ps, impl_Graph_hasKind_rs, fun x => impl_Graph_hasKind N x.1 x.2.1 x.2.2.1⟩
theorem impl_Graph_hasKind_run (N : Nat) (x : argsT impl_Graph_hasKind_ps) : impl_Graph_hasKind N x.1 x.2.1 x.2.2.1 = funF (impl_Graph_hasKind_G N) tab [impl_Graph_hasKind_l0_s N, impl_Graph_hasKind_l1_s N] Tryz.f156 impl_Graph_hasKind_ps impl_Graph_hasKind_rs x := by kernel_rfl
theorem impl_Graph_hasKind_pc (N : Nat) : PC Tryz.prog 156 (impl_Graph_hasKind_S N) := by
  have e : impl_Graph_hasKind_S N = ⟨impl_Graph_hasKind_ps, impl_Graph_hasKind_rs, funF (impl_Graph_hasKind_G N) tab [impl_Graph_hasKind_l0_s N, impl_Graph_hasKind_l1_s N] Tryz.f156 impl_Graph_hasKind_ps impl_Graph_hasKind_rs⟩ := congrArg (FSum.mk impl_Graph_hasKind_ps impl_Graph_hasKind_rs) (funext (impl_Graph_hasKind_run N))
  rw [e]
  exact fun_ok (c := impl_Graph_hasKind_code) progOk (impl_Graph_hasKind_gok N) (draw_ok progOk (impl_Graph_hasKind_gok N)) Tryz.call156 Tryz.func156 (by kernel_rfl) (lsOk_at (L := [impl_Graph_hasKind_l0_s N, impl_Graph_hasKind_l1_s N]) ⟨impl_Graph_hasKind_l0_ok N, impl_Graph_hasKind_l1_ok N, trivial⟩) (by kernel_rfl) (by kernel_rfl) (by kernel_rfl) (by kernel_rfl) (by kernel_rfl)

/-! ### impl_HasKind -/
abbrev impl_HasKind_ps : List (PV.Mode × Ty) := [(.ro, QILQII), (.ro, I), (.ro, LI)]
abbrev impl_HasKind_rs : List (Bool × Ty) := [(true, .bool), (true, .bool)]
noncomputable def impl_HasKind_G (N : Nat) : GTab := gOf [(155, impl_isSetCase_S N), (67, impl_bagOf_S N), (156, impl_Graph_hasKind_S N)]
theorem impl_HasKind_gok (N : Nat) : GOk Tryz.prog (impl_HasKind_G N) := gOf_ok ⟨impl_isSetCase_pc N, impl_bagOf_pc N, impl_Graph_hasKind_pc N, trivial⟩
noncomputable def impl_HasKind_code : Code := (Tryz.f116.body).getD .skip
noncomputable def impl_HasKind (N : Nat) (g : (Int × (List (Int × Int)))) (kind : Int) (setv : (List Int)) : Option ((Bool × Bool × Unit) × (Unit)) :=
  ((impl_isSetCase N (g.1, g.2) kind setv).bind fun r =>
    (br (!r.1.1)
      (some ((false, false, ()), ()))
      (((impl_bagOf N setv).bind fun r1 =>
        ((impl_Graph_hasKind N (g.1, g.2) kind r1.1.1).bind fun r2 =>
          some ((r2.1.1, true, ()), ()))))))
noncomputable def impl_HasKind_S (N : Nat) : FSum := ⟨impl_HasKind_ps, impl_HasKind_rs, fun x => impl_HasKind N x.1 x.2.1 x.2.2.1⟩
theorem impl_HasKind_run (N : Nat) (x : argsT impl_HasKind_ps) : impl_HasKind N x.1 x.2.1 x.2.2.1 = funF (impl_HasKind_G N) tab [] Tryz.f116 impl_HasKind_ps impl_HasKind_rs x := by kernel_rfl
theorem impl_HasKind_pc (N : Nat) : PC Tryz.prog 116 (impl_HasKind_S N) := by
  have e : impl_HasKind_S N = ⟨impl_HasKind_ps, impl_HasKind_rs, funF (impl_HasKind_G N) tab [] Tryz.f116 impl_HasKind_ps impl_HasKind_rs⟩ := congrArg (FSum.mk impl_HasKind_ps impl_HasKind_rs) (funext (impl_HasKind_run N))
  rw [e]
  exact fun_ok (c := impl_HasKind_code) progOk (impl_HasKind_gok N) (draw_ok progOk (impl_HasKind_gok N)) Tryz.call116 Tryz.func116 (by kernel_rfl) (lsOk_at (L := []) trivial) (by kernel_rfl) (by kernel_rfl) (by kernel_rfl) (by kernel_rfl) (by kernel_rfl)

/-! ### impl_isOfKind -/
abbrev impl_isOfKind_ps : List (PV.Mode × Ty) := [(.ro, QILQII), (.ro, I), (.ro, LI)]
abbrev impl_isOfKind_rs : List (Bool × Ty) := [(true, .bool)]
noncomputable def impl_isOfKind_G (N : Nat) : GTab := gOf [(116, impl_HasKind_S N)]
theorem impl_isOfKind_gok (N : Nat) : GOk Tryz.prog (impl_isOfKind_G N) := gOf_ok ⟨impl_HasKind_pc N, trivial⟩
noncomputable def impl_isOfKind_code : Code := (Tryz.f75.body).getD .skip
noncomputable def impl_isOfKind (N : Nat) (g : (Int × (List (Int × Int)))) (kind : Int) (setv : (List Int)) : Option ((Bool × Unit) × (Unit)) :=
  ((impl_HasKind N (g.1, g.2) kind setv).bind fun r =>
    some ((r.1.1, ()), ()))
noncomputable def impl_isOfKind_S (N : Nat) : FSum := ⟨impl_isOfKind_ps, impl_isOfKind_rs, fun x => impl_isOfKind N x.1 x.2.1 x.2.2.1⟩
theorem impl_isOfKind_run (N : Nat) (x : argsT impl_isOfKind_ps) : impl_isOfKind N x.1 x.2.1 x.2.2.1 = funF (impl_isOfKind_G N) tab [] Tryz.f75 impl_isOfKind_ps impl_isOfKind_rs x := by kernel_rfl
theorem impl_isOfKind_pc (N : Nat) : PC Tryz.prog 75 (impl_isOfKind_S N) := by
  have e : impl_isOfKind_S N = ⟨impl_isOfKind_ps, impl_isOfKind_rs, funF (impl_isOfKind_G N) tab [] Tryz.f75 impl_isOfKind_ps impl_isOfKind_rs⟩ := congrArg (FSum.mk impl_isOfKind_ps impl_isOfKind_rs) (funext (impl_isOfKind_run N))
  rw [e]
  exact fun_ok (c := impl_isOfKind_code) progOk (impl_isOfKind_gok N) (draw_ok progOk (impl_isOfKind_gok N)) Tryz.call75 Tryz.func75 (by kernel_rfl) (lsOk_at (L := []) trivial) (by kernel_rfl) (by kernel_rfl) (by kernel_rfl) (by kernel_rfl) (by kernel_rfl)

/-! ### impl_isThreshold -/
abbrev impl_isThreshold_ps : List (PV.Mode × Ty) := [(.ro, QILQII), (.ro, I), (.ro, I)]
abbrev impl_isThreshold_rs : List (Bool × Ty) := [(true, .bool)]
noncomputable def impl_isThreshold_G (N : Nat) : GTab := gOf [(123, impl_IsGraph_S N), (157, impl_isKind_S N), (124, impl_between_S N)]
theorem impl_isThreshold_gok (N : Nat) : GOk Tryz.prog (impl_isThreshold_G N) := gOf_ok ⟨impl_IsGraph_pc N, impl_isKind_pc N, impl_between_pc N, trivial⟩
noncomputable def impl_isThreshold_code : Code := (Tryz.f117.body).getD .skip
noncomputable def impl_isThreshold (N : Nat) (g : (Int × (List (Int × Int)))) (kind : Int) (kv : Int) : Option ((Bool × Unit) × (Unit)) :=
  ((impl_IsGraph N (g.1, g.2)).bind fun r =>
    (br r.1.1
      (((impl_isKind N kind).bind fun r1 =>
        (br r1.1.1
          (((impl_between N kv 0 g.1).bind fun r2 =>
            some ((r2.1.1, ()), ())))
          (some ((false, ()), ())))))
      (some ((false, ()), ()))))
noncomputable def impl_isThreshold_S (N : Nat) : FSum := ⟨impl_isThreshold_ps, impl_isThreshold_rs, fun x => impl_isThreshold N x.1 x.2.1 x.2.2.1⟩
theorem impl_isThreshold_run (N : Nat) (x : argsT impl_isThreshold_ps) : impl_isThreshold N x.1 x.2.1 x.2.2.1 = funF (impl_isThreshold_G N) tab [] Tryz.f117 impl_isThreshold_ps impl_isThreshold_rs x := by kernel_rfl
theorem impl_isThreshold_pc (N : Nat) : PC Tryz.prog 117 (impl_isThreshold_S N) := by
  have e : impl_isThreshold_S N = ⟨impl_isThreshold_ps, impl_isThreshold_rs, funF (impl_isThreshold_G N) tab [] Tryz.f117 impl_isThreshold_ps impl_isThreshold_rs⟩ := congrArg (FSum.mk impl_isThreshold_ps impl_isThreshold_rs) (funext (impl_isThreshold_run N))
  rw [e]
  exact fun_ok (c := impl_isThreshold_code) progOk (impl_isThreshold_gok N) (draw_ok progOk (impl_isThreshold_gok N)) Tryz.call117 Tryz.func117 (by kernel_rfl) (lsOk_at (L := []) trivial) (by kernel_rfl) (by kernel_rfl) (by kernel_rfl) (by kernel_rfl) (by kernel_rfl)

/-! ### slices_Compare_LI_int -/
abbrev slices_Compare_LI_int_ps : List (PV.Mode × Ty) := [(.ro, LI), (.ro, LI)]
abbrev slices_Compare_LI_int_rs : List (Bool × Ty) := [(true, I)]
noncomputable def slices_Compare_LI_int_G (N : Nat) : GTab := gOf [(131, cmp_Compare_int_S N)]
theorem slices_Compare_LI_int_gok (N : Nat) : GOk Tryz.prog (slices_Compare_LI_int_G N) := gOf_ok ⟨cmp_Compare_int_pc N, trivial⟩
noncomputable def slices_Compare_LI_int_code : Code := (Tryz.f83.body).getD .skip
noncomputable def slices_Compare_LI_int_l0_sh : Sh := ⟨[(0, .one (.ro LI)), (1, .one (.ro LI)), (9, .one (.ro LI)), (10, .one (.ro I)), (11, .one (.ro I))], []⟩
noncomputable def slices_Compare_LI_int_l0_ex : List (Ex × Sh) := [(.ret, ⟨[(4, .one (.ro I))], []⟩), (.exit 0, ⟨[(0, .one (.ro LI)), (1, .one (.ro LI))], []⟩)]
noncomputable def slices_Compare_LI_int_l0 {R : Type} (N : Nat) (k0 : Int → Option R) (k1 : (List Int) → (List Int) → Option R) : Nat → (List Int) → (List Int) → (List Int) → Int → Int → Option R
  | 0, _, _, _, _, _ => none
  | K + 1, s11, s21, x, x1, x2 =>
    (br (ilt x2 x1)
      ((chk (inb x x2)
        (br (ile (tLen s21) x2)
        (k0 1)
        ((chk (inb s21 x2)
          ((cmp_Compare_int N (rdI x x2) (rdI s21 x2)).bind fun r =>
          (br (ine r.1.1 0)
            (k0 r.1.1)
            (slices_Compare_LI_int_l0 N k0 k1 K s11 s21 x x1 (IntKind.i64.wrap (x2 + 1))))))))))
      (k1 s11 s21))
noncomputable def slices_Compare_LI_int_l0_again {R : Type} (N : Nat) (ks : (j : Nat) → ((slices_Compare_LI_int_l0_ex.getD j (.ret, Sh.none)).2).T → Option R) (k : Nat) (x : slices_Compare_LI_int_l0_sh.T) : Option R :=
  slices_Compare_LI_int_l0 N (fun y0 => ks 0 ((y0, ()), ())) (fun y0 y1 => ks 1 ((y0, y1, ()), ())) k x.1.1 x.1.2.1 x.1.2.2.1 x.1.2.2.2.1 x.1.2.2.2.2.1
noncomputable def slices_Compare_LI_int_l0_s (N : Nat) : LSum := ⟨slices_Compare_LI_int_l0_sh, slices_Compare_LI_int_l0_ex, fun x ks => slices_Compare_LI_int_l0_again N ks N x⟩
theorem slices_Compare_LI_int_l0_step (N : Nat) (R : Type) (k : Nat) (x : slices_Compare_LI_int_l0_sh.T) (ks : (j : Nat) → ((slices_Compare_LI_int_l0_ex.getD j (.ret, Sh.none)).2).T → Option R) : slices_Compare_LI_int_l0_again N ks (k + 1) x = roundF (slices_Compare_LI_int_G N) tab [] (loopAt slices_Compare_LI_int_code 0) slices_Compare_LI_int_l0_sh slices_Compare_LI_int_l0_ex (fun y => slices_Compare_LI_int_l0_again N ks k y) ks x := by kernel_rfl
theorem slices_Compare_LI_int_l0_ok (N : Nat) : LoopOk Tryz.prog Tryz.f83.ntmps (slices_Compare_LI_int_l0_s N) (loopAt slices_Compare_LI_int_code 0) :=
  loop_ok (l := slices_Compare_LI_int_l0_s N) progOk (slices_Compare_LI_int_gok N) (draw_ok progOk (slices_Compare_LI_int_gok N)) (fun R k x ks => slices_Compare_LI_int_l0_again N ks k x) (fun _ _ _ => rfl) (fun R k x ks => slices_Compare_LI_int_l0_step N R k x ks) (fun R x ks r h => ⟨N, h⟩) (lsOk_at (L := []) trivial) (by kernel_rfl) (by kernel_rfl)
noncomputable def slices_Compare_LI_int (N : Nat) (s1 : (List Int)) (s2 : (List Int)) : Option ((Int × Unit) × (Unit)) :=
  slices_Compare_LI_int_l0 N (fun x => some ((x, ()), ())) (fun s11 s21 => (br (ilt (tLen s11) (tLen s21))
    (some (((-1), ()), ()))
    (some ((0, ()), ())))) N s1 s2 s1 (tLen s1) 0
noncomputable def slices_Compare_LI_int_S (N : Nat) : FSum := ⟨slices_Compare_LI_int_ps, slices_Compare_LI_int_rs, fun x => slices_Compare_LI_int N x.1 x.2.1⟩
theorem slices_Compare_LI_int_run (N : Nat) (x : argsT slices_Compare_LI_int_ps) : slices_Compare_LI_int N x.1 x.2.1 = funF (slices_Compare_LI_int_G N) tab [slices_Compare_LI_int_l0_s N] Tryz.f83 slices_Compare_LI_int_ps slices_Compare_LI_int_rs x := by kernel_rfl
theorem slices_Compare_LI_int_pc (N : Nat) : PC Tryz.prog 83 (slices_Compare_LI_int_S N) := by
  have e : slices_Compare_LI_int_S N = ⟨slices_Compare_LI_int_ps, slices_Compare_LI_int_rs, funF (slices_Compare_LI_int_G N) tab [slices_Compare_LI_int_l0_s N] Tryz.f83 slices_Compare_LI_int_ps slices_Compare_LI_int_rs⟩ := congrArg (FSum.mk slices_Compare_LI_int_ps slices_Compare_LI_int_rs) (funext (slices_Compare_LI_int_run N))
  rw [e]
  exact fun_ok (c := slices_Compare_LI_int_code) progOk (slices_Compare_LI_int_gok N) (draw_ok progOk (slices_Compare_LI_int_gok N)) Tryz.call83 Tryz.func83 (by kernel_rfl) (lsOk_at (L := [slices_Compare_LI_int_l0_s N]) ⟨slices_Compare_LI_int_l0_ok N, trivial⟩) (by kernel_rfl) (by kernel_rfl) (by kernel_rfl) (by kernel_rfl) (by kernel_rfl)

/-! ### slices_SortFunc_LLI_LI_kslices_Compare_LI_int -/
abbrev slices_SortFunc_LLI_LI_kslices_Compare_LI_int_ps : List (PV.Mode × Ty) := [(.mut, LLI), (.own, K83Un)]
abbrev slices_SortFunc_LLI_LI_kslices_Compare_LI_int_rs : List (Bool × Ty) := []
noncomputable def slices_SortFunc_LLI_LI_kslices_Compare_LI_int (N : Nat) (x : List (List Int)) (_ : Unit) : Option (Unit × (List (List Int) × Unit)) := sortF (fun a b => (slices_Compare_LI_int N a b).map fun z => z.1.1) x
noncomputable def slices_SortFunc_LLI_LI_kslices_Compare_LI_int_S (N : Nat) : FSum := ⟨slices_SortFunc_LLI_LI_kslices_Compare_LI_int_ps, slices_SortFunc_LLI_LI_kslices_Compare_LI_int_rs, fun x => slices_SortFunc_LLI_LI_kslices_Compare_LI_int N x.1 x.2.1⟩
theorem slices_SortFunc_LLI_LI_kslices_Compare_LI_int_pc (N : Nat) : PC Tryz.prog 82 (slices_SortFunc_LLI_LI_kslices_Compare_LI_int_S N) := sortRows_pc (fc := fun a b => slices_Compare_LI_int N a b) (sortsAt Tryz.sortL) (sortsNone Tryz.sortL) Tryz.call82 (slices_Compare_LI_int_pc N)

/-! ### impl_Graph_sets -/
abbrev impl_Graph_sets_ps : List (PV.Mode × Ty) := [(.ro, QILQII), (.ro, FU64Bo)]
abbrev impl_Graph_sets_rs : List (Bool × Ty) := [(true, LLI)]
noncomputable def impl_Graph_sets_G (N : Nat) : GTab := gOf [(68, impl_Graph_all_S N), (69, impl_bag_list_S N), (82, slices_SortFunc_LLI_LI_kslices_Compare_LI_int_S N)]
theorem impl_Graph_sets_gok (N : Nat) : GOk Tryz.prog (impl_Graph_sets_G N) := gOf_ok ⟨impl_Graph_all_pc N, impl_bag_list_pc N, slices_SortFunc_LLI_LI_kslices_Compare_LI_int_pc N, trivial⟩
noncomputable def impl_Graph_sets_code : Code := (Tryz.f158.body).getD .skip
noncomputable def impl_Graph_sets_l0_sh : Sh := ⟨[(1, .one (.ro FU64Bo)), (2, .one (.adr 0 0)), (5, .one (.ref 1)), (6, .one (.ro U64))], [.box [.ro I, .ro LQII], .sl 40 LI .deep]⟩
noncomputable def impl_Graph_sets_l0_ex : List (Ex × Sh) := [(.exit 0, ⟨[(5, .one (.ref 0))], [.sl 40 LI .deep]⟩)]
noncomputable def impl_Graph_sets_l0 {R : Type} (N : Nat) (k0 : (List (List Int)) → Option R) : Nat → (Int → Option Bool) → Int → Int → (List (Int × Int)) → (List (List Int)) → Option R
  | 0, _, _, _, _, _ => none
  | K + 1, is1, b, o, o1, o2 =>
    ((impl_Graph_all N (o, o1)).bind fun r =>
      (br (ile b r.1.1)
        (((is1 b).bind fun v =>
          (br v
          (((impl_bag_list N b).bind fun r1 =>
            (chk (room o2 [r1.1.1])
              (impl_Graph_sets_l0 N k0 K is1 (IntKind.u64.wrap (b + 1)) o o1 (tApp o2 [r1.1.1])))))
          (impl_Graph_sets_l0 N k0 K is1 (IntKind.u64.wrap (b + 1)) o o1 o2))))
        (k0 o2)))
noncomputable def impl_Graph_sets_l0_again {R : Type} (N : Nat) (ks : (j : Nat) → ((impl_Graph_sets_l0_ex.getD j (.ret, Sh.none)).2).T → Option R) (k : Nat) (x : impl_Graph_sets_l0_sh.T) : Option R :=
  impl_Graph_sets_l0 N (fun y0 => ks 0 (((), ()), (y0, ()))) k x.1.1 x.1.2.2.2.1 x.2.1.1 x.2.1.2.1 x.2.2.1
noncomputable def impl_Graph_sets_l0_s (N : Nat) : LSum := ⟨impl_Graph_sets_l0_sh, impl_Graph_sets_l0_ex, fun x ks => impl_Graph_sets_l0_again N ks N x⟩
theorem impl_Graph_sets_l0_step (N : Nat) (R : Type) (k : Nat) (x : impl_Graph_sets_l0_sh.T) (ks : (j : Nat) → ((impl_Graph_sets_l0_ex.getD j (.ret, Sh.none)).2).T → Option R) : impl_Graph_sets_l0_again N ks (k + 1) x = roundF (impl_Graph_sets_G N) tab [] (loopAt impl_Graph_sets_code 0) impl_Graph_sets_l0_sh impl_Graph_sets_l0_ex (fun y => impl_Graph_sets_l0_again N ks k y) ks x := by kernel_rfl
theorem impl_Graph_sets_l0_ok (N : Nat) : LoopOk Tryz.prog Tryz.f158.ntmps (impl_Graph_sets_l0_s N) (loopAt impl_Graph_sets_code 0) :=
  loop_ok (l := impl_Graph_sets_l0_s N) progOk (impl_Graph_sets_gok N) (draw_ok progOk (impl_Graph_sets_gok N)) (fun R k x ks => impl_Graph_sets_l0_again N ks k x) (fun _ _ _ => rfl) (fun R k x ks => impl_Graph_sets_l0_step N R k x ks) (fun R x ks r h => ⟨N, h⟩) (lsOk_at (L := []) trivial) (by kernel_rfl) (by kernel_rfl)
noncomputable def impl_Graph_sets (N : Nat) (g : (Int × (List (Int × Int)))) (is : (Int → Option Bool)) : Option (((List (List Int)) × Unit) × (Unit)) :=
  impl_Graph_sets_l0 N (fun o => ((slices_SortFunc_LLI_LI_kslices_Compare_LI_int N o ()).bind fun r =>
    some ((r.2.1, ()), ()))) N is 0 g.1 g.2 []
noncomputable def impl_Graph_sets_S (N : Nat) : FSum := ⟨impl_Graph_sets_ps, impl_Graph_sets_rs, fun x => impl_Graph_sets N x.1 x.2.1⟩
theorem impl_Graph_sets_run (N : Nat) (x : argsT impl_Graph_sets_ps) : impl_Graph_sets N x.1 x.2.1 = funF (impl_Graph_sets_G N) tab [impl_Graph_sets_l0_s N] Tryz.f158 impl_Graph_sets_ps impl_Graph_sets_rs x := by kernel_rfl
theorem impl_Graph_sets_pc (N : Nat) : PC Tryz.prog 158 (impl_Graph_sets_S N) := by
  have e : impl_Graph_sets_S N = ⟨impl_Graph_sets_ps, impl_Graph_sets_rs, funF (impl_Graph_sets_G N) tab [impl_Graph_sets_l0_s N] Tryz.f158 impl_Graph_sets_ps impl_Graph_sets_rs⟩ := congrArg (FSum.mk impl_Graph_sets_ps impl_Graph_sets_rs) (funext (impl_Graph_sets_run N))
  rw [e]
  exact fun_ok (c := impl_Graph_sets_code) progOk (impl_Graph_sets_gok N) (draw_ok progOk (impl_Graph_sets_gok N)) Tryz.call158 Tryz.func158 (by kernel_rfl) (lsOk_at (L := [impl_Graph_sets_l0_s N]) ⟨impl_Graph_sets_l0_ok N, trivial⟩) (by kernel_rfl) (by kernel_rfl) (by kernel_rfl) (by kernel_rfl) (by kernel_rfl)

/-! ### math_bits_OnesCount64 -/
abbrev math_bits_OnesCount64_ps : List (PV.Mode × Ty) := [(.ro, U64)]
abbrev math_bits_OnesCount64_rs : List (Bool × Ty) := [(true, I)]
noncomputable def math_bits_OnesCount64_G (N : Nat) : GTab := gOf []
theorem math_bits_OnesCount64_gok (N : Nat) : GOk Tryz.prog (math_bits_OnesCount64_G N) := gOf_ok trivial
noncomputable def math_bits_OnesCount64_code : Code := (Tryz.f216.body).getD .skip
noncomputable def math_bits_OnesCount64 (N : Nat) (x : Int) : Option ((Int × Unit) × (Unit)) :=
  some (((bitop .and .i64 (IntKind.i64.wrap ((IntKind.u64.wrap ((IntKind.u64.wrap ((IntKind.u64.wrap ((bitop .and .u64 (IntKind.u64.wrap ((shrI .u64 (IntKind.u64.wrap ((bitop .and .u64 (shrI .u64 (IntKind.u64.wrap ((bitop .and .u64 (shrI .u64 x 1) 6148914691236517205) + (bitop .and .u64 x 6148914691236517205))) 2) 3689348814741910323) + (bitop .and .u64 (IntKind.u64.wrap ((bitop .and .u64 (shrI .u64 x 1) 6148914691236517205) + (bitop .and .u64 x 6148914691236517205))) 3689348814741910323))) 4) + (IntKind.u64.wrap ((bitop .and .u64 (shrI .u64 (IntKind.u64.wrap ((bitop .and .u64 (shrI .u64 x 1) 6148914691236517205) + (bitop .and .u64 x 6148914691236517205))) 2) 3689348814741910323) + (bitop .and .u64 (IntKind.u64.wrap ((bitop .and .u64 (shrI .u64 x 1) 6148914691236517205) + (bitop .and .u64 x 6148914691236517205))) 3689348814741910323))))) 1085102592571150095) + (shrI .u64 (bitop .and .u64 (IntKind.u64.wrap ((shrI .u64 (IntKind.u64.wrap ((bitop .and .u64 (shrI .u64 (IntKind.u64.wrap ((bitop .and .u64 (shrI .u64 x 1) 6148914691236517205) + (bitop .and .u64 x 6148914691236517205))) 2) 3689348814741910323) + (bitop .and .u64 (IntKind.u64.wrap ((bitop .and .u64 (shrI .u64 x 1) 6148914691236517205) + (bitop .and .u64 x 6148914691236517205))) 3689348814741910323))) 4) + (IntKind.u64.wrap ((bitop .and .u64 (shrI .u64 (IntKind.u64.wrap ((bitop .and .u64 (shrI .u64 x 1) 6148914691236517205) + (bitop .and .u64 x 6148914691236517205))) 2) 3689348814741910323) + (bitop .and .u64 (IntKind.u64.wrap ((bitop .and .u64 (shrI .u64 x 1) 6148914691236517205) + (bitop .and .u64 x 6148914691236517205))) 3689348814741910323))))) 1085102592571150095) 8))) + (shrI .u64 (IntKind.u64.wrap ((bitop .and .u64 (IntKind.u64.wrap ((shrI .u64 (IntKind.u64.wrap ((bitop .and .u64 (shrI .u64 (IntKind.u64.wrap ((bitop .and .u64 (shrI .u64 x 1) 6148914691236517205) + (bitop .and .u64 x 6148914691236517205))) 2) 3689348814741910323) + (bitop .and .u64 (IntKind.u64.wrap ((bitop .and .u64 (shrI .u64 x 1) 6148914691236517205) + (bitop .and .u64 x 6148914691236517205))) 3689348814741910323))) 4) + (IntKind.u64.wrap ((bitop .and .u64 (shrI .u64 (IntKind.u64.wrap ((bitop .and .u64 (shrI .u64 x 1) 6148914691236517205) + (bitop .and .u64 x 6148914691236517205))) 2) 3689348814741910323) + (bitop .and .u64 (IntKind.u64.wrap ((bitop .and .u64 (shrI .u64 x 1) 6148914691236517205) + (bitop .and .u64 x 6148914691236517205))) 3689348814741910323))))) 1085102592571150095) + (shrI .u64 (bitop .and .u64 (IntKind.u64.wrap ((shrI .u64 (IntKind.u64.wrap ((bitop .and .u64 (shrI .u64 (IntKind.u64.wrap ((bitop .and .u64 (shrI .u64 x 1) 6148914691236517205) + (bitop .and .u64 x 6148914691236517205))) 2) 3689348814741910323) + (bitop .and .u64 (IntKind.u64.wrap ((bitop .and .u64 (shrI .u64 x 1) 6148914691236517205) + (bitop .and .u64 x 6148914691236517205))) 3689348814741910323))) 4) + (IntKind.u64.wrap ((bitop .and .u64 (shrI .u64 (IntKind.u64.wrap ((bitop .and .u64 (shrI .u64 x 1) 6148914691236517205) + (bitop .and .u64 x 6148914691236517205))) 2) 3689348814741910323) + (bitop .and .u64 (IntKind.u64.wrap ((bitop .and .u64 (shrI .u64 x 1) 6148914691236517205) + (bitop .and .u64 x 6148914691236517205))) 3689348814741910323))))) 1085102592571150095) 8))) 16))) + (shrI .u64 (IntKind.u64.wrap ((IntKind.u64.wrap ((bitop .and .u64 (IntKind.u64.wrap ((shrI .u64 (IntKind.u64.wrap ((bitop .and .u64 (shrI .u64 (IntKind.u64.wrap ((bitop .and .u64 (shrI .u64 x 1) 6148914691236517205) + (bitop .and .u64 x 6148914691236517205))) 2) 3689348814741910323) + (bitop .and .u64 (IntKind.u64.wrap ((bitop .and .u64 (shrI .u64 x 1) 6148914691236517205) + (bitop .and .u64 x 6148914691236517205))) 3689348814741910323))) 4) + (IntKind.u64.wrap ((bitop .and .u64 (shrI .u64 (IntKind.u64.wrap ((bitop .and .u64 (shrI .u64 x 1) 6148914691236517205) + (bitop .and .u64 x 6148914691236517205))) 2) 3689348814741910323) + (bitop .and .u64 (IntKind.u64.wrap ((bitop .and .u64 (shrI .u64 x 1) 6148914691236517205) + (bitop .and .u64 x 6148914691236517205))) 3689348814741910323))))) 1085102592571150095) + (shrI .u64 (bitop .and .u64 (IntKind.u64.wrap ((shrI .u64 (IntKind.u64.wrap ((bitop .and .u64 (shrI .u64 (IntKind.u64.wrap ((bitop .and .u64 (shrI .u64 x 1) 6148914691236517205) + (bitop .and .u64 x 6148914691236517205))) 2) 3689348814741910323) + (bitop .and .u64 (IntKind.u64.wrap ((bitop .and .u64 (shrI .u64 x 1) 6148914691236517205) + (bitop .and .u64 x 6148914691236517205))) 3689348814741910323))) 4) + (IntKind.u64.wrap ((bitop .and .u64 (shrI .u64 (IntKind.u64.wrap ((bitop .and .u64 (shrI .u64 x 1) 6148914691236517205) + (bitop .and .u64 x 6148914691236517205))) 2) 3689348814741910323) + (bitop .and .u64 (IntKind.u64.wrap ((bitop .and .u64 (shrI .u64 x 1) 6148914691236517205) + (bitop .and .u64 x 6148914691236517205))) 3689348814741910323))))) 1085102592571150095) 8))) + (shrI .u64 (IntKind.u64.wrap ((bitop .and .u64 (IntKind.u64.wrap ((shrI .u64 (IntKind.u64.wrap ((bitop .and .u64 (shrI .u64 (IntKind.u64.wrap ((bitop .and .u64 (shrI .u64 x 1) 6148914691236517205) + (bitop .and .u64 x 6148914691236517205))) 2) 3689348814741910323) + (bitop .and .u64 (IntKind.u64.wrap ((bitop .and .u64 (shrI .u64 x 1) 6148914691236517205) + (bitop .and .u64 x 6148914691236517205))) 3689348814741910323))) 4) + (IntKind.u64.wrap ((bitop .and .u64 (shrI .u64 (IntKind.u64.wrap ((bitop .and .u64 (shrI .u64 x 1) 6148914691236517205) + (bitop .and .u64 x 6148914691236517205))) 2) 3689348814741910323) + (bitop .and .u64 (IntKind.u64.wrap ((bitop .and .u64 (shrI .u64 x 1) 6148914691236517205) + (bitop .and .u64 x 6148914691236517205))) 3689348814741910323))))) 1085102592571150095) + (shrI .u64 (bitop .and .u64 (IntKind.u64.wrap ((shrI .u64 (IntKind.u64.wrap ((bitop .and .u64 (shrI .u64 (IntKind.u64.wrap ((bitop .and .u64 (shrI .u64 x 1) 6148914691236517205) + (bitop .and .u64 x 6148914691236517205))) 2) 3689348814741910323) + (bitop .and .u64 (IntKind.u64.wrap ((bitop .and .u64 (shrI .u64 x 1) 6148914691236517205) + (bitop .and .u64 x 6148914691236517205))) 3689348814741910323))) 4) + (IntKind.u64.wrap ((bitop .and .u64 (shrI .u64 (IntKind.u64.wrap ((bitop .and .u64 (shrI .u64 x 1) 6148914691236517205) + (bitop .and .u64 x 6148914691236517205))) 2) 3689348814741910323) + (bitop .and .u64 (IntKind.u64.wrap ((bitop .and .u64 (shrI .u64 x 1) 6148914691236517205) + (bitop .and .u64 x 6148914691236517205))) 3689348814741910323))))) 1085102592571150095) 8))) 16))) 32))))) 127), ()), ())
noncomputable def math_bits_OnesCount64_S (N : Nat) : FSum := ⟨math_bits_OnesCount64_ps, math_bits_OnesCount64_rs, fun x => math_bits_OnesCount64 N x.1⟩
theorem math_bits_OnesCount64_run (N : Nat) (x : argsT math_bits_OnesCount64_ps) : math_bits_OnesCount64 N x.1 = funF (math_bits_OnesCount64_G N) tab [] Tryz.f216 math_bits_OnesCount64_ps math_bits_OnesCount64_rs x := by kernel_rfl
theorem math_bits_OnesCount64_pc (N : Nat) : PC Tryz.prog 216 (math_bits_OnesCount64_S N) := by
  have e : math_bits_OnesCount64_S N = ⟨math_bits_OnesCount64_ps, math_bits_OnesCount64_rs, funF (math_bits_OnesCount64_G N) tab [] Tryz.f216 math_bits_OnesCount64_ps math_bits_OnesCount64_rs⟩ := congrArg (FSum.mk math_bits_OnesCount64_ps math_bits_OnesCount64_rs) (funext (math_bits_OnesCount64_run N))
  rw [e]
  exact fun_ok (c := math_bits_OnesCount64_code) progOk (math_bits_OnesCount64_gok N) (draw_ok progOk (math_bits_OnesCount64_gok N)) Tryz.call216 Tryz.func216 (by kernel_rfl) (lsOk_at (L := []) trivial) (by kernel_rfl) (by kernel_rfl) (by kernel_rfl) (by kernel_rfl) (by kernel_rfl)

/-! ### math_bits_OnesCount -/
abbrev math_bits_OnesCount_ps : List (PV.Mode × Ty) := [(.ro, U64)]
abbrev math_bits_OnesCount_rs : List (Bool × Ty) := [(true, I)]
noncomputable def math_bits_OnesCount_G (N : Nat) : GTab := gOf [(216, math_bits_OnesCount64_S N)]
theorem math_bits_OnesCount_gok (N : Nat) : GOk Tryz.prog (math_bits_OnesCount_G N) := gOf_ok ⟨math_bits_OnesCount64_pc N, trivial⟩
noncomputable def math_bits_OnesCount_code : Code := (Tryz.f200.body).getD .skip
noncomputable def math_bits_OnesCount (N : Nat) (x : Int) : Option ((Int × Unit) × (Unit)) :=
  ((math_bits_OnesCount64 N x).bind fun r =>
    some ((r.1.1, ()), ()))
noncomputable def math_bits_OnesCount_S (N : Nat) : FSum := ⟨math_bits_OnesCount_ps, math_bits_OnesCount_rs, fun x => math_bits_OnesCount N x.1⟩
theorem math_bits_OnesCount_run (N : Nat) (x : argsT math_bits_OnesCount_ps) : math_bits_OnesCount N x.1 = funF (math_bits_OnesCount_G N) tab [] Tryz.f200 math_bits_OnesCount_ps math_bits_OnesCount_rs x := by kernel_rfl
theorem math_bits_OnesCount_pc (N : Nat) : PC Tryz.prog 200 (math_bits_OnesCount_S N) := by
  have e : math_bits_OnesCount_S N = ⟨math_bits_OnesCount_ps, math_bits_OnesCount_rs, funF (math_bits_OnesCount_G N) tab [] Tryz.f200 math_bits_OnesCount_ps math_bits_OnesCount_rs⟩ := congrArg (FSum.mk math_bits_OnesCount_ps math_bits_OnesCount_rs) (funext (math_bits_OnesCount_run N))
  rw [e]
  exact fun_ok (c := math_bits_OnesCount_code) progOk (math_bits_OnesCount_gok N) (draw_ok progOk (math_bits_OnesCount_gok N)) Tryz.call200 Tryz.func200 (by kernel_rfl) (lsOk_at (L := []) trivial) (by kernel_rfl) (by kernel_rfl) (by kernel_rfl) (by kernel_rfl) (by kernel_rfl)

/-! ### impl_bag_size -/
abbrev impl_bag_size_ps : List (PV.Mode × Ty) := [(.ro, U64)]
abbrev impl_bag_size_rs : List (Bool × Ty) := [(true, I)]
noncomputable def impl_bag_size_G (N : Nat) : GTab := gOf [(200, math_bits_OnesCount_S N)]
theorem impl_bag_size_gok (N : Nat) : GOk Tryz.prog (impl_bag_size_G N) := gOf_ok ⟨math_bits_OnesCount_pc N, trivial⟩
noncomputable def impl_bag_size_code : Code := (Tryz.f160.body).getD .skip
noncomputable def impl_bag_size (N : Nat) (b : Int) : Option ((Int × Unit) × (Unit)) :=
  ((math_bits_OnesCount N b).bind fun r =>
    some ((r.1.1, ()), ()))
noncomputable def impl_bag_size_S (N : Nat) : FSum := ⟨impl_bag_size_ps, impl_bag_size_rs, fun x => impl_bag_size N x.1⟩
theorem impl_bag_size_run (N : Nat) (x : argsT impl_bag_size_ps) : impl_bag_size N x.1 = funF (impl_bag_size_G N) tab [] Tryz.f160 impl_bag_size_ps impl_bag_size_rs x := by kernel_rfl
theorem impl_bag_size_pc (N : Nat) : PC Tryz.prog 160 (impl_bag_size_S N) := by
  have e : impl_bag_size_S N = ⟨impl_bag_size_ps, impl_bag_size_rs, funF (impl_bag_size_G N) tab [] Tryz.f160 impl_bag_size_ps impl_bag_size_rs⟩ := congrArg (FSum.mk impl_bag_size_ps impl_bag_size_rs) (funext (impl_bag_size_run N))
  rw [e]
  exact fun_ok (c := impl_bag_size_code) progOk (impl_bag_size_gok N) (draw_ok progOk (impl_bag_size_gok N)) Tryz.call160 Tryz.func160 (by kernel_rfl) (lsOk_at (L := []) trivial) (by kernel_rfl) (by kernel_rfl) (by kernel_rfl) (by kernel_rfl) (by kernel_rfl)

/-! ### impl_Graph_exactly_c1 -/
abbrev impl_Graph_exactly_c1_ps : List (PV.Mode × Ty) := [(.ro, U64), (.ro, AI), (.ro, AQILQII), (.ro, AI)]
abbrev impl_Graph_exactly_c1_rs : List (Bool × Ty) := [(true, .bool)]
noncomputable def impl_Graph_exactly_c1_G (N : Nat) : GTab := gOf [(160, impl_bag_size_S N), (156, impl_Graph_hasKind_S N)]
theorem impl_Graph_exactly_c1_gok (N : Nat) : GOk Tryz.prog (impl_Graph_exactly_c1_G N) := gOf_ok ⟨impl_bag_size_pc N, impl_Graph_hasKind_pc N, trivial⟩
noncomputable def impl_Graph_exactly_c1_code : Code := (Tryz.f159.body).getD .skip
noncomputable def impl_Graph_exactly_c1 (N : Nat) (b : Int) (c : Int) (c1 : (Int × (List (Int × Int)))) (c2 : Int) : Option ((Bool × Unit) × (Unit)) :=
  ((impl_bag_size N b).bind fun r =>
    (br (ieq r.1.1 c)
      (((impl_Graph_hasKind N c1 c2 b).bind fun r1 =>
        some ((r1.1.1, ()), ())))
      (some ((false, ()), ()))))
noncomputable def impl_Graph_exactly_c1_S (N : Nat) : FSum := ⟨impl_Graph_exactly_c1_ps, impl_Graph_exactly_c1_rs, fun x => impl_Graph_exactly_c1 N x.1 x.2.1 x.2.2.1 x.2.2.2.1⟩
theorem impl_Graph_exactly_c1_run (N : Nat) (x : argsT impl_Graph_exactly_c1_ps) : impl_Graph_exactly_c1 N x.1 x.2.1 x.2.2.1 x.2.2.2.1 = funF (impl_Graph_exactly_c1_G N) tab [] Tryz.f159 impl_Graph_exactly_c1_ps impl_Graph_exactly_c1_rs x := by kernel_rfl
theorem impl_Graph_exactly_c1_pc (N : Nat) : PC Tryz.prog 159 (impl_Graph_exactly_c1_S N) := by
  have e : impl_Graph_exactly_c1_S N = ⟨impl_Graph_exactly_c1_ps, impl_Graph_exactly_c1_rs, funF (impl_Graph_exactly_c1_G N) tab [] Tryz.f159 impl_Graph_exactly_c1_ps impl_Graph_exactly_c1_rs⟩ := congrArg (FSum.mk impl_Graph_exactly_c1_ps impl_Graph_exactly_c1_rs) (funext (impl_Graph_exactly_c1_run N))
  rw [e]
  exact fun_ok (c := impl_Graph_exactly_c1_code) progOk (impl_Graph_exactly_c1_gok N) (draw_ok progOk (impl_Graph_exactly_c1_gok N)) Tryz.call159 Tryz.func159 (by kernel_rfl) (lsOk_at (L := []) trivial) (by kernel_rfl) (by kernel_rfl) (by kernel_rfl) (by kernel_rfl) (by kernel_rfl)

/-! ### impl_Graph_exactly -/
abbrev impl_Graph_exactly_ps : List (PV.Mode × Ty) := [(.ro, QILQII), (.ro, I), (.ro, I)]
abbrev impl_Graph_exactly_rs : List (Bool × Ty) := [(true, LLI)]
noncomputable def impl_Graph_exactly_G (N : Nat) : GTab := gOf [(158, impl_Graph_sets_S N), (159, impl_Graph_exactly_c1_S N)]
theorem impl_Graph_exactly_gok (N : Nat) : GOk Tryz.prog (impl_Graph_exactly_G N) := gOf_ok ⟨impl_Graph_sets_pc N, impl_Graph_exactly_c1_pc N, trivial⟩
noncomputable def impl_Graph_exactly_code : Code := (Tryz.f118.body).getD .skip
noncomputable def impl_Graph_exactly (N : Nat) (g : (Int × (List (Int × Int)))) (kind : Int) (kv : Int) : Option (((List (List Int)) × Unit) × (Unit)) :=
  ((impl_Graph_sets N (g.1, g.2) (fun y0 => (impl_Graph_exactly_c1 N y0 kv (g.1, g.2) kind).bind fun z => some z.1.1)).bind fun r =>
    some ((r.1.1, ()), ()))
noncomputable def impl_Graph_exactly_S (N : Nat) : FSum := ⟨impl_Graph_exactly_ps, impl_Graph_exactly_rs, fun x => impl_Graph_exactly N x.1 x.2.1 x.2.2.1⟩
theorem impl_Graph_exactly_run (N : Nat) (x : argsT impl_Graph_exactly_ps) : impl_Graph_exactly N x.1 x.2.1 x.2.2.1 = funF (impl_Graph_exactly_G N) tab [] Tryz.f118 impl_Graph_exactly_ps impl_Graph_exactly_rs x := by kernel_rfl
theorem impl_Graph_exactly_pc (N : Nat) : PC Tryz.prog 118 (impl_Graph_exactly_S N) := by
  have e : impl_Graph_exactly_S N = ⟨impl_Graph_exactly_ps, impl_Graph_exactly_rs, funF (impl_Graph_exactly_G N) tab [] Tryz.f118 impl_Graph_exactly_ps impl_Graph_exactly_rs⟩ := congrArg (FSum.mk impl_Graph_exactly_ps impl_Graph_exactly_rs) (funext (impl_Graph_exactly_run N))
  rw [e]
  exact fun_ok (c := impl_Graph_exactly_code) progOk (impl_Graph_exactly_gok N) (draw_ok progOk (impl_Graph_exactly_gok N)) Tryz.call118 Tryz.func118 (by kernel_rfl) (lsOk_at (L := []) trivial) (by kernel_rfl) (by kernel_rfl) (by kernel_rfl) (by kernel_rfl) (by kernel_rfl)

/-! ### impl_spaceOf -/
abbrev impl_spaceOf_ps : List (PV.Mode × Ty) := [(.own, LLI), (.ro, GLILIBo)]
abbrev impl_spaceOf_rs : List (Bool × Ty) := [(true, QLLILQII)]
noncomputable def impl_spaceOf_G (N : Nat) : GTab := gOf [(82, slices_SortFunc_LLI_LI_kslices_Compare_LI_int_S N)]
theorem impl_spaceOf_gok (N : Nat) : GOk Tryz.prog (impl_spaceOf_G N) := gOf_ok ⟨slices_SortFunc_LLI_LI_kslices_Compare_LI_int_pc N, trivial⟩
noncomputable def impl_spaceOf_code : Code := (Tryz.f44.body).getD .skip
noncomputable def impl_spaceOf_l0_0_sh : Sh := ⟨[(1, .one (.ro GLILIBo)), (4, .one (.adr 0 0)), (5, .one (.adr 1 0)), (6, .one (.ro I)), (7, .one (.el 2)), (16, .one (.ref 2)), (17, .one (.ro I)), (18, .one (.ro I)), (27, .one (.sub 2 1)), (28, .one (.ro I)), (29, .one (.ro I))], [.box [.nilsl, .nilsl], .box [.ref 2, .ref 3], .sl 40 LI .deep, .sl 93 QII .own]⟩
noncomputable def impl_spaceOf_l0_0_ex : List (Ex × Sh) := [(.exit 2, ⟨[(1, .one (.ro GLILIBo)), (4, .one (.adr 0 0)), (5, .one (.adr 1 0)), (16, .one (.ref 2)), (17, .one (.ro I)), (18, .one (.ro I))], [.box [.nilsl, .nilsl], .box [.ref 2, .ref 3], .sl 40 LI .deep, .sl 93 QII .own]⟩)]
noncomputable def impl_spaceOf_l0_0 {R : Type} (N : Nat) (k0 : ((List Int) → (List Int) → Option Bool) → Int → Int → (List (List Int)) → (List (Int × Int)) → Option R) : Nat → ((List Int) → (List Int) → Option Bool) → Int → Int → Int → Int → Int → Int → Int → Int → (List (List Int)) → (List (Int × Int)) → Option R
  | 0, _, _, _, _, _, _, _, _, _, _, _ => none
  | K + 1, isStep2, i, a, x2, x3, x4, x5, x6, x7, o2, o3 =>
    (br (ilt x7 x6)
      ((chk (ile 0 x7 && ilt x7 (x5 - x4))
        ((isStep2 (rdL o2 a) (rdL o2 (x4 + x7))).bind fun v =>
        (br v
        ((chk (room o3 [(i, (IntKind.i64.wrap ((IntKind.i64.wrap (i + 1)) + x7)))])
          (impl_spaceOf_l0_0 N k0 K isStep2 i a x2 x3 x4 x5 x6 (IntKind.i64.wrap (x7 + 1)) o2 (tApp o3 [(i, (IntKind.i64.wrap ((IntKind.i64.wrap (i + 1)) + x7)))]))))
        (impl_spaceOf_l0_0 N k0 K isStep2 i a x2 x3 x4 x5 x6 (IntKind.i64.wrap (x7 + 1)) o2 o3)))))
      (k0 isStep2 x2 x3 o2 o3))
noncomputable def impl_spaceOf_l0_0_again {R : Type} (N : Nat) (ks : (j : Nat) → ((impl_spaceOf_l0_0_ex.getD j (.ret, Sh.none)).2).T → Option R) (k : Nat) (x : impl_spaceOf_l0_0_sh.T) : Option R :=
  impl_spaceOf_l0_0 N (fun y0 y1 y2 y3 y4 => ks 0 ((y0, (), (), (), y1, y2, ()), (((), (), ()), ((), (), ()), y3, y4, ()))) k x.1.1 x.1.2.2.2.1 x.1.2.2.2.2.1 x.1.2.2.2.2.2.2.1 x.1.2.2.2.2.2.2.2.1 x.1.2.2.2.2.2.2.2.2.1.1 x.1.2.2.2.2.2.2.2.2.1.2 x.1.2.2.2.2.2.2.2.2.2.1 x.1.2.2.2.2.2.2.2.2.2.2.1 x.2.2.2.1 x.2.2.2.2.1
noncomputable def impl_spaceOf_l0_0_s (N : Nat) : LSum := ⟨impl_spaceOf_l0_0_sh, impl_spaceOf_l0_0_ex, fun x ks => impl_spaceOf_l0_0_again N ks N x⟩
theorem impl_spaceOf_l0_0_step (N : Nat) (R : Type) (k : Nat) (x : impl_spaceOf_l0_0_sh.T) (ks : (j : Nat) → ((impl_spaceOf_l0_0_ex.getD j (.ret, Sh.none)).2).T → Option R) : impl_spaceOf_l0_0_again N ks (k + 1) x = roundF (impl_spaceOf_G N) tab [] (loopAt (loopAt impl_spaceOf_code 0) 0) impl_spaceOf_l0_0_sh impl_spaceOf_l0_0_ex (fun y => impl_spaceOf_l0_0_again N ks k y) ks x := by kernel_rfl
theorem impl_spaceOf_l0_0_ok (N : Nat) : LoopOk Tryz.prog Tryz.f44.ntmps (impl_spaceOf_l0_0_s N) (loopAt (loopAt impl_spaceOf_code 0) 0) :=
  loop_ok (l := impl_spaceOf_l0_0_s N) progOk (impl_spaceOf_gok N) (draw_ok progOk (impl_spaceOf_gok N)) (fun R k x ks => impl_spaceOf_l0_0_again N ks k x) (fun _ _ _ => rfl) (fun R k x ks => impl_spaceOf_l0_0_step N R k x ks) (fun R x ks r h => ⟨N, h⟩) (lsOk_at (L := []) trivial) (by kernel_rfl) (by kernel_rfl)
noncomputable def impl_spaceOf_l0_sh : Sh := ⟨[(1, .one (.ro GLILIBo)), (4, .one (.adr 0 0)), (5, .one (.adr 1 0)), (16, .one (.ref 2)), (17, .one (.ro I)), (18, .one (.ro I))], [.box [.nilsl, .nilsl], .box [.ref 2, .ref 3], .sl 40 LI .deep, .sl 93 QII .own]⟩
noncomputable def impl_spaceOf_l0_ex : List (Ex × Sh) := [(.exit 0, ⟨[(4, .one (.adr 0 0)), (5, .one (.adr 1 0))], [.box [.nilsl, .nilsl], .box [.ref 2, .ref 3], .sl 40 LI .deep, .sl 93 QII .own]⟩)]
noncomputable def impl_spaceOf_l0 {R : Type} (N : Nat) (k0 : (List (List Int)) → (List (Int × Int)) → Option R) : Nat → ((List Int) → (List Int) → Option Bool) → Int → Int → (List (List Int)) → (List (Int × Int)) → Option R
  | 0, _, _, _, _, _ => none
  | K + 1, isStep1, x, x1, o, o1 =>
    (br (ilt x1 x)
      ((chk (inb o x1)
        (chk (ile 0 (IntKind.i64.wrap (x1 + 1)) && ile (IntKind.i64.wrap (x1 + 1)) (tLen o) && ile (tLen o) (tLen o))
        (impl_spaceOf_l0_0 N (fun isStep2 x2 x3 o2 o3 => impl_spaceOf_l0 N k0 K isStep2 x2 (IntKind.i64.wrap (x3 + 1)) o2 o3) N isStep1 x1 x1 x x1 (IntKind.i64.wrap (x1 + 1)) (tLen o) ((tLen o) - (IntKind.i64.wrap (x1 + 1))) 0 o o1))))
      (k0 o o1))
noncomputable def impl_spaceOf_l0_again {R : Type} (N : Nat) (ks : (j : Nat) → ((impl_spaceOf_l0_ex.getD j (.ret, Sh.none)).2).T → Option R) (k : Nat) (x : impl_spaceOf_l0_sh.T) : Option R :=
  impl_spaceOf_l0 N (fun y0 y1 => ks 0 (((), (), ()), (((), (), ()), ((), (), ()), y0, y1, ()))) k x.1.1 x.1.2.2.2.2.1 x.1.2.2.2.2.2.1 x.2.2.2.1 x.2.2.2.2.1
noncomputable def impl_spaceOf_l0_s (N : Nat) : LSum := ⟨impl_spaceOf_l0_sh, impl_spaceOf_l0_ex, fun x ks => impl_spaceOf_l0_again N ks N x⟩
theorem impl_spaceOf_l0_step (N : Nat) (R : Type) (k : Nat) (x : impl_spaceOf_l0_sh.T) (ks : (j : Nat) → ((impl_spaceOf_l0_ex.getD j (.ret, Sh.none)).2).T → Option R) : impl_spaceOf_l0_again N ks (k + 1) x = roundF (impl_spaceOf_G N) tab [impl_spaceOf_l0_0_s N] (loopAt impl_spaceOf_code 0) impl_spaceOf_l0_sh impl_spaceOf_l0_ex (fun y => impl_spaceOf_l0_again N ks k y) ks x := by kernel_rfl
theorem impl_spaceOf_l0_ok (N : Nat) : LoopOk Tryz.prog Tryz.f44.ntmps (impl_spaceOf_l0_s N) (loopAt impl_spaceOf_code 0) :=
  loop_ok (l := impl_spaceOf_l0_s N) progOk (impl_spaceOf_gok N) (draw_ok progOk (impl_spaceOf_gok N)) (fun R k x ks => impl_spaceOf_l0_again N ks k x) (fun _ _ _ => rfl) (fun R k x ks => impl_spaceOf_l0_step N R k x ks) (fun R x ks r h => ⟨N, h⟩) (lsOk_at (L := [impl_spaceOf_l0_0_s N]) ⟨impl_spaceOf_l0_0_ok N, trivial⟩) (by kernel_rfl) (by kernel_rfl)
noncomputable def impl_spaceOf (N : Nat) (states : (List (List Int))) (isStep : ((List Int) → (List Int) → Option Bool)) : Option ((((List (List Int)) × (List (Int × Int))) × Unit) × (Unit)) :=
  ((slices_SortFunc_LLI_LI_kslices_Compare_LI_int N states ()).bind fun r =>
    impl_spaceOf_l0 N (fun o o1 => some (((o, o1), ()), ())) N isStep (tLen r.2.1) 0 r.2.1 [])
noncomputable def impl_spaceOf_S (N : Nat) : FSum := ⟨impl_spaceOf_ps, impl_spaceOf_rs, fun x => impl_spaceOf N x.1 x.2.1⟩
theorem impl_spaceOf_run (N : Nat) (x : argsT impl_spaceOf_ps) : impl_spaceOf N x.1 x.2.1 = funF (impl_spaceOf_G N) tab [impl_spaceOf_l0_s N] Tryz.f44 impl_spaceOf_ps impl_spaceOf_rs x := by kernel_rfl
theorem impl_spaceOf_pc (N : Nat) : PC Tryz.prog 44 (impl_spaceOf_S N) := by
  have e : impl_spaceOf_S N = ⟨impl_spaceOf_ps, impl_spaceOf_rs, funF (impl_spaceOf_G N) tab [impl_spaceOf_l0_s N] Tryz.f44 impl_spaceOf_ps impl_spaceOf_rs⟩ := congrArg (FSum.mk impl_spaceOf_ps impl_spaceOf_rs) (funext (impl_spaceOf_run N))
  rw [e]
  exact fun_ok (c := impl_spaceOf_code) progOk (impl_spaceOf_gok N) (draw_ok progOk (impl_spaceOf_gok N)) Tryz.call44 Tryz.func44 (by kernel_rfl) (lsOk_at (L := [impl_spaceOf_l0_s N]) ⟨impl_spaceOf_l0_ok N, trivial⟩) (by kernel_rfl) (by kernel_rfl) (by kernel_rfl) (by kernel_rfl) (by kernel_rfl)

/-! ### impl_moves -/
abbrev impl_moves_ps : List (PV.Mode × Ty) := [(.ro, LI), (.ro, LI)]
abbrev impl_moves_rs : List (Bool × Ty) := [(true, U64), (true, U64)]
noncomputable def impl_moves_G (N : Nat) : GTab := gOf [(67, impl_bagOf_S N)]
theorem impl_moves_gok (N : Nat) : GOk Tryz.prog (impl_moves_G N) := gOf_ok ⟨impl_bagOf_pc N, trivial⟩
noncomputable def impl_moves_code : Code := (Tryz.f161.body).getD .skip
noncomputable def impl_moves (N : Nat) (a : (List Int)) (b : (List Int)) : Option ((Int × Int × Unit) × (Unit)) :=
  ((impl_bagOf N a).bind fun r =>
    ((impl_bagOf N b).bind fun r1 =>
      some (((bitop .andNot .u64 r.1.1 r1.1.1), (bitop .andNot .u64 r1.1.1 r.1.1), ()), ())))
noncomputable def impl_moves_S (N : Nat) : FSum := ⟨impl_moves_ps, impl_moves_rs, fun x => impl_moves N x.1 x.2.1⟩
theorem impl_moves_run (N : Nat) (x : argsT impl_moves_ps) : impl_moves N x.1 x.2.1 = funF (impl_moves_G N) tab [] Tryz.f161 impl_moves_ps impl_moves_rs x := by kernel_rfl
theorem impl_moves_pc (N : Nat) : PC Tryz.prog 161 (impl_moves_S N) := by
  have e : impl_moves_S N = ⟨impl_moves_ps, impl_moves_rs, funF (impl_moves_G N) tab [] Tryz.f161 impl_moves_ps impl_moves_rs⟩ := congrArg (FSum.mk impl_moves_ps impl_moves_rs) (funext (impl_moves_run N))
  rw [e]
  exact fun_ok (c := impl_moves_code) progOk (impl_moves_gok N) (draw_ok progOk (impl_moves_gok N)) Tryz.call161 Tryz.func161 (by kernel_rfl) (lsOk_at (L := []) trivial) (by kernel_rfl) (by kernel_rfl) (by kernel_rfl) (by kernel_rfl) (by kernel_rfl)

/-! ### impl_isJump -/
abbrev impl_isJump_ps : List (PV.Mode × Ty) := [(.ro, LI), (.ro, LI)]
abbrev impl_isJump_rs : List (Bool × Ty) := [(true, .bool)]
noncomputable def impl_isJump_G (N : Nat) : GTab := gOf [(161, impl_moves_S N), (160, impl_bag_size_S N)]
theorem impl_isJump_gok (N : Nat) : GOk Tryz.prog (impl_isJump_G N) := gOf_ok ⟨impl_moves_pc N, impl_bag_size_pc N, trivial⟩
noncomputable def impl_isJump_code : Code := (Tryz.f119.body).getD .skip
noncomputable def impl_isJump (N : Nat) (a : (List Int)) (b : (List Int)) : Option ((Bool × Unit) × (Unit)) :=
  ((impl_moves N a b).bind fun r =>
    ((impl_bag_size N r.1.1).bind fun r1 =>
      (br (ieq r1.1.1 1)
        (((impl_bag_size N r.1.2.1).bind fun r2 =>
          some (((ieq r2.1.1 1), ()), ())))
        (some ((false, ()), ())))))
noncomputable def impl_isJump_S (N : Nat) : FSum := ⟨impl_isJump_ps, impl_isJump_rs, fun x => impl_isJump N x.1 x.2.1⟩
theorem impl_isJump_run (N : Nat) (x : argsT impl_isJump_ps) : impl_isJump N x.1 x.2.1 = funF (impl_isJump_G N) tab [] Tryz.f119 impl_isJump_ps impl_isJump_rs x := by kernel_rfl
theorem impl_isJump_pc (N : Nat) : PC Tryz.prog 119 (impl_isJump_S N) := by
  have e : impl_isJump_S N = ⟨impl_isJump_ps, impl_isJump_rs, funF (impl_isJump_G N) tab [] Tryz.f119 impl_isJump_ps impl_isJump_rs⟩ := congrArg (FSum.mk impl_isJump_ps impl_isJump_rs) (funext (impl_isJump_run N))
  rw [e]
  exact fun_ok (c := impl_isJump_code) progOk (impl_isJump_gok N) (draw_ok progOk (impl_isJump_gok N)) Tryz.call119 Tryz.func119 (by kernel_rfl) (lsOk_at (L := []) trivial) (by kernel_rfl) (by kernel_rfl) (by kernel_rfl) (by kernel_rfl) (by kernel_rfl)

/-! ### impl_ExchangeSpace -/
abbrev impl_ExchangeSpace_ps : List (PV.Mode × Ty) := [(.ro, QILQII), (.ro, I), (.ro, I)]
abbrev impl_ExchangeSpace_rs : List (Bool × Ty) := [(true, QLLILQII), (true, .bool)]
noncomputable def impl_ExchangeSpace_G (N : Nat) : GTab := gOf [(117, impl_isThreshold_S N), (118, impl_Graph_exactly_S N), (44, impl_spaceOf_S N), (119, impl_isJump_S N)]
theorem impl_ExchangeSpace_gok (N : Nat) : GOk Tryz.prog (impl_ExchangeSpace_G N) := gOf_ok ⟨impl_isThreshold_pc N, impl_Graph_exactly_pc N, impl_spaceOf_pc N, impl_isJump_pc N, trivial⟩
noncomputable def impl_ExchangeSpace_code : Code := (Tryz.f76.body).getD .skip
noncomputable def impl_ExchangeSpace (N : Nat) (g : (Int × (List (Int × Int)))) (kind : Int) (kv : Int) : Option ((((List (List Int)) × (List (Int × Int))) × Bool × Unit) × (Unit)) :=
  ((impl_isThreshold N (g.1, g.2) kind kv).bind fun r =>
    (br (!r.1.1)
      (some ((([], []), false, ()), ()))
      (((impl_Graph_exactly N (g.1, g.2) kind kv).bind fun r1 =>
        ((impl_spaceOf N r1.1.1 (fun y0 y1 => (impl_isJump N y0 y1).bind fun z => some z.1.1)).bind fun r2 =>
          some (((r2.1.1.1, r2.1.1.2), true, ()), ()))))))
noncomputable def impl_ExchangeSpace_S (N : Nat) : FSum := ⟨impl_ExchangeSpace_ps, impl_ExchangeSpace_rs, fun x => impl_ExchangeSpace N x.1 x.2.1 x.2.2.1⟩
theorem impl_ExchangeSpace_run (N : Nat) (x : argsT impl_ExchangeSpace_ps) : impl_ExchangeSpace N x.1 x.2.1 x.2.2.1 = funF (impl_ExchangeSpace_G N) tab [] Tryz.f76 impl_ExchangeSpace_ps impl_ExchangeSpace_rs x := by kernel_rfl
theorem impl_ExchangeSpace_pc (N : Nat) : PC Tryz.prog 76 (impl_ExchangeSpace_S N) := by
  have e : impl_ExchangeSpace_S N = ⟨impl_ExchangeSpace_ps, impl_ExchangeSpace_rs, funF (impl_ExchangeSpace_G N) tab [] Tryz.f76 impl_ExchangeSpace_ps impl_ExchangeSpace_rs⟩ := congrArg (FSum.mk impl_ExchangeSpace_ps impl_ExchangeSpace_rs) (funext (impl_ExchangeSpace_run N))
  rw [e]
  exact fun_ok (c := impl_ExchangeSpace_code) progOk (impl_ExchangeSpace_gok N) (draw_ok progOk (impl_ExchangeSpace_gok N)) Tryz.call76 Tryz.func76 (by kernel_rfl) (lsOk_at (L := []) trivial) (by kernel_rfl) (by kernel_rfl) (by kernel_rfl) (by kernel_rfl) (by kernel_rfl)

/-! ### slices_BinarySearchFunc_LLI_LI_LI -/
abbrev slices_BinarySearchFunc_LLI_LI_LI_ps : List (PV.Mode × Ty) := [(.ro, LLI), (.ro, LI), (.ro, GLILII)]
abbrev slices_BinarySearchFunc_LLI_LI_LI_rs : List (Bool × Ty) := [(true, I), (true, .bool)]
noncomputable def slices_BinarySearchFunc_LLI_LI_LI_G (N : Nat) : GTab := gOf []
theorem slices_BinarySearchFunc_LLI_LI_LI_gok (N : Nat) : GOk Tryz.prog (slices_BinarySearchFunc_LLI_LI_LI_G N) := gOf_ok trivial
noncomputable def slices_BinarySearchFunc_LLI_LI_LI_code : Code := (Tryz.f105.body).getD .skip
noncomputable def slices_BinarySearchFunc_LLI_LI_LI_l0_sh : Sh := ⟨[(0, .one (.ro LLI)), (1, .one (.ro LI)), (2, .one (.ro GLILII)), (8, .one (.ro I)), (9, .one (.ro I)), (10, .one (.ro I))], []⟩
noncomputable def slices_BinarySearchFunc_LLI_LI_LI_l0_ex : List (Ex × Sh) := [(.exit 0, ⟨[(0, .one (.ro LLI)), (1, .one (.ro LI)), (2, .one (.ro GLILII)), (8, .one (.ro I)), (9, .one (.ro I))], []⟩)]
noncomputable def slices_BinarySearchFunc_LLI_LI_LI_l0 {R : Type} (N : Nat) (k0 : (List (List Int)) → (List Int) → ((List Int) → (List Int) → Option Int) → Int → Int → Option R) : Nat → (List (List Int)) → (List Int) → ((List Int) → (List Int) → Option Int) → Int → Int → Int → Option R
  | 0, _, _, _, _, _, _ => none
  | K + 1, x1, target1, cmp1, n, i, j =>
    (br (ilt i j)
      ((chk (inb x1 (IntKind.i64.wrap ((shrI .u64 (IntKind.u64.wrap ((IntKind.i64.wrap (i + j)))) 1))))
        ((cmp1 (rdL x1 (IntKind.i64.wrap ((shrI .u64 (IntKind.u64.wrap ((IntKind.i64.wrap (i + j)))) 1)))) target1).bind fun v =>
        (br (ilt v 0)
        (slices_BinarySearchFunc_LLI_LI_LI_l0 N k0 K x1 target1 cmp1 n (IntKind.i64.wrap ((IntKind.i64.wrap ((shrI .u64 (IntKind.u64.wrap ((IntKind.i64.wrap (i + j)))) 1))) + 1)) j)
        (slices_BinarySearchFunc_LLI_LI_LI_l0 N k0 K x1 target1 cmp1 n i (IntKind.i64.wrap ((shrI .u64 (IntKind.u64.wrap ((IntKind.i64.wrap (i + j)))) 1))))))))
      (k0 x1 target1 cmp1 n i))
noncomputable def slices_BinarySearchFunc_LLI_LI_LI_l0_again {R : Type} (N : Nat) (ks : (j : Nat) → ((slices_BinarySearchFunc_LLI_LI_LI_l0_ex.getD j (.ret, Sh.none)).2).T → Option R) (k : Nat) (x : slices_BinarySearchFunc_LLI_LI_LI_l0_sh.T) : Option R :=
  slices_BinarySearchFunc_LLI_LI_LI_l0 N (fun y0 y1 y2 y3 y4 => ks 0 ((y0, y1, y2, y3, y4, ()), ())) k x.1.1 x.1.2.1 x.1.2.2.1 x.1.2.2.2.1 x.1.2.2.2.2.1 x.1.2.2.2.2.2.1
noncomputable def slices_BinarySearchFunc_LLI_LI_LI_l0_s (N : Nat) : LSum := ⟨slices_BinarySearchFunc_LLI_LI_LI_l0_sh, slices_BinarySearchFunc_LLI_LI_LI_l0_ex, fun x ks => slices_BinarySearchFunc_LLI_LI_LI_l0_again N ks N x⟩
theorem slices_BinarySearchFunc_LLI_LI_LI_l0_step (N : Nat) (R : Type) (k : Nat) (x : slices_BinarySearchFunc_LLI_LI_LI_l0_sh.T) (ks : (j : Nat) → ((slices_BinarySearchFunc_LLI_LI_LI_l0_ex.getD j (.ret, Sh.none)).2).T → Option R) : slices_BinarySearchFunc_LLI_LI_LI_l0_again N ks (k + 1) x = roundF (slices_BinarySearchFunc_LLI_LI_LI_G N) tab [] (loopAt slices_BinarySearchFunc_LLI_LI_LI_code 0) slices_BinarySearchFunc_LLI_LI_LI_l0_sh slices_BinarySearchFunc_LLI_LI_LI_l0_ex (fun y => slices_BinarySearchFunc_LLI_LI_LI_l0_again N ks k y) ks x := by kernel_rfl
theorem slices_BinarySearchFunc_LLI_LI_LI_l0_ok (N : Nat) : LoopOk Tryz.prog Tryz.f105.ntmps (slices_BinarySearchFunc_LLI_LI_LI_l0_s N) (loopAt slices_BinarySearchFunc_LLI_LI_LI_code 0) :=
  loop_ok (l := slices_BinarySearchFunc_LLI_LI_LI_l0_s N) progOk (slices_BinarySearchFunc_LLI_LI_LI_gok N) (draw_ok progOk (slices_BinarySearchFunc_LLI_LI_LI_gok N)) (fun R k x ks => slices_BinarySearchFunc_LLI_LI_LI_l0_again N ks k x) (fun _ _ _ => rfl) (fun R k x ks => slices_BinarySearchFunc_LLI_LI_LI_l0_step N R k x ks) (fun R x ks r h => ⟨N, h⟩) (lsOk_at (L := []) trivial) (by kernel_rfl) (by kernel_rfl)
noncomputable def slices_BinarySearchFunc_LLI_LI_LI (N : Nat) (x : (List (List Int))) (target : (List Int)) (cmp : ((List Int) → (List Int) → Option Int)) : Option ((Int × Bool × Unit) × (Unit)) :=
  slices_BinarySearchFunc_LLI_LI_LI_l0 N (fun x1 target1 cmp1 n i => (br (ilt i n)
    ((chk (inb x1 i)
      ((cmp1 (rdL x1 i) target1).bind fun v =>
      some ((i, (ieq v 0), ()), ()))))
    (some ((i, false, ()), ())))) N x target cmp (tLen x) 0 (tLen x)
noncomputable def slices_BinarySearchFunc_LLI_LI_LI_S (N : Nat) : FSum := ⟨slices_BinarySearchFunc_LLI_LI_LI_ps, slices_BinarySearchFunc_LLI_LI_LI_rs, fun x => slices_BinarySearchFunc_LLI_LI_LI N x.1 x.2.1 x.2.2.1⟩
theorem slices_BinarySearchFunc_LLI_LI_LI_run (N : Nat) (x : argsT slices_BinarySearchFunc_LLI_LI_LI_ps) : slices_BinarySearchFunc_LLI_LI_LI N x.1 x.2.1 x.2.2.1 = funF (slices_BinarySearchFunc_LLI_LI_LI_G N) tab [slices_BinarySearchFunc_LLI_LI_LI_l0_s N] Tryz.f105 slices_BinarySearchFunc_LLI_LI_LI_ps slices_BinarySearchFunc_LLI_LI_LI_rs x := by kernel_rfl
theorem slices_BinarySearchFunc_LLI_LI_LI_pc (N : Nat) : PC Tryz.prog 105 (slices_BinarySearchFunc_LLI_LI_LI_S N) := by
  have e : slices_BinarySearchFunc_LLI_LI_LI_S N = ⟨slices_BinarySearchFunc_LLI_LI_LI_ps, slices_BinarySearchFunc_LLI_LI_LI_rs, funF (slices_BinarySearchFunc_LLI_LI_LI_G N) tab [slices_BinarySearchFunc_LLI_LI_LI_l0_s N] Tryz.f105 slices_BinarySearchFunc_LLI_LI_LI_ps slices_BinarySearchFunc_LLI_LI_LI_rs⟩ := congrArg (FSum.mk slices_BinarySearchFunc_LLI_LI_LI_ps slices_BinarySearchFunc_LLI_LI_LI_rs) (funext (slices_BinarySearchFunc_LLI_LI_LI_run N))
  rw [e]
  exact fun_ok (c := slices_BinarySearchFunc_LLI_LI_LI_code) progOk (slices_BinarySearchFunc_LLI_LI_LI_gok N) (draw_ok progOk (slices_BinarySearchFunc_LLI_LI_LI_gok N)) Tryz.call105 Tryz.func105 (by kernel_rfl) (lsOk_at (L := [slices_BinarySearchFunc_LLI_LI_LI_l0_s N]) ⟨slices_BinarySearchFunc_LLI_LI_LI_l0_ok N, trivial⟩) (by kernel_rfl) (by kernel_rfl) (by kernel_rfl) (by kernel_rfl) (by kernel_rfl)

/-! ### impl_Space_place -/
abbrev impl_Space_place_ps : List (PV.Mode × Ty) := [(.ro, QLLILQII), (.ro, LI)]
abbrev impl_Space_place_rs : List (Bool × Ty) := [(true, I), (true, .bool)]
noncomputable def impl_Space_place_G (N : Nat) : GTab := gOf [(105, slices_BinarySearchFunc_LLI_LI_LI_S N), (83, slices_Compare_LI_int_S N)]
theorem impl_Space_place_gok (N : Nat) : GOk Tryz.prog (impl_Space_place_G N) := gOf_ok ⟨slices_BinarySearchFunc_LLI_LI_LI_pc N, slices_Compare_LI_int_pc N, trivial⟩
noncomputable def impl_Space_place_code : Code := (Tryz.f64.body).getD .skip
noncomputable def impl_Space_place (N : Nat) (x : ((List (List Int)) × (List (Int × Int)))) (state : (List Int)) : Option ((Int × Bool × Unit) × (Unit)) :=
  ((slices_BinarySearchFunc_LLI_LI_LI N x.1 state (fun y0 y1 => (slices_Compare_LI_int N y0 y1).bind fun z => some z.1.1)).bind fun r =>
    some ((r.1.1, r.1.2.1, ()), ()))
noncomputable def impl_Space_place_S (N : Nat) : FSum := ⟨impl_Space_place_ps, impl_Space_place_rs, fun x => impl_Space_place N x.1 x.2.1⟩
theorem impl_Space_place_run (N : Nat) (x : argsT impl_Space_place_ps) : impl_Space_place N x.1 x.2.1 = funF (impl_Space_place_G N) tab [] Tryz.f64 impl_Space_place_ps impl_Space_place_rs x := by kernel_rfl
theorem impl_Space_place_pc (N : Nat) : PC Tryz.prog 64 (impl_Space_place_S N) := by
  have e : impl_Space_place_S N = ⟨impl_Space_place_ps, impl_Space_place_rs, funF (impl_Space_place_G N) tab [] Tryz.f64 impl_Space_place_ps impl_Space_place_rs⟩ := congrArg (FSum.mk impl_Space_place_ps impl_Space_place_rs) (funext (impl_Space_place_run N))
  rw [e]
  exact fun_ok (c := impl_Space_place_code) progOk (impl_Space_place_gok N) (draw_ok progOk (impl_Space_place_gok N)) Tryz.call64 Tryz.func64 (by kernel_rfl) (lsOk_at (L := []) trivial) (by kernel_rfl) (by kernel_rfl) (by kernel_rfl) (by kernel_rfl) (by kernel_rfl)
end Go.Proofs.YtgelipdkheahdaaGreat
