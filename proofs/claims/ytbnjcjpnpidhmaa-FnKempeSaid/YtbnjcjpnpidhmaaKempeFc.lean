/- Functions of the program as functions on data. -/
import Derived.Test.YtbnjcjpnpidhmaaKempeFb
set_option linter.all false
namespace Go.Proofs.Ytbnjcjpnpidhmaa
open Go Go.PV
/-! ### impl_Graph_neighbors -/
abbrev impl_Graph_neighbors_ps : List (PV.Mode × Ty) := [(.ro, QILQII), (.ro, I)]
abbrev impl_Graph_neighbors_rs : List (Bool × Ty) := [(true, LI)]
noncomputable def impl_Graph_neighbors_G (N : Nat) : GTab := gOf [(96, impl_Graph_has_S N)]
theorem impl_Graph_neighbors_gok (N : Nat) : GOk Try.prog (impl_Graph_neighbors_G N) := gOf_ok ⟨impl_Graph_has_pc N, trivial⟩
noncomputable def impl_Graph_neighbors_code : Code := (Try.f55.body).getD .skip
noncomputable def impl_Graph_neighbors_l0_sh : Sh := ⟨[(1, .one (.ro I)), (2, .one (.adr 0 0)), (5, .one (.ref 1)), (9, .one (.ro I)), (10, .one (.ro I))], [.box [.ro I, .ro LQII], .sl 3 I .own]⟩
noncomputable def impl_Graph_neighbors_l0_ex : List (Ex × Sh) := [(.exit 0, ⟨[(5, .one (.ref 0))], [.sl 3 I .own]⟩)]
noncomputable def impl_Graph_neighbors_l0 {R : Type} (N : Nat) (k0 : (List Int) → Option R) : Nat → Int → Int → Int → Int → (List (Int × Int)) → (List Int) → Option R
  | 0, _, _, _, _, _, _ => none
  | K + 1, x1, x2, x3, o, o1, o2 =>
    (br (ilt x3 x2)
      ((br (ine x3 x1)
        (((impl_Graph_has N (o, o1) x1 x3).bind fun r =>
          (br r.1.1
            ((chk (room o2 [x3])
              (impl_Graph_neighbors_l0 N k0 K x1 x2 (IntKind.i64.wrap (x3 + 1)) o o1 (tApp o2 [x3]))))
            (impl_Graph_neighbors_l0 N k0 K x1 x2 (IntKind.i64.wrap (x3 + 1)) o o1 o2))))
        (impl_Graph_neighbors_l0 N k0 K x1 x2 (IntKind.i64.wrap (x3 + 1)) o o1 o2)))
      (k0 o2))
noncomputable def impl_Graph_neighbors_l0_again {R : Type} (N : Nat) (ks : (j : Nat) → ((impl_Graph_neighbors_l0_ex.getD j (.ret, Sh.none)).2).T → Option R) (k : Nat) (x : impl_Graph_neighbors_l0_sh.T) : Option R :=
  impl_Graph_neighbors_l0 N (fun y0 => ks 0 (((), ()), (y0, ()))) k x.1.1 x.1.2.2.2.1 x.1.2.2.2.2.1 x.2.1.1 x.2.1.2.1 x.2.2.1
noncomputable def impl_Graph_neighbors_l0_s (N : Nat) : LSum := ⟨impl_Graph_neighbors_l0_sh, impl_Graph_neighbors_l0_ex, fun x ks => impl_Graph_neighbors_l0_again N ks N x⟩
theorem impl_Graph_neighbors_l0_step (N : Nat) (R : Type) (k : Nat) (x : impl_Graph_neighbors_l0_sh.T) (ks : (j : Nat) → ((impl_Graph_neighbors_l0_ex.getD j (.ret, Sh.none)).2).T → Option R) : impl_Graph_neighbors_l0_again N ks (k + 1) x = roundF (impl_Graph_neighbors_G N) tab [] (loopAt impl_Graph_neighbors_code 0) impl_Graph_neighbors_l0_sh impl_Graph_neighbors_l0_ex (fun y => impl_Graph_neighbors_l0_again N ks k y) ks x := by kernel_rfl
theorem impl_Graph_neighbors_l0_ok (N : Nat) : LoopOk Try.prog Try.f55.ntmps (impl_Graph_neighbors_l0_s N) (loopAt impl_Graph_neighbors_code 0) :=
  loop_ok (l := impl_Graph_neighbors_l0_s N) progOk (impl_Graph_neighbors_gok N) (draw_ok progOk (impl_Graph_neighbors_gok N)) (fun R k x ks => impl_Graph_neighbors_l0_again N ks k x) (fun _ _ _ => rfl) (fun R k x ks => impl_Graph_neighbors_l0_step N R k x ks) (fun R x ks r h => ⟨N, h⟩) (lsOk_at (L := []) trivial) (by kernel_rfl) (by kernel_rfl)
noncomputable def impl_Graph_neighbors (N : Nat) (g : (Int × (List (Int × Int)))) (x : Int) : Option (((List Int) × Unit) × (Unit)) :=
  impl_Graph_neighbors_l0 N (fun o => some ((o, ()), ())) N x g.1 0 g.1 g.2 []
noncomputable def impl_Graph_neighbors_S (N : Nat) : FSum := ⟨impl_Graph_neighbors_ps, impl_Graph_neighbors_rs, fun x => impl_Graph_neighbors N x.1 x.2.1⟩
theorem impl_Graph_neighbors_run (N : Nat) (x : argsT impl_Graph_neighbors_ps) : impl_Graph_neighbors N x.1 x.2.1 = funF (impl_Graph_neighbors_G N) tab [impl_Graph_neighbors_l0_s N] Try.f55 impl_Graph_neighbors_ps impl_Graph_neighbors_rs x := by kernel_rfl
theorem impl_Graph_neighbors_pc (N : Nat) : PC Try.prog 55 (impl_Graph_neighbors_S N) := by
  have e : impl_Graph_neighbors_S N = ⟨impl_Graph_neighbors_ps, impl_Graph_neighbors_rs, funF (impl_Graph_neighbors_G N) tab [impl_Graph_neighbors_l0_s N] Try.f55 impl_Graph_neighbors_ps impl_Graph_neighbors_rs⟩ := congrArg (FSum.mk impl_Graph_neighbors_ps impl_Graph_neighbors_rs) (funext (impl_Graph_neighbors_run N))
  rw [e]
  exact fun_ok (c := impl_Graph_neighbors_code) progOk (impl_Graph_neighbors_gok N) (draw_ok progOk (impl_Graph_neighbors_gok N)) Try.call55 Try.func55 (by kernel_rfl) (lsOk_at (L := [impl_Graph_neighbors_l0_s N]) ⟨impl_Graph_neighbors_l0_ok N, trivial⟩) (by kernel_rfl) (by kernel_rfl) (by kernel_rfl) (by kernel_rfl) (by kernel_rfl)

/-! ### slices_Index_LI_int -/
abbrev slices_Index_LI_int_ps : List (PV.Mode × Ty) := [(.ro, LI), (.ro, I)]
abbrev slices_Index_LI_int_rs : List (Bool × Ty) := [(true, I)]
noncomputable def slices_Index_LI_int_G (N : Nat) : GTab := gOf []
theorem slices_Index_LI_int_gok (N : Nat) : GOk Try.prog (slices_Index_LI_int_G N) := gOf_ok trivial
noncomputable def slices_Index_LI_int_code : Code := (Try.f131.body).getD .skip
noncomputable def slices_Index_LI_int_l0_sh : Sh := ⟨[(0, .one (.ro LI)), (1, .one (.ro I)), (7, .one (.ro I)), (8, .one (.ro I))], []⟩
noncomputable def slices_Index_LI_int_l0_ex : List (Ex × Sh) := [(.ret, ⟨[(4, .one (.ro I))], []⟩), (.exit 0, ⟨[], []⟩)]
noncomputable def slices_Index_LI_int_l0 {R : Type} (N : Nat) (k0 : Int → Option R) (k1 : Unit → Option R) : Nat → (List Int) → Int → Int → Int → Option R
  | 0, _, _, _, _ => none
  | K + 1, s1, v1, x, x1 =>
    (br (ilt x1 x)
      ((chk (inb s1 x1)
        (br (ieq v1 (rdI s1 x1))
        (k0 x1)
        (slices_Index_LI_int_l0 N k0 k1 K s1 v1 x (IntKind.i64.wrap (x1 + 1))))))
      (k1 ()))
noncomputable def slices_Index_LI_int_l0_again {R : Type} (N : Nat) (ks : (j : Nat) → ((slices_Index_LI_int_l0_ex.getD j (.ret, Sh.none)).2).T → Option R) (k : Nat) (x : slices_Index_LI_int_l0_sh.T) : Option R :=
  slices_Index_LI_int_l0 N (fun y0 => ks 0 ((y0, ()), ())) (fun (_ : Unit) => ks 1 ((), ())) k x.1.1 x.1.2.1 x.1.2.2.1 x.1.2.2.2.1
noncomputable def slices_Index_LI_int_l0_s (N : Nat) : LSum := ⟨slices_Index_LI_int_l0_sh, slices_Index_LI_int_l0_ex, fun x ks => slices_Index_LI_int_l0_again N ks N x⟩
theorem slices_Index_LI_int_l0_step (N : Nat) (R : Type) (k : Nat) (x : slices_Index_LI_int_l0_sh.T) (ks : (j : Nat) → ((slices_Index_LI_int_l0_ex.getD j (.ret, Sh.none)).2).T → Option R) : slices_Index_LI_int_l0_again N ks (k + 1) x = roundF (slices_Index_LI_int_G N) tab [] (loopAt slices_Index_LI_int_code 0) slices_Index_LI_int_l0_sh slices_Index_LI_int_l0_ex (fun y => slices_Index_LI_int_l0_again N ks k y) ks x := by kernel_rfl
theorem slices_Index_LI_int_l0_ok (N : Nat) : LoopOk Try.prog Try.f131.ntmps (slices_Index_LI_int_l0_s N) (loopAt slices_Index_LI_int_code 0) :=
  loop_ok (l := slices_Index_LI_int_l0_s N) progOk (slices_Index_LI_int_gok N) (draw_ok progOk (slices_Index_LI_int_gok N)) (fun R k x ks => slices_Index_LI_int_l0_again N ks k x) (fun _ _ _ => rfl) (fun R k x ks => slices_Index_LI_int_l0_step N R k x ks) (fun R x ks r h => ⟨N, h⟩) (lsOk_at (L := []) trivial) (by kernel_rfl) (by kernel_rfl)
noncomputable def slices_Index_LI_int (N : Nat) (s : (List Int)) (v : Int) : Option ((Int × Unit) × (Unit)) :=
  slices_Index_LI_int_l0 N (fun x => some ((x, ()), ())) (fun (_ : Unit) => some (((-1), ()), ())) N s v (tLen s) 0
noncomputable def slices_Index_LI_int_S (N : Nat) : FSum := ⟨slices_Index_LI_int_ps, slices_Index_LI_int_rs, fun x => slices_Index_LI_int N x.1 x.2.1⟩
theorem slices_Index_LI_int_run (N : Nat) (x : argsT slices_Index_LI_int_ps) : slices_Index_LI_int N x.1 x.2.1 = funF (slices_Index_LI_int_G N) tab [slices_Index_LI_int_l0_s N] Try.f131 slices_Index_LI_int_ps slices_Index_LI_int_rs x := by kernel_rfl
theorem slices_Index_LI_int_pc (N : Nat) : PC Try.prog 131 (slices_Index_LI_int_S N) := by
  have e : slices_Index_LI_int_S N = ⟨slices_Index_LI_int_ps, slices_Index_LI_int_rs, funF (slices_Index_LI_int_G N) tab [slices_Index_LI_int_l0_s N] Try.f131 slices_Index_LI_int_ps slices_Index_LI_int_rs⟩ := congrArg (FSum.mk slices_Index_LI_int_ps slices_Index_LI_int_rs) (funext (slices_Index_LI_int_run N))
  rw [e]
  exact fun_ok (c := slices_Index_LI_int_code) progOk (slices_Index_LI_int_gok N) (draw_ok progOk (slices_Index_LI_int_gok N)) Try.call131 Try.func131 (by kernel_rfl) (lsOk_at (L := [slices_Index_LI_int_l0_s N]) ⟨slices_Index_LI_int_l0_ok N, trivial⟩) (by kernel_rfl) (by kernel_rfl) (by kernel_rfl) (by kernel_rfl) (by kernel_rfl)

/-! ### slices_Contains_LI_int -/
abbrev slices_Contains_LI_int_ps : List (PV.Mode × Ty) := [(.ro, LI), (.ro, I)]
abbrev slices_Contains_LI_int_rs : List (Bool × Ty) := [(true, .bool)]
noncomputable def slices_Contains_LI_int_G (N : Nat) : GTab := gOf [(131, slices_Index_LI_int_S N)]
theorem slices_Contains_LI_int_gok (N : Nat) : GOk Try.prog (slices_Contains_LI_int_G N) := gOf_ok ⟨slices_Index_LI_int_pc N, trivial⟩
noncomputable def slices_Contains_LI_int_code : Code := (Try.f100.body).getD .skip
noncomputable def slices_Contains_LI_int (N : Nat) (s : (List Int)) (v : Int) : Option ((Bool × Unit) × (Unit)) :=
  ((slices_Index_LI_int N s v).bind fun r =>
    some (((ile 0 r.1.1), ()), ()))
noncomputable def slices_Contains_LI_int_S (N : Nat) : FSum := ⟨slices_Contains_LI_int_ps, slices_Contains_LI_int_rs, fun x => slices_Contains_LI_int N x.1 x.2.1⟩
theorem slices_Contains_LI_int_run (N : Nat) (x : argsT slices_Contains_LI_int_ps) : slices_Contains_LI_int N x.1 x.2.1 = funF (slices_Contains_LI_int_G N) tab [] Try.f100 slices_Contains_LI_int_ps slices_Contains_LI_int_rs x := by kernel_rfl
theorem slices_Contains_LI_int_pc (N : Nat) : PC Try.prog 100 (slices_Contains_LI_int_S N) := by
  have e : slices_Contains_LI_int_S N = ⟨slices_Contains_LI_int_ps, slices_Contains_LI_int_rs, funF (slices_Contains_LI_int_G N) tab [] Try.f100 slices_Contains_LI_int_ps slices_Contains_LI_int_rs⟩ := congrArg (FSum.mk slices_Contains_LI_int_ps slices_Contains_LI_int_rs) (funext (slices_Contains_LI_int_run N))
  rw [e]
  exact fun_ok (c := slices_Contains_LI_int_code) progOk (slices_Contains_LI_int_gok N) (draw_ok progOk (slices_Contains_LI_int_gok N)) Try.call100 Try.func100 (by kernel_rfl) (lsOk_at (L := []) trivial) (by kernel_rfl) (by kernel_rfl) (by kernel_rfl) (by kernel_rfl) (by kernel_rfl)

/-! ### slices_Sort_LI_int -/
abbrev slices_Sort_LI_int_ps : List (PV.Mode × Ty) := [(.mut, LI)]
abbrev slices_Sort_LI_int_rs : List (Bool × Ty) := []
noncomputable def slices_Sort_LI_int (N : Nat) (x : List Int) : Option (Unit × (List Int × Unit)) := sortIF x
noncomputable def slices_Sort_LI_int_S (N : Nat) : FSum := ⟨slices_Sort_LI_int_ps, slices_Sort_LI_int_rs, fun x => slices_Sort_LI_int N x.1⟩
theorem slices_Sort_LI_int_pc (N : Nat) : PC Try.prog 101 (slices_Sort_LI_int_S N) := sortInts_pc (sortsI Try.sortIL) (sortsINone Try.sortIL) Try.call101

/-! ### impl_Graph_chain -/
abbrev impl_Graph_chain_ps : List (PV.Mode × Ty) := [(.ro, QILQII), (.ro, LI), (.ro, I), (.ro, I)]
abbrev impl_Graph_chain_rs : List (Bool × Ty) := [(true, LI)]
noncomputable def impl_Graph_chain_G (N : Nat) : GTab := gOf [(55, impl_Graph_neighbors_S N), (100, slices_Contains_LI_int_S N), (101, slices_Sort_LI_int_S N)]
theorem impl_Graph_chain_gok (N : Nat) : GOk Try.prog (impl_Graph_chain_G N) := gOf_ok ⟨impl_Graph_neighbors_pc N, slices_Contains_LI_int_pc N, slices_Sort_LI_int_pc N, trivial⟩
noncomputable def impl_Graph_chain_code : Code := (Try.f62.body).getD .skip
noncomputable def impl_Graph_chain_l0_0_sh : Sh := ⟨[(1, .one (.ro LI)), (3, .one (.ro I)), (4, .one (.adr 0 0)), (9, .one (.ro I)), (10, .one (.ref 1)), (11, .one (.ro I)), (31, .one (.ref 2)), (32, .one (.ro I)), (33, .one (.ro I))], [.box [.ro I, .ro LQII], .sl 3 I .own, .sl 3 I .own]⟩
noncomputable def impl_Graph_chain_l0_0_ex : List (Ex × Sh) := [(.exit 2, ⟨[(1, .one (.ro LI)), (3, .one (.ro I)), (4, .one (.adr 0 0)), (9, .one (.ro I)), (10, .one (.ref 1)), (11, .one (.ro I))], [.box [.ro I, .ro LQII], .sl 3 I .own]⟩)]
noncomputable def impl_Graph_chain_l0_0 {R : Type} (N : Nat) (k0 : (List Int) → Int → Int → Int → Int → (List (Int × Int)) → (List Int) → Option R) : Nat → (List Int) → Int → Int → Int → Int → Int → Int → (List (Int × Int)) → (List Int) → (List Int) → Option R
  | 0, _, _, _, _, _, _, _, _, _, _ => none
  | K + 1, x4, x5, x6, x7, x8, x9, o3, o4, o5, o6 =>
    (br (ilt x9 x8)
      ((chk (inb o6 x9)
        (chk (inb x4 (rdI o6 x9))
        (br (ieq (rdI x4 (rdI o6 x9)) x6)
        (((slices_Contains_LI_int N o5 (rdI o6 x9)).bind fun r1 =>
          (br (!r1.1.1)
            ((chk (room o5 [(rdI o6 x9)])
              (impl_Graph_chain_l0_0 N k0 K x4 x5 x6 x7 x8 (IntKind.i64.wrap (x9 + 1)) o3 o4 (tApp o5 [(rdI o6 x9)]) o6)))
            (impl_Graph_chain_l0_0 N k0 K x4 x5 x6 x7 x8 (IntKind.i64.wrap (x9 + 1)) o3 o4 o5 o6))))
        ((chk (inb x4 (rdI o6 x9))
          (br (ieq (rdI x4 (rdI o6 x9)) x5)
          (((slices_Contains_LI_int N o5 (rdI o6 x9)).bind fun r2 =>
            (br (!r2.1.1)
              ((chk (room o5 [(rdI o6 x9)])
                (impl_Graph_chain_l0_0 N k0 K x4 x5 x6 x7 x8 (IntKind.i64.wrap (x9 + 1)) o3 o4 (tApp o5 [(rdI o6 x9)]) o6)))
              (impl_Graph_chain_l0_0 N k0 K x4 x5 x6 x7 x8 (IntKind.i64.wrap (x9 + 1)) o3 o4 o5 o6))))
          (impl_Graph_chain_l0_0 N k0 K x4 x5 x6 x7 x8 (IntKind.i64.wrap (x9 + 1)) o3 o4 o5 o6))))))))
      (k0 x4 x5 x6 x7 o3 o4 o5))
noncomputable def impl_Graph_chain_l0_0_again {R : Type} (N : Nat) (ks : (j : Nat) → ((impl_Graph_chain_l0_0_ex.getD j (.ret, Sh.none)).2).T → Option R) (k : Nat) (x : impl_Graph_chain_l0_0_sh.T) : Option R :=
  impl_Graph_chain_l0_0 N (fun y0 y1 y2 y3 y4 y5 y6 => ks 0 ((y0, y1, (), y2, (), y3, ()), ((y4, y5, ()), y6, ()))) k x.1.1 x.1.2.1 x.1.2.2.2.1 x.1.2.2.2.2.2.1 x.1.2.2.2.2.2.2.2.1 x.1.2.2.2.2.2.2.2.2.1 x.2.1.1 x.2.1.2.1 x.2.2.1 x.2.2.2.1
noncomputable def impl_Graph_chain_l0_0_s (N : Nat) : LSum := ⟨impl_Graph_chain_l0_0_sh, impl_Graph_chain_l0_0_ex, fun x ks => impl_Graph_chain_l0_0_again N ks N x⟩
theorem impl_Graph_chain_l0_0_step (N : Nat) (R : Type) (k : Nat) (x : impl_Graph_chain_l0_0_sh.T) (ks : (j : Nat) → ((impl_Graph_chain_l0_0_ex.getD j (.ret, Sh.none)).2).T → Option R) : impl_Graph_chain_l0_0_again N ks (k + 1) x = roundF (impl_Graph_chain_G N) tab [] (loopAt (loopAt impl_Graph_chain_code 0) 0) impl_Graph_chain_l0_0_sh impl_Graph_chain_l0_0_ex (fun y => impl_Graph_chain_l0_0_again N ks k y) ks x := by kernel_rfl
theorem impl_Graph_chain_l0_0_ok (N : Nat) : LoopOk Try.prog Try.f62.ntmps (impl_Graph_chain_l0_0_s N) (loopAt (loopAt impl_Graph_chain_code 0) 0) :=
  loop_ok (l := impl_Graph_chain_l0_0_s N) progOk (impl_Graph_chain_gok N) (draw_ok progOk (impl_Graph_chain_gok N)) (fun R k x ks => impl_Graph_chain_l0_0_again N ks k x) (fun _ _ _ => rfl) (fun R k x ks => impl_Graph_chain_l0_0_step N R k x ks) (fun R x ks r h => ⟨N, h⟩) (lsOk_at (L := []) trivial) (by kernel_rfl) (by kernel_rfl)
noncomputable def impl_Graph_chain_l0_sh : Sh := ⟨[(1, .one (.ro LI)), (3, .one (.ro I)), (4, .one (.adr 0 0)), (9, .one (.ro I)), (10, .one (.ref 1)), (11, .one (.ro I))], [.box [.ro I, .ro LQII], .sl 3 I .own]⟩
noncomputable def impl_Graph_chain_l0_ex : List (Ex × Sh) := [(.exit 0, ⟨[(10, .one (.ref 0))], [.sl 3 I .own]⟩)]
noncomputable def impl_Graph_chain_l0 {R : Type} (N : Nat) (k0 : (List Int) → Option R) : Nat → (List Int) → Int → Int → Int → Int → (List (Int × Int)) → (List Int) → Option R
  | 0, _, _, _, _, _, _, _ => none
  | K + 1, x, x1, x2, x3, o, o1, o2 =>
    (br (ilt x3 (tLen o2))
      ((chk (inb o2 x3)
        ((impl_Graph_neighbors N (o, o1) (rdI o2 x3)).bind fun r =>
        impl_Graph_chain_l0_0 N (fun x4 x5 x6 x7 o3 o4 o5 => impl_Graph_chain_l0 N k0 K x4 x5 x6 (IntKind.i64.wrap (x7 + 1)) o3 o4 o5) N x x1 x2 x3 (tLen r.1.1) 0 o o1 o2 r.1.1)))
      (k0 o2))
noncomputable def impl_Graph_chain_l0_again {R : Type} (N : Nat) (ks : (j : Nat) → ((impl_Graph_chain_l0_ex.getD j (.ret, Sh.none)).2).T → Option R) (k : Nat) (x : impl_Graph_chain_l0_sh.T) : Option R :=
  impl_Graph_chain_l0 N (fun y0 => ks 0 (((), ()), (y0, ()))) k x.1.1 x.1.2.1 x.1.2.2.2.1 x.1.2.2.2.2.2.1 x.2.1.1 x.2.1.2.1 x.2.2.1
noncomputable def impl_Graph_chain_l0_s (N : Nat) : LSum := ⟨impl_Graph_chain_l0_sh, impl_Graph_chain_l0_ex, fun x ks => impl_Graph_chain_l0_again N ks N x⟩
theorem impl_Graph_chain_l0_step (N : Nat) (R : Type) (k : Nat) (x : impl_Graph_chain_l0_sh.T) (ks : (j : Nat) → ((impl_Graph_chain_l0_ex.getD j (.ret, Sh.none)).2).T → Option R) : impl_Graph_chain_l0_again N ks (k + 1) x = roundF (impl_Graph_chain_G N) tab [impl_Graph_chain_l0_0_s N] (loopAt impl_Graph_chain_code 0) impl_Graph_chain_l0_sh impl_Graph_chain_l0_ex (fun y => impl_Graph_chain_l0_again N ks k y) ks x := by kernel_rfl
theorem impl_Graph_chain_l0_ok (N : Nat) : LoopOk Try.prog Try.f62.ntmps (impl_Graph_chain_l0_s N) (loopAt impl_Graph_chain_code 0) :=
  loop_ok (l := impl_Graph_chain_l0_s N) progOk (impl_Graph_chain_gok N) (draw_ok progOk (impl_Graph_chain_gok N)) (fun R k x ks => impl_Graph_chain_l0_again N ks k x) (fun _ _ _ => rfl) (fun R k x ks => impl_Graph_chain_l0_step N R k x ks) (fun R x ks r h => ⟨N, h⟩) (lsOk_at (L := [impl_Graph_chain_l0_0_s N]) ⟨impl_Graph_chain_l0_0_ok N, trivial⟩) (by kernel_rfl) (by kernel_rfl)
noncomputable def impl_Graph_chain (N : Nat) (c : (Int × (List (Int × Int)))) (c1 : (List Int)) (c2 : Int) (c3 : Int) : Option (((List Int) × Unit) × (Unit)) :=
  (chk (inb c1 c2)
    (impl_Graph_chain_l0 N (fun o => ((slices_Sort_LI_int N o).bind fun r =>
    some ((r.2.1, ()), ()))) N c1 c3 (rdI c1 c2) 0 c.1 c.2 [c2]))
noncomputable def impl_Graph_chain_S (N : Nat) : FSum := ⟨impl_Graph_chain_ps, impl_Graph_chain_rs, fun x => impl_Graph_chain N x.1 x.2.1 x.2.2.1 x.2.2.2.1⟩
theorem impl_Graph_chain_run (N : Nat) (x : argsT impl_Graph_chain_ps) : impl_Graph_chain N x.1 x.2.1 x.2.2.1 x.2.2.2.1 = funF (impl_Graph_chain_G N) tab [impl_Graph_chain_l0_s N] Try.f62 impl_Graph_chain_ps impl_Graph_chain_rs x := by kernel_rfl
theorem impl_Graph_chain_pc (N : Nat) : PC Try.prog 62 (impl_Graph_chain_S N) := by
  have e : impl_Graph_chain_S N = ⟨impl_Graph_chain_ps, impl_Graph_chain_rs, funF (impl_Graph_chain_G N) tab [impl_Graph_chain_l0_s N] Try.f62 impl_Graph_chain_ps impl_Graph_chain_rs⟩ := congrArg (FSum.mk impl_Graph_chain_ps impl_Graph_chain_rs) (funext (impl_Graph_chain_run N))
  rw [e]
  exact fun_ok (c := impl_Graph_chain_code) progOk (impl_Graph_chain_gok N) (draw_ok progOk (impl_Graph_chain_gok N)) Try.call62 Try.func62 (by kernel_rfl) (lsOk_at (L := [impl_Graph_chain_l0_s N]) ⟨impl_Graph_chain_l0_ok N, trivial⟩) (by kernel_rfl) (by kernel_rfl) (by kernel_rfl) (by kernel_rfl) (by kernel_rfl)

/-! ### impl_Graph_kempe -/
abbrev impl_Graph_kempe_ps : List (PV.Mode × Ty) := [(.ro, QILQII), (.ro, LI), (.ro, I), (.ro, I)]
abbrev impl_Graph_kempe_rs : List (Bool × Ty) := [(true, LI)]
noncomputable def impl_Graph_kempe_G (N : Nat) : GTab := gOf [(98, slices_Clone_LI_int_S N), (62, impl_Graph_chain_S N)]
theorem impl_Graph_kempe_gok (N : Nat) : GOk Try.prog (impl_Graph_kempe_G N) := gOf_ok ⟨slices_Clone_LI_int_pc N, impl_Graph_chain_pc N, trivial⟩
noncomputable def impl_Graph_kempe_code : Code := (Try.f59.body).getD .skip
noncomputable def impl_Graph_kempe_l0_sh : Sh := ⟨[(1, .one (.ro LI)), (3, .one (.ro I)), (9, .one (.ref 0)), (10, .one (.ro I)), (23, .one (.ref 1)), (24, .one (.ro I)), (25, .one (.ro I))], [.sl 3 I .own, .sl 3 I .own]⟩
noncomputable def impl_Graph_kempe_l0_ex : List (Ex × Sh) := [(.exit 0, ⟨[(9, .one (.ref 0))], [.sl 3 I .own]⟩)]
noncomputable def impl_Graph_kempe_l0 {R : Type} (N : Nat) (k0 : (List Int) → Option R) : Nat → (List Int) → Int → Int → Int → Int → (List Int) → (List Int) → Option R
  | 0, _, _, _, _, _, _, _ => none
  | K + 1, colours1, c1, own, x1, x2, o, o1 =>
    (br (ilt x2 x1)
      ((chk (inb o1 x2)
        (chk (inb colours1 (rdI o1 x2))
        (br (ieq (rdI colours1 (rdI o1 x2)) own)
        ((chk (inb o (rdI o1 x2))
          (impl_Graph_kempe_l0 N k0 K colours1 c1 own x1 (IntKind.i64.wrap (x2 + 1)) (tSet o (rdI o1 x2) c1) o1)))
        ((chk (inb o (rdI o1 x2))
          (impl_Graph_kempe_l0 N k0 K colours1 c1 own x1 (IntKind.i64.wrap (x2 + 1)) (tSet o (rdI o1 x2) own) o1)))))))
      (k0 o))
noncomputable def impl_Graph_kempe_l0_again {R : Type} (N : Nat) (ks : (j : Nat) → ((impl_Graph_kempe_l0_ex.getD j (.ret, Sh.none)).2).T → Option R) (k : Nat) (x : impl_Graph_kempe_l0_sh.T) : Option R :=
  impl_Graph_kempe_l0 N (fun y0 => ks 0 (((), ()), (y0, ()))) k x.1.1 x.1.2.1 x.1.2.2.2.1 x.1.2.2.2.2.2.1 x.1.2.2.2.2.2.2.1 x.2.1 x.2.2.1
noncomputable def impl_Graph_kempe_l0_s (N : Nat) : LSum := ⟨impl_Graph_kempe_l0_sh, impl_Graph_kempe_l0_ex, fun x ks => impl_Graph_kempe_l0_again N ks N x⟩
theorem impl_Graph_kempe_l0_step (N : Nat) (R : Type) (k : Nat) (x : impl_Graph_kempe_l0_sh.T) (ks : (j : Nat) → ((impl_Graph_kempe_l0_ex.getD j (.ret, Sh.none)).2).T → Option R) : impl_Graph_kempe_l0_again N ks (k + 1) x = roundF (impl_Graph_kempe_G N) tab [] (loopAt impl_Graph_kempe_code 0) impl_Graph_kempe_l0_sh impl_Graph_kempe_l0_ex (fun y => impl_Graph_kempe_l0_again N ks k y) ks x := by kernel_rfl
theorem impl_Graph_kempe_l0_ok (N : Nat) : LoopOk Try.prog Try.f59.ntmps (impl_Graph_kempe_l0_s N) (loopAt impl_Graph_kempe_code 0) :=
  loop_ok (l := impl_Graph_kempe_l0_s N) progOk (impl_Graph_kempe_gok N) (draw_ok progOk (impl_Graph_kempe_gok N)) (fun R k x ks => impl_Graph_kempe_l0_again N ks k x) (fun _ _ _ => rfl) (fun R k x ks => impl_Graph_kempe_l0_step N R k x ks) (fun R x ks r h => ⟨N, h⟩) (lsOk_at (L := []) trivial) (by kernel_rfl) (by kernel_rfl)
noncomputable def impl_Graph_kempe (N : Nat) (g : (Int × (List (Int × Int)))) (colours : (List Int)) (x : Int) (c : Int) : Option (((List Int) × Unit) × (Unit)) :=
  ((slices_Clone_LI_int N colours).bind fun r =>
    (chk (inb colours x)
      ((impl_Graph_chain N (g.1, g.2) colours x c).bind fun r1 =>
      impl_Graph_kempe_l0 N (fun o => some ((o, ()), ())) N colours c (rdI colours x) (tLen r1.1.1) 0 r.1.1 r1.1.1)))
noncomputable def impl_Graph_kempe_S (N : Nat) : FSum := ⟨impl_Graph_kempe_ps, impl_Graph_kempe_rs, fun x => impl_Graph_kempe N x.1 x.2.1 x.2.2.1 x.2.2.2.1⟩
theorem impl_Graph_kempe_run (N : Nat) (x : argsT impl_Graph_kempe_ps) : impl_Graph_kempe N x.1 x.2.1 x.2.2.1 x.2.2.2.1 = funF (impl_Graph_kempe_G N) tab [impl_Graph_kempe_l0_s N] Try.f59 impl_Graph_kempe_ps impl_Graph_kempe_rs x := by kernel_rfl
theorem impl_Graph_kempe_pc (N : Nat) : PC Try.prog 59 (impl_Graph_kempe_S N) := by
  have e : impl_Graph_kempe_S N = ⟨impl_Graph_kempe_ps, impl_Graph_kempe_rs, funF (impl_Graph_kempe_G N) tab [impl_Graph_kempe_l0_s N] Try.f59 impl_Graph_kempe_ps impl_Graph_kempe_rs⟩ := congrArg (FSum.mk impl_Graph_kempe_ps impl_Graph_kempe_rs) (funext (impl_Graph_kempe_run N))
  rw [e]
  exact fun_ok (c := impl_Graph_kempe_code) progOk (impl_Graph_kempe_gok N) (draw_ok progOk (impl_Graph_kempe_gok N)) Try.call59 Try.func59 (by kernel_rfl) (lsOk_at (L := [impl_Graph_kempe_l0_s N]) ⟨impl_Graph_kempe_l0_ok N, trivial⟩) (by kernel_rfl) (by kernel_rfl) (by kernel_rfl) (by kernel_rfl) (by kernel_rfl)

/-! ### impl_KempeChange -/
abbrev impl_KempeChange_ps : List (PV.Mode × Ty) := [(.ro, QILQII), (.ro, I), (.ro, LI), (.ro, I), (.ro, I)]
abbrev impl_KempeChange_rs : List (Bool × Ty) := [(true, LI), (true, .bool)]
noncomputable def impl_KempeChange_G (N : Nat) : GTab := gOf [(58, impl_isSpot_S N), (59, impl_Graph_kempe_S N)]
theorem impl_KempeChange_gok (N : Nat) : GOk Try.prog (impl_KempeChange_G N) := gOf_ok ⟨impl_isSpot_pc N, impl_Graph_kempe_pc N, trivial⟩
noncomputable def impl_KempeChange_code : Code := (Try.f26.body).getD .skip
noncomputable def impl_KempeChange (N : Nat) (g : (Int × (List (Int × Int)))) (kv : Int) (colours : (List Int)) (x : Int) (c : Int) : Option (((List Int) × Bool × Unit) × (Unit)) :=
  ((impl_isSpot N (g.1, g.2) kv colours x c).bind fun r =>
    (br (!r.1.1)
      (some (([], false, ()), ()))
      ((chk (inb colours x)
        (br (ieq (rdI colours x) c)
        (some (([], false, ()), ()))
        (((impl_Graph_kempe N (g.1, g.2) colours x c).bind fun r1 =>
          some ((r1.1.1, true, ()), ()))))))))
noncomputable def impl_KempeChange_S (N : Nat) : FSum := ⟨impl_KempeChange_ps, impl_KempeChange_rs, fun x => impl_KempeChange N x.1 x.2.1 x.2.2.1 x.2.2.2.1 x.2.2.2.2.1⟩
theorem impl_KempeChange_run (N : Nat) (x : argsT impl_KempeChange_ps) : impl_KempeChange N x.1 x.2.1 x.2.2.1 x.2.2.2.1 x.2.2.2.2.1 = funF (impl_KempeChange_G N) tab [] Try.f26 impl_KempeChange_ps impl_KempeChange_rs x := by kernel_rfl
theorem impl_KempeChange_pc (N : Nat) : PC Try.prog 26 (impl_KempeChange_S N) := by
  have e : impl_KempeChange_S N = ⟨impl_KempeChange_ps, impl_KempeChange_rs, funF (impl_KempeChange_G N) tab [] Try.f26 impl_KempeChange_ps impl_KempeChange_rs⟩ := congrArg (FSum.mk impl_KempeChange_ps impl_KempeChange_rs) (funext (impl_KempeChange_run N))
  rw [e]
  exact fun_ok (c := impl_KempeChange_code) progOk (impl_KempeChange_gok N) (draw_ok progOk (impl_KempeChange_gok N)) Try.call26 Try.func26 (by kernel_rfl) (lsOk_at (L := []) trivial) (by kernel_rfl) (by kernel_rfl) (by kernel_rfl) (by kernel_rfl) (by kernel_rfl)

/-! ### spec_l5Proper -/
abbrev spec_l5Proper_ps : List (PV.Mode × Ty) := [(.ro, QILQII), (.ro, I), (.ro, LI)]
abbrev spec_l5Proper_rs : List (Bool × Ty) := [(true, .bool)]
noncomputable def spec_l5Proper_G (N : Nat) : GTab := gOf [(92, spec_l1In_S N)]
theorem spec_l5Proper_gok (N : Nat) : GOk Try.prog (spec_l5Proper_G N) := gOf_ok ⟨spec_l1In_pc N, trivial⟩
noncomputable def spec_l5Proper_code : Code := (Try.f72.body).getD .skip
noncomputable def spec_l5Proper_l0_sh : Sh := ⟨[(1, .one (.ro I)), (2, .one (.ro LI)), (3, .one (.adr 0 0)), (7, .one (.ro I))], [.box [.ro I, .ro LQII]]⟩
noncomputable def spec_l5Proper_l0_ex : List (Ex × Sh) := [(.ret, ⟨[(6, .one (.ro .bool))], []⟩), (.exit 0, ⟨[(2, .one (.ro LI)), (3, .one (.adr 0 0))], [.box [.ro I, .ro LQII]]⟩)]
noncomputable def spec_l5Proper_l0 {R : Type} (N : Nat) (k0 : Bool → Option R) (k1 : (List Int) → Int → (List (Int × Int)) → Option R) : Nat → Int → (List Int) → Int → Int → (List (Int × Int)) → Option R
  | 0, _, _, _, _, _ => none
  | K + 1, kv1, colours1, x, o, o1 =>
    (br (ilt x o)
      ((chk (inb colours1 x)
        ((spec_l1In N (rdI colours1 x) 0 (IntKind.i64.wrap (kv1 - 1))).bind fun r =>
        (br (!r.1.1)
          (k0 false)
          (spec_l5Proper_l0 N k0 k1 K kv1 colours1 (IntKind.i64.wrap (x + 1)) o o1)))))
      (k1 colours1 o o1))
noncomputable def spec_l5Proper_l0_again {R : Type} (N : Nat) (ks : (j : Nat) → ((spec_l5Proper_l0_ex.getD j (.ret, Sh.none)).2).T → Option R) (k : Nat) (x : spec_l5Proper_l0_sh.T) : Option R :=
  spec_l5Proper_l0 N (fun y0 => ks 0 ((y0, ()), ())) (fun y0 y1 y2 => ks 1 ((y0, (), ()), ((y1, y2, ()), ()))) k x.1.1 x.1.2.1 x.1.2.2.2.1 x.2.1.1 x.2.1.2.1
noncomputable def spec_l5Proper_l0_s (N : Nat) : LSum := ⟨spec_l5Proper_l0_sh, spec_l5Proper_l0_ex, fun x ks => spec_l5Proper_l0_again N ks N x⟩
theorem spec_l5Proper_l0_step (N : Nat) (R : Type) (k : Nat) (x : spec_l5Proper_l0_sh.T) (ks : (j : Nat) → ((spec_l5Proper_l0_ex.getD j (.ret, Sh.none)).2).T → Option R) : spec_l5Proper_l0_again N ks (k + 1) x = roundF (spec_l5Proper_G N) tab [] (loopAt spec_l5Proper_code 0) spec_l5Proper_l0_sh spec_l5Proper_l0_ex (fun y => spec_l5Proper_l0_again N ks k y) ks x := by kernel_rfl
theorem spec_l5Proper_l0_ok (N : Nat) : LoopOk Try.prog Try.f72.ntmps (spec_l5Proper_l0_s N) (loopAt spec_l5Proper_code 0) :=
  loop_ok (l := spec_l5Proper_l0_s N) progOk (spec_l5Proper_gok N) (draw_ok progOk (spec_l5Proper_gok N)) (fun R k x ks => spec_l5Proper_l0_again N ks k x) (fun _ _ _ => rfl) (fun R k x ks => spec_l5Proper_l0_step N R k x ks) (fun R x ks r h => ⟨N, h⟩) (lsOk_at (L := []) trivial) (by kernel_rfl) (by kernel_rfl)
noncomputable def spec_l5Proper_l1_sh : Sh := ⟨[(2, .one (.ro LI)), (3, .one (.adr 0 0)), (8, .one (.ro I))], [.box [.ro I, .ro LQII]]⟩
noncomputable def spec_l5Proper_l1_ex : List (Ex × Sh) := [(.ret, ⟨[(6, .one (.ro .bool))], []⟩), (.exit 2, ⟨[], []⟩)]
noncomputable def spec_l5Proper_l1 {R : Type} (N : Nat) (k0 : Bool → Option R) (k1 : Unit → Option R) : Nat → (List Int) → Int → Int → (List (Int × Int)) → Option R
  | 0, _, _, _, _ => none
  | K + 1, colours2, i, o2, o3 =>
    (br (ilt i (tLen o3))
      ((chk (inb o3 i)
        (chk (inb colours2 ((rdP o3 i).1))
        (chk (inb o3 i)
        (chk (inb colours2 ((rdP o3 i).2))
        (br (ieq (rdI colours2 ((rdP o3 i).1)) (rdI colours2 ((rdP o3 i).2)))
        (k0 false)
        (spec_l5Proper_l1 N k0 k1 K colours2 (IntKind.i64.wrap (i + 1)) o2 o3)))))))
      (k1 ()))
noncomputable def spec_l5Proper_l1_again {R : Type} (N : Nat) (ks : (j : Nat) → ((spec_l5Proper_l1_ex.getD j (.ret, Sh.none)).2).T → Option R) (k : Nat) (x : spec_l5Proper_l1_sh.T) : Option R :=
  spec_l5Proper_l1 N (fun y0 => ks 0 ((y0, ()), ())) (fun (_ : Unit) => ks 1 ((), ())) k x.1.1 x.1.2.2.1 x.2.1.1 x.2.1.2.1
noncomputable def spec_l5Proper_l1_s (N : Nat) : LSum := ⟨spec_l5Proper_l1_sh, spec_l5Proper_l1_ex, fun x ks => spec_l5Proper_l1_again N ks N x⟩
theorem spec_l5Proper_l1_step (N : Nat) (R : Type) (k : Nat) (x : spec_l5Proper_l1_sh.T) (ks : (j : Nat) → ((spec_l5Proper_l1_ex.getD j (.ret, Sh.none)).2).T → Option R) : spec_l5Proper_l1_again N ks (k + 1) x = roundF (spec_l5Proper_G N) tab [] (loopAt spec_l5Proper_code 1) spec_l5Proper_l1_sh spec_l5Proper_l1_ex (fun y => spec_l5Proper_l1_again N ks k y) ks x := by kernel_rfl
theorem spec_l5Proper_l1_ok (N : Nat) : LoopOk Try.prog Try.f72.ntmps (spec_l5Proper_l1_s N) (loopAt spec_l5Proper_code 1) :=
  loop_ok (l := spec_l5Proper_l1_s N) progOk (spec_l5Proper_gok N) (draw_ok progOk (spec_l5Proper_gok N)) (fun R k x ks => spec_l5Proper_l1_again N ks k x) (fun _ _ _ => rfl) (fun R k x ks => spec_l5Proper_l1_step N R k x ks) (fun R x ks r h => ⟨N, h⟩) (lsOk_at (L := []) trivial) (by kernel_rfl) (by kernel_rfl)
noncomputable def spec_l5Proper (N : Nat) (g : (Int × (List (Int × Int)))) (kv : Int) (colours : (List Int)) : Option ((Bool × Unit) × (Unit)) :=
  (br (ine (tLen colours) g.1)
    (some ((false, ()), ()))
    (spec_l5Proper_l0 N (fun x => some ((x, ()), ())) (fun colours1 o o1 => spec_l5Proper_l1 N (fun x1 => some ((x1, ()), ())) (fun (_ : Unit) => some ((true, ()), ())) N colours1 0 o o1) N kv colours 0 g.1 g.2))
noncomputable def spec_l5Proper_S (N : Nat) : FSum := ⟨spec_l5Proper_ps, spec_l5Proper_rs, fun x => spec_l5Proper N x.1 x.2.1 x.2.2.1⟩
theorem spec_l5Proper_run (N : Nat) (x : argsT spec_l5Proper_ps) : spec_l5Proper N x.1 x.2.1 x.2.2.1 = funF (spec_l5Proper_G N) tab [spec_l5Proper_l0_s N, spec_l5Proper_l1_s N] Try.f72 spec_l5Proper_ps spec_l5Proper_rs x := by kernel_rfl
theorem spec_l5Proper_pc (N : Nat) : PC Try.prog 72 (spec_l5Proper_S N) := by
  have e : spec_l5Proper_S N = ⟨spec_l5Proper_ps, spec_l5Proper_rs, funF (spec_l5Proper_G N) tab [spec_l5Proper_l0_s N, spec_l5Proper_l1_s N] Try.f72 spec_l5Proper_ps spec_l5Proper_rs⟩ := congrArg (FSum.mk spec_l5Proper_ps spec_l5Proper_rs) (funext (spec_l5Proper_run N))
  rw [e]
  exact fun_ok (c := spec_l5Proper_code) progOk (spec_l5Proper_gok N) (draw_ok progOk (spec_l5Proper_gok N)) Try.call72 Try.func72 (by kernel_rfl) (lsOk_at (L := [spec_l5Proper_l0_s N, spec_l5Proper_l1_s N]) ⟨spec_l5Proper_l0_ok N, spec_l5Proper_l1_ok N, trivial⟩) (by kernel_rfl) (by kernel_rfl) (by kernel_rfl) (by kernel_rfl) (by kernel_rfl)

/-! ### spec_l5Given -/
abbrev spec_l5Given_ps : List (PV.Mode × Ty) := [(.ro, QILQII), (.ro, I), (.ro, LI)]
abbrev spec_l5Given_rs : List (Bool × Ty) := [(true, .bool)]
noncomputable def spec_l5Given_G (N : Nat) : GTab := gOf [(71, spec_l5Ask_S N), (72, spec_l5Proper_S N)]
theorem spec_l5Given_gok (N : Nat) : GOk Try.prog (spec_l5Given_G N) := gOf_ok ⟨spec_l5Ask_pc N, spec_l5Proper_pc N, trivial⟩
noncomputable def spec_l5Given_code : Code := (Try.f46.body).getD .skip
noncomputable def spec_l5Given (N : Nat) (g : (Int × (List (Int × Int)))) (kv : Int) (colours : (List Int)) : Option ((Bool × Unit) × (Unit)) :=
  ((spec_l5Ask N (g.1, g.2) kv).bind fun r =>
    (br r.1.1
      (((spec_l5Proper N (g.1, g.2) kv colours).bind fun r1 =>
        some ((r1.1.1, ()), ())))
      (some ((false, ()), ()))))
noncomputable def spec_l5Given_S (N : Nat) : FSum := ⟨spec_l5Given_ps, spec_l5Given_rs, fun x => spec_l5Given N x.1 x.2.1 x.2.2.1⟩
theorem spec_l5Given_run (N : Nat) (x : argsT spec_l5Given_ps) : spec_l5Given N x.1 x.2.1 x.2.2.1 = funF (spec_l5Given_G N) tab [] Try.f46 spec_l5Given_ps spec_l5Given_rs x := by kernel_rfl
theorem spec_l5Given_pc (N : Nat) : PC Try.prog 46 (spec_l5Given_S N) := by
  have e : spec_l5Given_S N = ⟨spec_l5Given_ps, spec_l5Given_rs, funF (spec_l5Given_G N) tab [] Try.f46 spec_l5Given_ps spec_l5Given_rs⟩ := congrArg (FSum.mk spec_l5Given_ps spec_l5Given_rs) (funext (spec_l5Given_run N))
  rw [e]
  exact fun_ok (c := spec_l5Given_code) progOk (spec_l5Given_gok N) (draw_ok progOk (spec_l5Given_gok N)) Try.call46 Try.func46 (by kernel_rfl) (lsOk_at (L := []) trivial) (by kernel_rfl) (by kernel_rfl) (by kernel_rfl) (by kernel_rfl) (by kernel_rfl)

/-! ### spec_l5Spot -/
abbrev spec_l5Spot_ps : List (PV.Mode × Ty) := [(.ro, QILQII), (.ro, I), (.ro, LI), (.ro, I), (.ro, I)]
abbrev spec_l5Spot_rs : List (Bool × Ty) := [(true, .bool)]
noncomputable def spec_l5Spot_G (N : Nat) : GTab := gOf [(46, spec_l5Given_S N), (92, spec_l1In_S N)]
theorem spec_l5Spot_gok (N : Nat) : GOk Try.prog (spec_l5Spot_G N) := gOf_ok ⟨spec_l5Given_pc N, spec_l1In_pc N, trivial⟩
noncomputable def spec_l5Spot_code : Code := (Try.f60.body).getD .skip
noncomputable def spec_l5Spot (N : Nat) (g : (Int × (List (Int × Int)))) (kv : Int) (colours : (List Int)) (x : Int) (c : Int) : Option ((Bool × Unit) × (Unit)) :=
  ((spec_l5Given N (g.1, g.2) kv colours).bind fun r =>
    (br r.1.1
      (((spec_l1In N x 0 (IntKind.i64.wrap (g.1 - 1))).bind fun r1 =>
        (br r1.1.1
          (((spec_l1In N c 0 (IntKind.i64.wrap (kv - 1))).bind fun r2 =>
            some ((r2.1.1, ()), ())))
          (some ((false, ()), ())))))
      (some ((false, ()), ()))))
noncomputable def spec_l5Spot_S (N : Nat) : FSum := ⟨spec_l5Spot_ps, spec_l5Spot_rs, fun x => spec_l5Spot N x.1 x.2.1 x.2.2.1 x.2.2.2.1 x.2.2.2.2.1⟩
theorem spec_l5Spot_run (N : Nat) (x : argsT spec_l5Spot_ps) : spec_l5Spot N x.1 x.2.1 x.2.2.1 x.2.2.2.1 x.2.2.2.2.1 = funF (spec_l5Spot_G N) tab [] Try.f60 spec_l5Spot_ps spec_l5Spot_rs x := by kernel_rfl
theorem spec_l5Spot_pc (N : Nat) : PC Try.prog 60 (spec_l5Spot_S N) := by
  have e : spec_l5Spot_S N = ⟨spec_l5Spot_ps, spec_l5Spot_rs, funF (spec_l5Spot_G N) tab [] Try.f60 spec_l5Spot_ps spec_l5Spot_rs⟩ := congrArg (FSum.mk spec_l5Spot_ps spec_l5Spot_rs) (funext (spec_l5Spot_run N))
  rw [e]
  exact fun_ok (c := spec_l5Spot_code) progOk (spec_l5Spot_gok N) (draw_ok progOk (spec_l5Spot_gok N)) Try.call60 Try.func60 (by kernel_rfl) (lsOk_at (L := []) trivial) (by kernel_rfl) (by kernel_rfl) (by kernel_rfl) (by kernel_rfl) (by kernel_rfl)

/-! ### spec_l1Has -/
abbrev spec_l1Has_ps : List (PV.Mode × Ty) := [(.ro, LI), (.ro, I)]
abbrev spec_l1Has_rs : List (Bool × Ty) := [(true, .bool)]
noncomputable def spec_l1Has_G (N : Nat) : GTab := gOf []
theorem spec_l1Has_gok (N : Nat) : GOk Try.prog (spec_l1Has_G N) := gOf_ok trivial
noncomputable def spec_l1Has_code : Code := (Try.f47.body).getD .skip
noncomputable def spec_l1Has_l0_sh : Sh := ⟨[(0, .one (.ro LI)), (1, .one (.ro I)), (5, .one (.ro I))], []⟩
noncomputable def spec_l1Has_l0_ex : List (Ex × Sh) := [(.ret, ⟨[(4, .one (.ro .bool))], []⟩), (.exit 0, ⟨[], []⟩)]
noncomputable def spec_l1Has_l0 {R : Type} (N : Nat) (k0 : Bool → Option R) (k1 : Unit → Option R) : Nat → (List Int) → Int → Int → Option R
  | 0, _, _, _ => none
  | K + 1, l1, n1, i =>
    (br (ilt i (tLen l1))
      ((chk (inb l1 i)
        (br (ieq (rdI l1 i) n1)
        (k0 true)
        (spec_l1Has_l0 N k0 k1 K l1 n1 (IntKind.i64.wrap (i + 1))))))
      (k1 ()))
noncomputable def spec_l1Has_l0_again {R : Type} (N : Nat) (ks : (j : Nat) → ((spec_l1Has_l0_ex.getD j (.ret, Sh.none)).2).T → Option R) (k : Nat) (x : spec_l1Has_l0_sh.T) : Option R :=
  spec_l1Has_l0 N (fun y0 => ks 0 ((y0, ()), ())) (fun (_ : Unit) => ks 1 ((), ())) k x.1.1 x.1.2.1 x.1.2.2.1
noncomputable def spec_l1Has_l0_s (N : Nat) : LSum := ⟨spec_l1Has_l0_sh, spec_l1Has_l0_ex, fun x ks => spec_l1Has_l0_again N ks N x⟩
theorem spec_l1Has_l0_step (N : Nat) (R : Type) (k : Nat) (x : spec_l1Has_l0_sh.T) (ks : (j : Nat) → ((spec_l1Has_l0_ex.getD j (.ret, Sh.none)).2).T → Option R) : spec_l1Has_l0_again N ks (k + 1) x = roundF (spec_l1Has_G N) tab [] (loopAt spec_l1Has_code 0) spec_l1Has_l0_sh spec_l1Has_l0_ex (fun y => spec_l1Has_l0_again N ks k y) ks x := by kernel_rfl
theorem spec_l1Has_l0_ok (N : Nat) : LoopOk Try.prog Try.f47.ntmps (spec_l1Has_l0_s N) (loopAt spec_l1Has_code 0) :=
  loop_ok (l := spec_l1Has_l0_s N) progOk (spec_l1Has_gok N) (draw_ok progOk (spec_l1Has_gok N)) (fun R k x ks => spec_l1Has_l0_again N ks k x) (fun _ _ _ => rfl) (fun R k x ks => spec_l1Has_l0_step N R k x ks) (fun R x ks r h => ⟨N, h⟩) (lsOk_at (L := []) trivial) (by kernel_rfl) (by kernel_rfl)
noncomputable def spec_l1Has (N : Nat) (l : (List Int)) (n : Int) : Option ((Bool × Unit) × (Unit)) :=
  spec_l1Has_l0 N (fun x => some ((x, ()), ())) (fun (_ : Unit) => some ((false, ()), ())) N l n 0
noncomputable def spec_l1Has_S (N : Nat) : FSum := ⟨spec_l1Has_ps, spec_l1Has_rs, fun x => spec_l1Has N x.1 x.2.1⟩
theorem spec_l1Has_run (N : Nat) (x : argsT spec_l1Has_ps) : spec_l1Has N x.1 x.2.1 = funF (spec_l1Has_G N) tab [spec_l1Has_l0_s N] Try.f47 spec_l1Has_ps spec_l1Has_rs x := by kernel_rfl
theorem spec_l1Has_pc (N : Nat) : PC Try.prog 47 (spec_l1Has_S N) := by
  have e : spec_l1Has_S N = ⟨spec_l1Has_ps, spec_l1Has_rs, funF (spec_l1Has_G N) tab [spec_l1Has_l0_s N] Try.f47 spec_l1Has_ps spec_l1Has_rs⟩ := congrArg (FSum.mk spec_l1Has_ps spec_l1Has_rs) (funext (spec_l1Has_run N))
  rw [e]
  exact fun_ok (c := spec_l1Has_code) progOk (spec_l1Has_gok N) (draw_ok progOk (spec_l1Has_gok N)) Try.call47 Try.func47 (by kernel_rfl) (lsOk_at (L := [spec_l1Has_l0_s N]) ⟨spec_l1Has_l0_ok N, trivial⟩) (by kernel_rfl) (by kernel_rfl) (by kernel_rfl) (by kernel_rfl) (by kernel_rfl)

/-! ### spec_l1Put -/
abbrev spec_l1Put_ps : List (PV.Mode × Ty) := [(.own, LI), (.ro, I)]
abbrev spec_l1Put_rs : List (Bool × Ty) := [(true, LI)]
noncomputable def spec_l1Put_G (N : Nat) : GTab := gOf []
theorem spec_l1Put_gok (N : Nat) : GOk Try.prog (spec_l1Put_G N) := gOf_ok trivial
noncomputable def spec_l1Put_code : Code := (Try.f115.body).getD .skip
noncomputable def spec_l1Put_l0_sh : Sh := ⟨[(0, .one (.ref 0)), (1, .one (.ro I)), (5, .one (.ro I))], [.sl 3 I .own]⟩
noncomputable def spec_l1Put_l0_ex : List (Ex × Sh) := [(.exit 0, ⟨[(0, .one (.ref 0)), (1, .one (.ro I)), (5, .one (.ro I))], [.sl 3 I .own]⟩)]
noncomputable def spec_l1Put_l0 {R : Type} (N : Nat) (k0 : Int → Int → (List Int) → Option R) : Nat → Int → Int → (List Int) → Option R
  | 0, _, _, _ => none
  | K + 1, n1, kv, o =>
    (br (ilt kv (tLen o))
      ((chk (inb o kv)
        (br (ilt (rdI o kv) n1)
        (spec_l1Put_l0 N k0 K n1 (IntKind.i64.wrap (kv + 1)) o)
        (k0 n1 kv o))))
      (k0 n1 kv o))
noncomputable def spec_l1Put_l0_again {R : Type} (N : Nat) (ks : (j : Nat) → ((spec_l1Put_l0_ex.getD j (.ret, Sh.none)).2).T → Option R) (k : Nat) (x : spec_l1Put_l0_sh.T) : Option R :=
  spec_l1Put_l0 N (fun y0 y1 y2 => ks 0 (((), y0, y1, ()), (y2, ()))) k x.1.2.1 x.1.2.2.1 x.2.1
noncomputable def spec_l1Put_l0_s (N : Nat) : LSum := ⟨spec_l1Put_l0_sh, spec_l1Put_l0_ex, fun x ks => spec_l1Put_l0_again N ks N x⟩
theorem spec_l1Put_l0_step (N : Nat) (R : Type) (k : Nat) (x : spec_l1Put_l0_sh.T) (ks : (j : Nat) → ((spec_l1Put_l0_ex.getD j (.ret, Sh.none)).2).T → Option R) : spec_l1Put_l0_again N ks (k + 1) x = roundF (spec_l1Put_G N) tab [] (loopAt spec_l1Put_code 0) spec_l1Put_l0_sh spec_l1Put_l0_ex (fun y => spec_l1Put_l0_again N ks k y) ks x := by kernel_rfl
theorem spec_l1Put_l0_ok (N : Nat) : LoopOk Try.prog Try.f115.ntmps (spec_l1Put_l0_s N) (loopAt spec_l1Put_code 0) :=
  loop_ok (l := spec_l1Put_l0_s N) progOk (spec_l1Put_gok N) (draw_ok progOk (spec_l1Put_gok N)) (fun R k x ks => spec_l1Put_l0_again N ks k x) (fun _ _ _ => rfl) (fun R k x ks => spec_l1Put_l0_step N R k x ks) (fun R x ks r h => ⟨N, h⟩) (lsOk_at (L := []) trivial) (by kernel_rfl) (by kernel_rfl)
noncomputable def spec_l1Put (N : Nat) (l : (List Int)) (n : Int) : Option (((List Int) × Unit) × (Unit)) :=
  spec_l1Put_l0 N (fun n1 kv o => (br (ilt kv (tLen o))
    ((chk (inb o kv)
      (br (ieq (rdI o kv) n1)
      (some ((o, ()), ()))
      ((chk (ile 0 0 && ile 0 kv && ile kv (tLen o))
        (chk (room (α := Int) (β := Int) [] (tCut o 0 kv))
        (chk (room (tApp [] (tCut o 0 kv)) [n1])
        (chk (ile 0 kv && ile kv (tLen o) && ile (tLen o) (tLen o))
        (chk (room (tApp (tApp [] (tCut o 0 kv)) [n1]) (tCut o kv (tLen o)))
        (some (((tApp (tApp (tApp [] (tCut o 0 kv)) [n1]) (tCut o kv (tLen o))), ()), ())))))))))))
    ((chk (ile 0 0 && ile 0 kv && ile kv (tLen o))
      (chk (room (α := Int) (β := Int) [] (tCut o 0 kv))
      (chk (room (tApp [] (tCut o 0 kv)) [n1])
      (chk (ile 0 kv && ile kv (tLen o) && ile (tLen o) (tLen o))
      (chk (room (tApp (tApp [] (tCut o 0 kv)) [n1]) (tCut o kv (tLen o)))
      (some (((tApp (tApp (tApp [] (tCut o 0 kv)) [n1]) (tCut o kv (tLen o))), ()), ())))))))))) N n 0 l
noncomputable def spec_l1Put_S (N : Nat) : FSum := ⟨spec_l1Put_ps, spec_l1Put_rs, fun x => spec_l1Put N x.1 x.2.1⟩
theorem spec_l1Put_run (N : Nat) (x : argsT spec_l1Put_ps) : spec_l1Put N x.1 x.2.1 = funF (spec_l1Put_G N) tab [spec_l1Put_l0_s N] Try.f115 spec_l1Put_ps spec_l1Put_rs x := by kernel_rfl
theorem spec_l1Put_pc (N : Nat) : PC Try.prog 115 (spec_l1Put_S N) := by
  have e : spec_l1Put_S N = ⟨spec_l1Put_ps, spec_l1Put_rs, funF (spec_l1Put_G N) tab [spec_l1Put_l0_s N] Try.f115 spec_l1Put_ps spec_l1Put_rs⟩ := congrArg (FSum.mk spec_l1Put_ps spec_l1Put_rs) (funext (spec_l1Put_run N))
  rw [e]
  exact fun_ok (c := spec_l1Put_code) progOk (spec_l1Put_gok N) (draw_ok progOk (spec_l1Put_gok N)) Try.call115 Try.func115 (by kernel_rfl) (lsOk_at (L := [spec_l1Put_l0_s N]) ⟨spec_l1Put_l0_ok N, trivial⟩) (by kernel_rfl) (by kernel_rfl) (by kernel_rfl) (by kernel_rfl) (by kernel_rfl)

/-! ### spec_l2Reach -/
abbrev spec_l2Reach_ps : List (PV.Mode × Ty) := [(.ro, QILQII), (.ro, LI), (.ro, I)]
abbrev spec_l2Reach_rs : List (Bool × Ty) := [(true, LI)]
noncomputable def spec_l2Reach_G (N : Nat) : GTab := gOf [(47, spec_l1Has_S N), (52, spec_l2Near_S N), (115, spec_l1Put_S N)]
theorem spec_l2Reach_gok (N : Nat) : GOk Try.prog (spec_l2Reach_G N) := gOf_ok ⟨spec_l1Has_pc N, spec_l2Near_pc N, spec_l1Put_pc N, trivial⟩
noncomputable def spec_l2Reach_code : Code := (Try.f102.body).getD .skip
noncomputable def spec_l2Reach_l0_0_0_sh : Sh := ⟨[(1, .one (.ro LI)), (3, .one (.adr 0 0)), (7, .one (.ref 1)), (8, .one (.ro I)), (9, .one (.ro I)), (10, .one (.ro I))], [.box [.ro I, .ro LQII], .sl 3 I .own]⟩
noncomputable def spec_l2Reach_l0_0_0_ex : List (Ex × Sh) := [(.exit 4, ⟨[(1, .one (.ro LI)), (3, .one (.adr 0 0)), (7, .one (.ref 1)), (8, .one (.ro I)), (9, .one (.ro I))], [.box [.ro I, .ro LQII], .sl 3 I .own]⟩)]
noncomputable def spec_l2Reach_l0_0_0 {R : Type} (N : Nat) (k0 : (List Int) → Int → Int → Int → (List (Int × Int)) → (List Int) → Option R) : Nat → (List Int) → Int → Int → Int → Int → (List (Int × Int)) → (List Int) → Option R
  | 0, _, _, _, _, _, _, _ => none
  | K + 1, setv3, round2, i1, kv, o6, o7, o8 =>
    (br (ilt kv (tLen o8))
      ((chk (inb setv3 i1)
        ((spec_l1Has N o8 (rdI setv3 i1)).bind fun r =>
        (br (!r.1.1)
          ((chk (inb o8 kv)
            (chk (inb setv3 i1)
            ((spec_l2Near N (o6, o7) (rdI o8 kv) (rdI setv3 i1)).bind fun r1 =>
            (br r1.1.1
              ((chk (inb setv3 i1)
                ((spec_l1Put N o8 (rdI setv3 i1)).bind fun r2 =>
                spec_l2Reach_l0_0_0 N k0 K setv3 round2 i1 (IntKind.i64.wrap (kv + 1)) o6 o7 r2.1.1)))
              (spec_l2Reach_l0_0_0 N k0 K setv3 round2 i1 (IntKind.i64.wrap (kv + 1)) o6 o7 o8))))))
          (k0 setv3 round2 i1 o6 o7 o8)))))
      (k0 setv3 round2 i1 o6 o7 o8))
noncomputable def spec_l2Reach_l0_0_0_again {R : Type} (N : Nat) (ks : (j : Nat) → ((spec_l2Reach_l0_0_0_ex.getD j (.ret, Sh.none)).2).T → Option R) (k : Nat) (x : spec_l2Reach_l0_0_0_sh.T) : Option R :=
  spec_l2Reach_l0_0_0 N (fun y0 y1 y2 y3 y4 y5 => ks 0 ((y0, (), (), y1, y2, ()), ((y3, y4, ()), y5, ()))) k x.1.1 x.1.2.2.2.1 x.1.2.2.2.2.1 x.1.2.2.2.2.2.1 x.2.1.1 x.2.1.2.1 x.2.2.1
noncomputable def spec_l2Reach_l0_0_0_s (N : Nat) : LSum := ⟨spec_l2Reach_l0_0_0_sh, spec_l2Reach_l0_0_0_ex, fun x ks => spec_l2Reach_l0_0_0_again N ks N x⟩
theorem spec_l2Reach_l0_0_0_step (N : Nat) (R : Type) (k : Nat) (x : spec_l2Reach_l0_0_0_sh.T) (ks : (j : Nat) → ((spec_l2Reach_l0_0_0_ex.getD j (.ret, Sh.none)).2).T → Option R) : spec_l2Reach_l0_0_0_again N ks (k + 1) x = roundF (spec_l2Reach_G N) tab [] (loopAt (loopAt (loopAt spec_l2Reach_code 0) 0) 0) spec_l2Reach_l0_0_0_sh spec_l2Reach_l0_0_0_ex (fun y => spec_l2Reach_l0_0_0_again N ks k y) ks x := by kernel_rfl
theorem spec_l2Reach_l0_0_0_ok (N : Nat) : LoopOk Try.prog Try.f102.ntmps (spec_l2Reach_l0_0_0_s N) (loopAt (loopAt (loopAt spec_l2Reach_code 0) 0) 0) :=
  loop_ok (l := spec_l2Reach_l0_0_0_s N) progOk (spec_l2Reach_gok N) (draw_ok progOk (spec_l2Reach_gok N)) (fun R k x ks => spec_l2Reach_l0_0_0_again N ks k x) (fun _ _ _ => rfl) (fun R k x ks => spec_l2Reach_l0_0_0_step N R k x ks) (fun R x ks r h => ⟨N, h⟩) (lsOk_at (L := []) trivial) (by kernel_rfl) (by kernel_rfl)
noncomputable def spec_l2Reach_l0_0_sh : Sh := ⟨[(1, .one (.ro LI)), (3, .one (.adr 0 0)), (7, .one (.ref 1)), (8, .one (.ro I)), (9, .one (.ro I))], [.box [.ro I, .ro LQII], .sl 3 I .own]⟩
noncomputable def spec_l2Reach_l0_0_ex : List (Ex × Sh) := [(.exit 2, ⟨[(1, .one (.ro LI)), (3, .one (.adr 0 0)), (7, .one (.ref 1)), (8, .one (.ro I))], [.box [.ro I, .ro LQII], .sl 3 I .own]⟩)]
noncomputable def spec_l2Reach_l0_0 {R : Type} (N : Nat) (k0 : (List Int) → Int → Int → (List (Int × Int)) → (List Int) → Option R) : Nat → (List Int) → Int → Int → Int → (List (Int × Int)) → (List Int) → Option R
  | 0, _, _, _, _, _, _ => none
  | K + 1, setv2, round1, i, o3, o4, o5 =>
    (br (ilt i (tLen setv2))
      (spec_l2Reach_l0_0_0 N (fun setv3 round2 i1 o6 o7 o8 => spec_l2Reach_l0_0 N k0 K setv3 round2 (IntKind.i64.wrap (i1 + 1)) o6 o7 o8) N setv2 round1 i 0 o3 o4 o5)
      (k0 setv2 round1 o3 o4 o5))
noncomputable def spec_l2Reach_l0_0_again {R : Type} (N : Nat) (ks : (j : Nat) → ((spec_l2Reach_l0_0_ex.getD j (.ret, Sh.none)).2).T → Option R) (k : Nat) (x : spec_l2Reach_l0_0_sh.T) : Option R :=
  spec_l2Reach_l0_0 N (fun y0 y1 y2 y3 y4 => ks 0 ((y0, (), (), y1, ()), ((y2, y3, ()), y4, ()))) k x.1.1 x.1.2.2.2.1 x.1.2.2.2.2.1 x.2.1.1 x.2.1.2.1 x.2.2.1
noncomputable def spec_l2Reach_l0_0_s (N : Nat) : LSum := ⟨spec_l2Reach_l0_0_sh, spec_l2Reach_l0_0_ex, fun x ks => spec_l2Reach_l0_0_again N ks N x⟩
theorem spec_l2Reach_l0_0_step (N : Nat) (R : Type) (k : Nat) (x : spec_l2Reach_l0_0_sh.T) (ks : (j : Nat) → ((spec_l2Reach_l0_0_ex.getD j (.ret, Sh.none)).2).T → Option R) : spec_l2Reach_l0_0_again N ks (k + 1) x = roundF (spec_l2Reach_G N) tab [spec_l2Reach_l0_0_0_s N] (loopAt (loopAt spec_l2Reach_code 0) 0) spec_l2Reach_l0_0_sh spec_l2Reach_l0_0_ex (fun y => spec_l2Reach_l0_0_again N ks k y) ks x := by kernel_rfl
theorem spec_l2Reach_l0_0_ok (N : Nat) : LoopOk Try.prog Try.f102.ntmps (spec_l2Reach_l0_0_s N) (loopAt (loopAt spec_l2Reach_code 0) 0) :=
  loop_ok (l := spec_l2Reach_l0_0_s N) progOk (spec_l2Reach_gok N) (draw_ok progOk (spec_l2Reach_gok N)) (fun R k x ks => spec_l2Reach_l0_0_again N ks k x) (fun _ _ _ => rfl) (fun R k x ks => spec_l2Reach_l0_0_step N R k x ks) (fun R x ks r h => ⟨N, h⟩) (lsOk_at (L := [spec_l2Reach_l0_0_0_s N]) ⟨spec_l2Reach_l0_0_0_ok N, trivial⟩) (by kernel_rfl) (by kernel_rfl)
noncomputable def spec_l2Reach_l0_sh : Sh := ⟨[(1, .one (.ro LI)), (3, .one (.adr 0 0)), (7, .one (.ref 1)), (8, .one (.ro I))], [.box [.ro I, .ro LQII], .sl 3 I .own]⟩
noncomputable def spec_l2Reach_l0_ex : List (Ex × Sh) := [(.exit 0, ⟨[(7, .one (.ref 0))], [.sl 3 I .own]⟩)]
noncomputable def spec_l2Reach_l0 {R : Type} (N : Nat) (k0 : (List Int) → Option R) : Nat → (List Int) → Int → Int → (List (Int × Int)) → (List Int) → Option R
  | 0, _, _, _, _, _ => none
  | K + 1, setv1, round, o, o1, o2 =>
    (br (ilt round (tLen setv1))
      (spec_l2Reach_l0_0 N (fun setv2 round1 o3 o4 o5 => spec_l2Reach_l0 N k0 K setv2 (IntKind.i64.wrap (round1 + 1)) o3 o4 o5) N setv1 round 0 o o1 o2)
      (k0 o2))
noncomputable def spec_l2Reach_l0_again {R : Type} (N : Nat) (ks : (j : Nat) → ((spec_l2Reach_l0_ex.getD j (.ret, Sh.none)).2).T → Option R) (k : Nat) (x : spec_l2Reach_l0_sh.T) : Option R :=
  spec_l2Reach_l0 N (fun y0 => ks 0 (((), ()), (y0, ()))) k x.1.1 x.1.2.2.2.1 x.2.1.1 x.2.1.2.1 x.2.2.1
noncomputable def spec_l2Reach_l0_s (N : Nat) : LSum := ⟨spec_l2Reach_l0_sh, spec_l2Reach_l0_ex, fun x ks => spec_l2Reach_l0_again N ks N x⟩
theorem spec_l2Reach_l0_step (N : Nat) (R : Type) (k : Nat) (x : spec_l2Reach_l0_sh.T) (ks : (j : Nat) → ((spec_l2Reach_l0_ex.getD j (.ret, Sh.none)).2).T → Option R) : spec_l2Reach_l0_again N ks (k + 1) x = roundF (spec_l2Reach_G N) tab [spec_l2Reach_l0_0_s N] (loopAt spec_l2Reach_code 0) spec_l2Reach_l0_sh spec_l2Reach_l0_ex (fun y => spec_l2Reach_l0_again N ks k y) ks x := by kernel_rfl
theorem spec_l2Reach_l0_ok (N : Nat) : LoopOk Try.prog Try.f102.ntmps (spec_l2Reach_l0_s N) (loopAt spec_l2Reach_code 0) :=
  loop_ok (l := spec_l2Reach_l0_s N) progOk (spec_l2Reach_gok N) (draw_ok progOk (spec_l2Reach_gok N)) (fun R k x ks => spec_l2Reach_l0_again N ks k x) (fun _ _ _ => rfl) (fun R k x ks => spec_l2Reach_l0_step N R k x ks) (fun R x ks r h => ⟨N, h⟩) (lsOk_at (L := [spec_l2Reach_l0_0_s N]) ⟨spec_l2Reach_l0_0_ok N, trivial⟩) (by kernel_rfl) (by kernel_rfl)
noncomputable def spec_l2Reach (N : Nat) (g : (Int × (List (Int × Int)))) (setv : (List Int)) (x : Int) : Option (((List Int) × Unit) × (Unit)) :=
  spec_l2Reach_l0 N (fun o => some ((o, ()), ())) N setv 0 g.1 g.2 [x]
noncomputable def spec_l2Reach_S (N : Nat) : FSum := ⟨spec_l2Reach_ps, spec_l2Reach_rs, fun x => spec_l2Reach N x.1 x.2.1 x.2.2.1⟩
theorem spec_l2Reach_run (N : Nat) (x : argsT spec_l2Reach_ps) : spec_l2Reach N x.1 x.2.1 x.2.2.1 = funF (spec_l2Reach_G N) tab [spec_l2Reach_l0_s N] Try.f102 spec_l2Reach_ps spec_l2Reach_rs x := by kernel_rfl
theorem spec_l2Reach_pc (N : Nat) : PC Try.prog 102 (spec_l2Reach_S N) := by
  have e : spec_l2Reach_S N = ⟨spec_l2Reach_ps, spec_l2Reach_rs, funF (spec_l2Reach_G N) tab [spec_l2Reach_l0_s N] Try.f102 spec_l2Reach_ps spec_l2Reach_rs⟩ := congrArg (FSum.mk spec_l2Reach_ps spec_l2Reach_rs) (funext (spec_l2Reach_run N))
  rw [e]
  exact fun_ok (c := spec_l2Reach_code) progOk (spec_l2Reach_gok N) (draw_ok progOk (spec_l2Reach_gok N)) Try.call102 Try.func102 (by kernel_rfl) (lsOk_at (L := [spec_l2Reach_l0_s N]) ⟨spec_l2Reach_l0_ok N, trivial⟩) (by kernel_rfl) (by kernel_rfl) (by kernel_rfl) (by kernel_rfl) (by kernel_rfl)

/-! ### spec_l5Chain -/
abbrev spec_l5Chain_ps : List (PV.Mode × Ty) := [(.ro, QILQII), (.ro, LI), (.ro, I), (.ro, I)]
abbrev spec_l5Chain_rs : List (Bool × Ty) := [(true, LI)]
noncomputable def spec_l5Chain_G (N : Nat) : GTab := gOf [(102, spec_l2Reach_S N)]
theorem spec_l5Chain_gok (N : Nat) : GOk Try.prog (spec_l5Chain_G N) := gOf_ok ⟨spec_l2Reach_pc N, trivial⟩
noncomputable def spec_l5Chain_code : Code := (Try.f63.body).getD .skip
noncomputable def spec_l5Chain_l0_sh : Sh := ⟨[(1, .one (.ro LI)), (2, .one (.ro I)), (3, .one (.ro I)), (4, .one (.adr 0 0)), (9, .one (.ref 1)), (10, .one (.ro I))], [.box [.ro I, .ro LQII], .sl 3 I .own]⟩
noncomputable def spec_l5Chain_l0_ex : List (Ex × Sh) := [(.exit 0, ⟨[(2, .one (.ro I)), (4, .one (.adr 0 0)), (9, .one (.ref 1))], [.box [.ro I, .ro LQII], .sl 3 I .own]⟩)]
noncomputable def spec_l5Chain_l0 {R : Type} (N : Nat) (k0 : Int → Int → (List (Int × Int)) → (List Int) → Option R) : Nat → (List Int) → Int → Int → Int → Int → (List (Int × Int)) → (List Int) → Option R
  | 0, _, _, _, _, _, _, _ => none
  | K + 1, colours1, x1, c1, y, o, o1, o2 =>
    (br (ilt y o)
      ((chk (inb colours1 y)
        (br (ieq (rdI colours1 y) c1)
        ((chk (room o2 [y])
          (spec_l5Chain_l0 N k0 K colours1 x1 c1 (IntKind.i64.wrap (y + 1)) o o1 (tApp o2 [y]))))
        ((chk (inb colours1 y)
          (chk (inb colours1 x1)
          (br (ieq (rdI colours1 y) (rdI colours1 x1))
          ((chk (room o2 [y])
            (spec_l5Chain_l0 N k0 K colours1 x1 c1 (IntKind.i64.wrap (y + 1)) o o1 (tApp o2 [y]))))
          (spec_l5Chain_l0 N k0 K colours1 x1 c1 (IntKind.i64.wrap (y + 1)) o o1 o2))))))))
      (k0 x1 o o1 o2))
noncomputable def spec_l5Chain_l0_again {R : Type} (N : Nat) (ks : (j : Nat) → ((spec_l5Chain_l0_ex.getD j (.ret, Sh.none)).2).T → Option R) (k : Nat) (x : spec_l5Chain_l0_sh.T) : Option R :=
  spec_l5Chain_l0 N (fun y0 y1 y2 y3 => ks 0 ((y0, (), (), ()), ((y1, y2, ()), y3, ()))) k x.1.1 x.1.2.1 x.1.2.2.1 x.1.2.2.2.2.2.1 x.2.1.1 x.2.1.2.1 x.2.2.1
noncomputable def spec_l5Chain_l0_s (N : Nat) : LSum := ⟨spec_l5Chain_l0_sh, spec_l5Chain_l0_ex, fun x ks => spec_l5Chain_l0_again N ks N x⟩
theorem spec_l5Chain_l0_step (N : Nat) (R : Type) (k : Nat) (x : spec_l5Chain_l0_sh.T) (ks : (j : Nat) → ((spec_l5Chain_l0_ex.getD j (.ret, Sh.none)).2).T → Option R) : spec_l5Chain_l0_again N ks (k + 1) x = roundF (spec_l5Chain_G N) tab [] (loopAt spec_l5Chain_code 0) spec_l5Chain_l0_sh spec_l5Chain_l0_ex (fun y => spec_l5Chain_l0_again N ks k y) ks x := by kernel_rfl
theorem spec_l5Chain_l0_ok (N : Nat) : LoopOk Try.prog Try.f63.ntmps (spec_l5Chain_l0_s N) (loopAt spec_l5Chain_code 0) :=
  loop_ok (l := spec_l5Chain_l0_s N) progOk (spec_l5Chain_gok N) (draw_ok progOk (spec_l5Chain_gok N)) (fun R k x ks => spec_l5Chain_l0_again N ks k x) (fun _ _ _ => rfl) (fun R k x ks => spec_l5Chain_l0_step N R k x ks) (fun R x ks r h => ⟨N, h⟩) (lsOk_at (L := []) trivial) (by kernel_rfl) (by kernel_rfl)
noncomputable def spec_l5Chain (N : Nat) (g : (Int × (List (Int × Int)))) (colours : (List Int)) (x : Int) (c : Int) : Option (((List Int) × Unit) × (Unit)) :=
  spec_l5Chain_l0 N (fun x1 o o1 o2 => ((spec_l2Reach N (o, o1) o2 x1).bind fun r =>
    some ((r.1.1, ()), ()))) N colours x c 0 g.1 g.2 []
noncomputable def spec_l5Chain_S (N : Nat) : FSum := ⟨spec_l5Chain_ps, spec_l5Chain_rs, fun x => spec_l5Chain N x.1 x.2.1 x.2.2.1 x.2.2.2.1⟩
theorem spec_l5Chain_run (N : Nat) (x : argsT spec_l5Chain_ps) : spec_l5Chain N x.1 x.2.1 x.2.2.1 x.2.2.2.1 = funF (spec_l5Chain_G N) tab [spec_l5Chain_l0_s N] Try.f63 spec_l5Chain_ps spec_l5Chain_rs x := by kernel_rfl
theorem spec_l5Chain_pc (N : Nat) : PC Try.prog 63 (spec_l5Chain_S N) := by
  have e : spec_l5Chain_S N = ⟨spec_l5Chain_ps, spec_l5Chain_rs, funF (spec_l5Chain_G N) tab [spec_l5Chain_l0_s N] Try.f63 spec_l5Chain_ps spec_l5Chain_rs⟩ := congrArg (FSum.mk spec_l5Chain_ps spec_l5Chain_rs) (funext (spec_l5Chain_run N))
  rw [e]
  exact fun_ok (c := spec_l5Chain_code) progOk (spec_l5Chain_gok N) (draw_ok progOk (spec_l5Chain_gok N)) Try.call63 Try.func63 (by kernel_rfl) (lsOk_at (L := [spec_l5Chain_l0_s N]) ⟨spec_l5Chain_l0_ok N, trivial⟩) (by kernel_rfl) (by kernel_rfl) (by kernel_rfl) (by kernel_rfl) (by kernel_rfl)

/-! ### spec_l5Kempe -/
abbrev spec_l5Kempe_ps : List (PV.Mode × Ty) := [(.ro, QILQII), (.ro, LI), (.ro, I), (.ro, I)]
abbrev spec_l5Kempe_rs : List (Bool × Ty) := [(true, LI)]
noncomputable def spec_l5Kempe_G (N : Nat) : GTab := gOf [(99, spec_l1Own_S N), (63, spec_l5Chain_S N)]
theorem spec_l5Kempe_gok (N : Nat) : GOk Try.prog (spec_l5Kempe_G N) := gOf_ok ⟨spec_l1Own_pc N, spec_l5Chain_pc N, trivial⟩
noncomputable def spec_l5Kempe_code : Code := (Try.f61.body).getD .skip
noncomputable def spec_l5Kempe_l0_sh : Sh := ⟨[(1, .one (.ro LI)), (2, .one (.ro I)), (3, .one (.ro I)), (9, .one (.ref 0)), (10, .one (.ref 1)), (11, .one (.ro I))], [.sl 3 I .own, .sl 3 I .own]⟩
noncomputable def spec_l5Kempe_l0_ex : List (Ex × Sh) := [(.exit 0, ⟨[(9, .one (.ref 0))], [.sl 3 I .own]⟩)]
noncomputable def spec_l5Kempe_l0 {R : Type} (N : Nat) (k0 : (List Int) → Option R) : Nat → (List Int) → Int → Int → Int → (List Int) → (List Int) → Option R
  | 0, _, _, _, _, _, _ => none
  | K + 1, colours1, x1, c1, i, o, o1 =>
    (br (ilt i (tLen o1))
      ((chk (inb o1 i)
        (chk (inb colours1 x1)
        (chk (inb o1 i)
        (chk (inb colours1 (rdI o1 i))
        (chk (inb o (rdI o1 i))
        (spec_l5Kempe_l0 N k0 K colours1 x1 c1 (IntKind.i64.wrap (i + 1)) (tSet o (rdI o1 i) (IntKind.i64.wrap ((IntKind.i64.wrap ((rdI colours1 x1) + c1)) - (rdI colours1 (rdI o1 i))))) o1)))))))
      (k0 o))
noncomputable def spec_l5Kempe_l0_again {R : Type} (N : Nat) (ks : (j : Nat) → ((spec_l5Kempe_l0_ex.getD j (.ret, Sh.none)).2).T → Option R) (k : Nat) (x : spec_l5Kempe_l0_sh.T) : Option R :=
  spec_l5Kempe_l0 N (fun y0 => ks 0 (((), ()), (y0, ()))) k x.1.1 x.1.2.1 x.1.2.2.1 x.1.2.2.2.2.2.1 x.2.1 x.2.2.1
noncomputable def spec_l5Kempe_l0_s (N : Nat) : LSum := ⟨spec_l5Kempe_l0_sh, spec_l5Kempe_l0_ex, fun x ks => spec_l5Kempe_l0_again N ks N x⟩
theorem spec_l5Kempe_l0_step (N : Nat) (R : Type) (k : Nat) (x : spec_l5Kempe_l0_sh.T) (ks : (j : Nat) → ((spec_l5Kempe_l0_ex.getD j (.ret, Sh.none)).2).T → Option R) : spec_l5Kempe_l0_again N ks (k + 1) x = roundF (spec_l5Kempe_G N) tab [] (loopAt spec_l5Kempe_code 0) spec_l5Kempe_l0_sh spec_l5Kempe_l0_ex (fun y => spec_l5Kempe_l0_again N ks k y) ks x := by kernel_rfl
theorem spec_l5Kempe_l0_ok (N : Nat) : LoopOk Try.prog Try.f61.ntmps (spec_l5Kempe_l0_s N) (loopAt spec_l5Kempe_code 0) :=
  loop_ok (l := spec_l5Kempe_l0_s N) progOk (spec_l5Kempe_gok N) (draw_ok progOk (spec_l5Kempe_gok N)) (fun R k x ks => spec_l5Kempe_l0_again N ks k x) (fun _ _ _ => rfl) (fun R k x ks => spec_l5Kempe_l0_step N R k x ks) (fun R x ks r h => ⟨N, h⟩) (lsOk_at (L := []) trivial) (by kernel_rfl) (by kernel_rfl)
noncomputable def spec_l5Kempe (N : Nat) (g : (Int × (List (Int × Int)))) (colours : (List Int)) (x : Int) (c : Int) : Option (((List Int) × Unit) × (Unit)) :=
  ((spec_l1Own N colours).bind fun r =>
    ((spec_l5Chain N (g.1, g.2) colours x c).bind fun r1 =>
      spec_l5Kempe_l0 N (fun o => some ((o, ()), ())) N colours x c 0 r.1.1 r1.1.1))
noncomputable def spec_l5Kempe_S (N : Nat) : FSum := ⟨spec_l5Kempe_ps, spec_l5Kempe_rs, fun x => spec_l5Kempe N x.1 x.2.1 x.2.2.1 x.2.2.2.1⟩
theorem spec_l5Kempe_run (N : Nat) (x : argsT spec_l5Kempe_ps) : spec_l5Kempe N x.1 x.2.1 x.2.2.1 x.2.2.2.1 = funF (spec_l5Kempe_G N) tab [spec_l5Kempe_l0_s N] Try.f61 spec_l5Kempe_ps spec_l5Kempe_rs x := by kernel_rfl
theorem spec_l5Kempe_pc (N : Nat) : PC Try.prog 61 (spec_l5Kempe_S N) := by
  have e : spec_l5Kempe_S N = ⟨spec_l5Kempe_ps, spec_l5Kempe_rs, funF (spec_l5Kempe_G N) tab [spec_l5Kempe_l0_s N] Try.f61 spec_l5Kempe_ps spec_l5Kempe_rs⟩ := congrArg (FSum.mk spec_l5Kempe_ps spec_l5Kempe_rs) (funext (spec_l5Kempe_run N))
  rw [e]
  exact fun_ok (c := spec_l5Kempe_code) progOk (spec_l5Kempe_gok N) (draw_ok progOk (spec_l5Kempe_gok N)) Try.call61 Try.func61 (by kernel_rfl) (lsOk_at (L := [spec_l5Kempe_l0_s N]) ⟨spec_l5Kempe_l0_ok N, trivial⟩) (by kernel_rfl) (by kernel_rfl) (by kernel_rfl) (by kernel_rfl) (by kernel_rfl)

/-! ### spec_KempeChange -/
abbrev spec_KempeChange_ps : List (PV.Mode × Ty) := [(.ro, QILQII), (.ro, I), (.ro, LI), (.ro, I), (.ro, I)]
abbrev spec_KempeChange_rs : List (Bool × Ty) := [(true, LI), (true, .bool)]
noncomputable def spec_KempeChange_G (N : Nat) : GTab := gOf [(60, spec_l5Spot_S N), (61, spec_l5Kempe_S N)]
theorem spec_KempeChange_gok (N : Nat) : GOk Try.prog (spec_KempeChange_G N) := gOf_ok ⟨spec_l5Spot_pc N, spec_l5Kempe_pc N, trivial⟩
noncomputable def spec_KempeChange_code : Code := (Try.f27.body).getD .skip
noncomputable def spec_KempeChange (N : Nat) (g : (Int × (List (Int × Int)))) (kv : Int) (colours : (List Int)) (x : Int) (c : Int) : Option (((List Int) × Bool × Unit) × (Unit)) :=
  ((spec_l5Spot N (g.1, g.2) kv colours x c).bind fun r =>
    (br (!r.1.1)
      (some (([], false, ()), ()))
      ((chk (inb colours x)
        (br (ieq (rdI colours x) c)
        (some (([], false, ()), ()))
        (((spec_l5Kempe N (g.1, g.2) colours x c).bind fun r1 =>
          some ((r1.1.1, true, ()), ()))))))))
noncomputable def spec_KempeChange_S (N : Nat) : FSum := ⟨spec_KempeChange_ps, spec_KempeChange_rs, fun x => spec_KempeChange N x.1 x.2.1 x.2.2.1 x.2.2.2.1 x.2.2.2.2.1⟩
theorem spec_KempeChange_run (N : Nat) (x : argsT spec_KempeChange_ps) : spec_KempeChange N x.1 x.2.1 x.2.2.1 x.2.2.2.1 x.2.2.2.2.1 = funF (spec_KempeChange_G N) tab [] Try.f27 spec_KempeChange_ps spec_KempeChange_rs x := by kernel_rfl
theorem spec_KempeChange_pc (N : Nat) : PC Try.prog 27 (spec_KempeChange_S N) := by
  have e : spec_KempeChange_S N = ⟨spec_KempeChange_ps, spec_KempeChange_rs, funF (spec_KempeChange_G N) tab [] Try.f27 spec_KempeChange_ps spec_KempeChange_rs⟩ := congrArg (FSum.mk spec_KempeChange_ps spec_KempeChange_rs) (funext (spec_KempeChange_run N))
  rw [e]
  exact fun_ok (c := spec_KempeChange_code) progOk (spec_KempeChange_gok N) (draw_ok progOk (spec_KempeChange_gok N)) Try.call27 Try.func27 (by kernel_rfl) (lsOk_at (L := []) trivial) (by kernel_rfl) (by kernel_rfl) (by kernel_rfl) (by kernel_rfl) (by kernel_rfl)

/-! ### impl_ChainOf -/
abbrev impl_ChainOf_ps : List (PV.Mode × Ty) := [(.ro, QILQII), (.ro, I), (.ro, LI), (.ro, I), (.ro, I)]
abbrev impl_ChainOf_rs : List (Bool × Ty) := [(true, LI), (true, .bool)]
noncomputable def impl_ChainOf_G (N : Nat) : GTab := gOf [(58, impl_isSpot_S N), (62, impl_Graph_chain_S N)]
theorem impl_ChainOf_gok (N : Nat) : GOk Try.prog (impl_ChainOf_G N) := gOf_ok ⟨impl_isSpot_pc N, impl_Graph_chain_pc N, trivial⟩
noncomputable def impl_ChainOf_code : Code := (Try.f28.body).getD .skip
noncomputable def impl_ChainOf (N : Nat) (g : (Int × (List (Int × Int)))) (kv : Int) (colours : (List Int)) (x : Int) (c : Int) : Option (((List Int) × Bool × Unit) × (Unit)) :=
  ((impl_isSpot N (g.1, g.2) kv colours x c).bind fun r =>
    (br (!r.1.1)
      (some (([], false, ()), ()))
      (((impl_Graph_chain N (g.1, g.2) colours x c).bind fun r1 =>
        some ((r1.1.1, true, ()), ())))))
noncomputable def impl_ChainOf_S (N : Nat) : FSum := ⟨impl_ChainOf_ps, impl_ChainOf_rs, fun x => impl_ChainOf N x.1 x.2.1 x.2.2.1 x.2.2.2.1 x.2.2.2.2.1⟩
theorem impl_ChainOf_run (N : Nat) (x : argsT impl_ChainOf_ps) : impl_ChainOf N x.1 x.2.1 x.2.2.1 x.2.2.2.1 x.2.2.2.2.1 = funF (impl_ChainOf_G N) tab [] Try.f28 impl_ChainOf_ps impl_ChainOf_rs x := by kernel_rfl
theorem impl_ChainOf_pc (N : Nat) : PC Try.prog 28 (impl_ChainOf_S N) := by
  have e : impl_ChainOf_S N = ⟨impl_ChainOf_ps, impl_ChainOf_rs, funF (impl_ChainOf_G N) tab [] Try.f28 impl_ChainOf_ps impl_ChainOf_rs⟩ := congrArg (FSum.mk impl_ChainOf_ps impl_ChainOf_rs) (funext (impl_ChainOf_run N))
  rw [e]
  exact fun_ok (c := impl_ChainOf_code) progOk (impl_ChainOf_gok N) (draw_ok progOk (impl_ChainOf_gok N)) Try.call28 Try.func28 (by kernel_rfl) (lsOk_at (L := []) trivial) (by kernel_rfl) (by kernel_rfl) (by kernel_rfl) (by kernel_rfl) (by kernel_rfl)

/-! ### spec_ChainOf -/
abbrev spec_ChainOf_ps : List (PV.Mode × Ty) := [(.ro, QILQII), (.ro, I), (.ro, LI), (.ro, I), (.ro, I)]
abbrev spec_ChainOf_rs : List (Bool × Ty) := [(true, LI), (true, .bool)]
noncomputable def spec_ChainOf_G (N : Nat) : GTab := gOf [(60, spec_l5Spot_S N), (63, spec_l5Chain_S N)]
theorem spec_ChainOf_gok (N : Nat) : GOk Try.prog (spec_ChainOf_G N) := gOf_ok ⟨spec_l5Spot_pc N, spec_l5Chain_pc N, trivial⟩
noncomputable def spec_ChainOf_code : Code := (Try.f29.body).getD .skip
noncomputable def spec_ChainOf (N : Nat) (g : (Int × (List (Int × Int)))) (kv : Int) (colours : (List Int)) (x : Int) (c : Int) : Option (((List Int) × Bool × Unit) × (Unit)) :=
  ((spec_l5Spot N (g.1, g.2) kv colours x c).bind fun r =>
    (br (!r.1.1)
      (some (([], false, ()), ()))
      (((spec_l5Chain N (g.1, g.2) colours x c).bind fun r1 =>
        some ((r1.1.1, true, ()), ())))))
noncomputable def spec_ChainOf_S (N : Nat) : FSum := ⟨spec_ChainOf_ps, spec_ChainOf_rs, fun x => spec_ChainOf N x.1 x.2.1 x.2.2.1 x.2.2.2.1 x.2.2.2.2.1⟩
theorem spec_ChainOf_run (N : Nat) (x : argsT spec_ChainOf_ps) : spec_ChainOf N x.1 x.2.1 x.2.2.1 x.2.2.2.1 x.2.2.2.2.1 = funF (spec_ChainOf_G N) tab [] Try.f29 spec_ChainOf_ps spec_ChainOf_rs x := by kernel_rfl
theorem spec_ChainOf_pc (N : Nat) : PC Try.prog 29 (spec_ChainOf_S N) := by
  have e : spec_ChainOf_S N = ⟨spec_ChainOf_ps, spec_ChainOf_rs, funF (spec_ChainOf_G N) tab [] Try.f29 spec_ChainOf_ps spec_ChainOf_rs⟩ := congrArg (FSum.mk spec_ChainOf_ps spec_ChainOf_rs) (funext (spec_ChainOf_run N))
  rw [e]
  exact fun_ok (c := spec_ChainOf_code) progOk (spec_ChainOf_gok N) (draw_ok progOk (spec_ChainOf_gok N)) Try.call29 Try.func29 (by kernel_rfl) (lsOk_at (L := []) trivial) (by kernel_rfl) (by kernel_rfl) (by kernel_rfl) (by kernel_rfl) (by kernel_rfl)

/-! ### laws_vCut -/
abbrev laws_vCut_ps : List (PV.Mode × Ty) := [(.ro, LU8), (.ro, I)]
abbrev laws_vCut_rs : List (Bool × Ty) := [(true, LU8)]
noncomputable def laws_vCut_G (N : Nat) : GTab := gOf []
theorem laws_vCut_gok (N : Nat) : GOk Try.prog (laws_vCut_G N) := gOf_ok trivial
noncomputable def laws_vCut_code : Code := (Try.f31.body).getD .skip
noncomputable def laws_vCut (N : Nat) (code : (List Int)) (n : Int) : Option (((List Int) × Unit) × (Unit)) :=
  (br (ilt (tLen code) n)
    ((chk (ile 0 (tLen code) && ile (tLen code) (tLen code) && ile (tLen code) (tLen code))
      (chk (room (α := Int) (β := Int) [] (tCut code (tLen code) (tLen code)))
      (chk (room (tApp [] (tCut code (tLen code) (tLen code))) [(IntKind.u8.wrap ((tLen code)))])
      (some (((tApp (tApp [] (tCut code (tLen code) (tLen code))) [(IntKind.u8.wrap ((tLen code)))]), ()), ()))))))
    ((chk (ile 0 n && ile n (tLen code) && ile (tLen code) (tLen code))
      (chk (room (α := Int) (β := Int) [] (tCut code n (tLen code)))
      (chk (room (tApp [] (tCut code n (tLen code))) [(IntKind.u8.wrap (n))])
      (some (((tApp (tApp [] (tCut code n (tLen code))) [(IntKind.u8.wrap (n))]), ()), ())))))))
noncomputable def laws_vCut_S (N : Nat) : FSum := ⟨laws_vCut_ps, laws_vCut_rs, fun x => laws_vCut N x.1 x.2.1⟩
theorem laws_vCut_run (N : Nat) (x : argsT laws_vCut_ps) : laws_vCut N x.1 x.2.1 = funF (laws_vCut_G N) tab [] Try.f31 laws_vCut_ps laws_vCut_rs x := by kernel_rfl
theorem laws_vCut_pc (N : Nat) : PC Try.prog 31 (laws_vCut_S N) := by
  have e : laws_vCut_S N = ⟨laws_vCut_ps, laws_vCut_rs, funF (laws_vCut_G N) tab [] Try.f31 laws_vCut_ps laws_vCut_rs⟩ := congrArg (FSum.mk laws_vCut_ps laws_vCut_rs) (funext (laws_vCut_run N))
  rw [e]
  exact fun_ok (c := laws_vCut_code) progOk (laws_vCut_gok N) (draw_ok progOk (laws_vCut_gok N)) Try.call31 Try.func31 (by kernel_rfl) (lsOk_at (L := []) trivial) (by kernel_rfl) (by kernel_rfl) (by kernel_rfl) (by kernel_rfl) (by kernel_rfl)

/-! ### spec_DrawIsColouring -/
abbrev spec_DrawIsColouring_ps : List (PV.Mode × Ty) := [(.ro, LU8)]
abbrev spec_DrawIsColouring_rs : List (Bool × Ty) := [(false, QILQII), (false, I), (false, LI)]
noncomputable def spec_DrawIsColouring_G (N : Nat) : GTab := gOf [(64, spec_l1Cur_dense5_S N), (65, spec_l1Cur_many5_S N), (66, spec_l1Cur_colours5_S N), (67, spec_l1Cur_one_S N), (68, spec_l1Cur_pick_S N)]
theorem spec_DrawIsColouring_gok (N : Nat) : GOk Try.prog (spec_DrawIsColouring_G N) := gOf_ok ⟨spec_l1Cur_dense5_pc N, spec_l1Cur_many5_pc N, spec_l1Cur_colours5_pc N, spec_l1Cur_one_pc N, spec_l1Cur_pick_pc N, trivial⟩
noncomputable def spec_DrawIsColouring_code : Code := (Try.f30.body).getD .skip
noncomputable def spec_DrawIsColouring (N : Nat) (code : (List Int)) : Option (((Int × (List (Int × Int))) × Int × (List Int) × Unit) × (Unit)) :=
  ((spec_l1Cur_dense5 N (code, (0, 0))).bind fun r =>
    ((spec_l1Cur_many5 N r.2.1).bind fun r1 =>
      ((spec_l1Cur_colours5 N r1.2.1 (r.1.1.1, r.1.1.2) r1.1.1).bind fun r2 =>
        (br (ilt 0 (tLen r2.1.1))
          (((spec_l1Cur_one N r2.2.1 3).bind fun r3 =>
            (br r3.1.1
              (((spec_l1Cur_pick N r3.2.1 (tLen r2.1.1)).bind fun r4 =>
                ((spec_l1Cur_pick N r4.2.1 6).bind fun r5 =>
                  (chk (inb r2.1.1 r4.1.1)
                    (some (((r.1.1.1, r.1.1.2), r1.1.1, (tSet r2.1.1 r4.1.1 (IntKind.i64.wrap (r5.1.1 - 1))), ()), ()))))))
              (some (((r.1.1.1, r.1.1.2), r1.1.1, r2.1.1, ()), ())))))
          (some (((r.1.1.1, r.1.1.2), r1.1.1, r2.1.1, ()), ()))))))
noncomputable def spec_DrawIsColouring_S (N : Nat) : FSum := ⟨spec_DrawIsColouring_ps, spec_DrawIsColouring_rs, fun x => spec_DrawIsColouring N x.1⟩
theorem spec_DrawIsColouring_run (N : Nat) (x : argsT spec_DrawIsColouring_ps) : spec_DrawIsColouring N x.1 = funF (spec_DrawIsColouring_G N) tab [] Try.f30 spec_DrawIsColouring_ps spec_DrawIsColouring_rs x := by kernel_rfl
theorem spec_DrawIsColouring_pc (N : Nat) : PC Try.prog 30 (spec_DrawIsColouring_S N) := by
  have e : spec_DrawIsColouring_S N = ⟨spec_DrawIsColouring_ps, spec_DrawIsColouring_rs, funF (spec_DrawIsColouring_G N) tab [] Try.f30 spec_DrawIsColouring_ps spec_DrawIsColouring_rs⟩ := congrArg (FSum.mk spec_DrawIsColouring_ps spec_DrawIsColouring_rs) (funext (spec_DrawIsColouring_run N))
  rw [e]
  exact fun_ok (c := spec_DrawIsColouring_code) progOk (spec_DrawIsColouring_gok N) (draw_ok progOk (spec_DrawIsColouring_gok N)) Try.call30 Try.func30 (by kernel_rfl) (lsOk_at (L := []) trivial) (by kernel_rfl) (by kernel_rfl) (by kernel_rfl) (by kernel_rfl) (by kernel_rfl)

/-! ### impl_IsColouring -/
abbrev impl_IsColouring_ps : List (PV.Mode × Ty) := [(.ro, QILQII), (.ro, I), (.ro, LI)]
abbrev impl_IsColouring_rs : List (Bool × Ty) := [(true, .bool), (true, .bool)]
noncomputable def impl_IsColouring_G (N : Nat) : GTab := gOf [(69, impl_isColourCase_S N), (70, impl_Graph_isColouring_S N)]
theorem impl_IsColouring_gok (N : Nat) : GOk Try.prog (impl_IsColouring_G N) := gOf_ok ⟨impl_isColourCase_pc N, impl_Graph_isColouring_pc N, trivial⟩
noncomputable def impl_IsColouring_code : Code := (Try.f32.body).getD .skip
noncomputable def impl_IsColouring (N : Nat) (g : (Int × (List (Int × Int)))) (kv : Int) (colours : (List Int)) : Option ((Bool × Bool × Unit) × (Unit)) :=
  ((impl_isColourCase N (g.1, g.2) kv).bind fun r =>
    (br (!r.1.1)
      (some ((false, false, ()), ()))
      (((impl_Graph_isColouring N (g.1, g.2) kv colours).bind fun r1 =>
        some ((r1.1.1, true, ()), ())))))
noncomputable def impl_IsColouring_S (N : Nat) : FSum := ⟨impl_IsColouring_ps, impl_IsColouring_rs, fun x => impl_IsColouring N x.1 x.2.1 x.2.2.1⟩
theorem impl_IsColouring_run (N : Nat) (x : argsT impl_IsColouring_ps) : impl_IsColouring N x.1 x.2.1 x.2.2.1 = funF (impl_IsColouring_G N) tab [] Try.f32 impl_IsColouring_ps impl_IsColouring_rs x := by kernel_rfl
theorem impl_IsColouring_pc (N : Nat) : PC Try.prog 32 (impl_IsColouring_S N) := by
  have e : impl_IsColouring_S N = ⟨impl_IsColouring_ps, impl_IsColouring_rs, funF (impl_IsColouring_G N) tab [] Try.f32 impl_IsColouring_ps impl_IsColouring_rs⟩ := congrArg (FSum.mk impl_IsColouring_ps impl_IsColouring_rs) (funext (impl_IsColouring_run N))
  rw [e]
  exact fun_ok (c := impl_IsColouring_code) progOk (impl_IsColouring_gok N) (draw_ok progOk (impl_IsColouring_gok N)) Try.call32 Try.func32 (by kernel_rfl) (lsOk_at (L := []) trivial) (by kernel_rfl) (by kernel_rfl) (by kernel_rfl) (by kernel_rfl) (by kernel_rfl)

/-! ### spec_IsColouring -/
abbrev spec_IsColouring_ps : List (PV.Mode × Ty) := [(.ro, QILQII), (.ro, I), (.ro, LI)]
abbrev spec_IsColouring_rs : List (Bool × Ty) := [(true, .bool), (true, .bool)]
noncomputable def spec_IsColouring_G (N : Nat) : GTab := gOf [(71, spec_l5Ask_S N), (72, spec_l5Proper_S N)]
theorem spec_IsColouring_gok (N : Nat) : GOk Try.prog (spec_IsColouring_G N) := gOf_ok ⟨spec_l5Ask_pc N, spec_l5Proper_pc N, trivial⟩
noncomputable def spec_IsColouring_code : Code := (Try.f33.body).getD .skip
noncomputable def spec_IsColouring (N : Nat) (g : (Int × (List (Int × Int)))) (kv : Int) (colours : (List Int)) : Option ((Bool × Bool × Unit) × (Unit)) :=
  ((spec_l5Ask N (g.1, g.2) kv).bind fun r =>
    (br (!r.1.1)
      (some ((false, false, ()), ()))
      (((spec_l5Proper N (g.1, g.2) kv colours).bind fun r1 =>
        some ((r1.1.1, true, ()), ())))))
noncomputable def spec_IsColouring_S (N : Nat) : FSum := ⟨spec_IsColouring_ps, spec_IsColouring_rs, fun x => spec_IsColouring N x.1 x.2.1 x.2.2.1⟩
theorem spec_IsColouring_run (N : Nat) (x : argsT spec_IsColouring_ps) : spec_IsColouring N x.1 x.2.1 x.2.2.1 = funF (spec_IsColouring_G N) tab [] Try.f33 spec_IsColouring_ps spec_IsColouring_rs x := by kernel_rfl
theorem spec_IsColouring_pc (N : Nat) : PC Try.prog 33 (spec_IsColouring_S N) := by
  have e : spec_IsColouring_S N = ⟨spec_IsColouring_ps, spec_IsColouring_rs, funF (spec_IsColouring_G N) tab [] Try.f33 spec_IsColouring_ps spec_IsColouring_rs⟩ := congrArg (FSum.mk spec_IsColouring_ps spec_IsColouring_rs) (funext (spec_IsColouring_run N))
  rw [e]
  exact fun_ok (c := spec_IsColouring_code) progOk (spec_IsColouring_gok N) (draw_ok progOk (spec_IsColouring_gok N)) Try.call33 Try.func33 (by kernel_rfl) (lsOk_at (L := []) trivial) (by kernel_rfl) (by kernel_rfl) (by kernel_rfl) (by kernel_rfl) (by kernel_rfl)

/-! ### laws_vInts -/
abbrev laws_vInts_ps : List (PV.Mode × Ty) := [(.ro, LI), (.ro, LI)]
abbrev laws_vInts_rs : List (Bool × Ty) := [(true, .bool)]
noncomputable def laws_vInts_G (N : Nat) : GTab := gOf []
theorem laws_vInts_gok (N : Nat) : GOk Try.prog (laws_vInts_G N) := gOf_ok trivial
noncomputable def laws_vInts_code : Code := (Try.f34.body).getD .skip
noncomputable def laws_vInts_l0_sh : Sh := ⟨[(0, .one (.ro LI)), (1, .one (.ro LI)), (5, .one (.ro I))], []⟩
noncomputable def laws_vInts_l0_ex : List (Ex × Sh) := [(.ret, ⟨[(4, .one (.ro .bool))], []⟩), (.exit 0, ⟨[], []⟩)]
noncomputable def laws_vInts_l0 {R : Type} (N : Nat) (k0 : Bool → Option R) (k1 : Unit → Option R) : Nat → (List Int) → (List Int) → Int → Option R
  | 0, _, _, _ => none
  | K + 1, a1, b1, i =>
    (br (ilt i (tLen a1))
      ((chk (inb a1 i)
        (chk (inb b1 i)
        (br (ine (rdI a1 i) (rdI b1 i))
        (k0 false)
        (laws_vInts_l0 N k0 k1 K a1 b1 (IntKind.i64.wrap (i + 1)))))))
      (k1 ()))
noncomputable def laws_vInts_l0_again {R : Type} (N : Nat) (ks : (j : Nat) → ((laws_vInts_l0_ex.getD j (.ret, Sh.none)).2).T → Option R) (k : Nat) (x : laws_vInts_l0_sh.T) : Option R :=
  laws_vInts_l0 N (fun y0 => ks 0 ((y0, ()), ())) (fun (_ : Unit) => ks 1 ((), ())) k x.1.1 x.1.2.1 x.1.2.2.1
noncomputable def laws_vInts_l0_s (N : Nat) : LSum := ⟨laws_vInts_l0_sh, laws_vInts_l0_ex, fun x ks => laws_vInts_l0_again N ks N x⟩
theorem laws_vInts_l0_step (N : Nat) (R : Type) (k : Nat) (x : laws_vInts_l0_sh.T) (ks : (j : Nat) → ((laws_vInts_l0_ex.getD j (.ret, Sh.none)).2).T → Option R) : laws_vInts_l0_again N ks (k + 1) x = roundF (laws_vInts_G N) tab [] (loopAt laws_vInts_code 0) laws_vInts_l0_sh laws_vInts_l0_ex (fun y => laws_vInts_l0_again N ks k y) ks x := by kernel_rfl
theorem laws_vInts_l0_ok (N : Nat) : LoopOk Try.prog Try.f34.ntmps (laws_vInts_l0_s N) (loopAt laws_vInts_code 0) :=
  loop_ok (l := laws_vInts_l0_s N) progOk (laws_vInts_gok N) (draw_ok progOk (laws_vInts_gok N)) (fun R k x ks => laws_vInts_l0_again N ks k x) (fun _ _ _ => rfl) (fun R k x ks => laws_vInts_l0_step N R k x ks) (fun R x ks r h => ⟨N, h⟩) (lsOk_at (L := []) trivial) (by kernel_rfl) (by kernel_rfl)
noncomputable def laws_vInts (N : Nat) (a : (List Int)) (b : (List Int)) : Option ((Bool × Unit) × (Unit)) :=
  (br (ine (tLen a) (tLen b))
    (some ((false, ()), ()))
    (laws_vInts_l0 N (fun x => some ((x, ()), ())) (fun (_ : Unit) => some ((true, ()), ())) N a b 0))
noncomputable def laws_vInts_S (N : Nat) : FSum := ⟨laws_vInts_ps, laws_vInts_rs, fun x => laws_vInts N x.1 x.2.1⟩
theorem laws_vInts_run (N : Nat) (x : argsT laws_vInts_ps) : laws_vInts N x.1 x.2.1 = funF (laws_vInts_G N) tab [laws_vInts_l0_s N] Try.f34 laws_vInts_ps laws_vInts_rs x := by kernel_rfl
theorem laws_vInts_pc (N : Nat) : PC Try.prog 34 (laws_vInts_S N) := by
  have e : laws_vInts_S N = ⟨laws_vInts_ps, laws_vInts_rs, funF (laws_vInts_G N) tab [laws_vInts_l0_s N] Try.f34 laws_vInts_ps laws_vInts_rs⟩ := congrArg (FSum.mk laws_vInts_ps laws_vInts_rs) (funext (laws_vInts_run N))
  rw [e]
  exact fun_ok (c := laws_vInts_code) progOk (laws_vInts_gok N) (draw_ok progOk (laws_vInts_gok N)) Try.call34 Try.func34 (by kernel_rfl) (lsOk_at (L := [laws_vInts_l0_s N]) ⟨laws_vInts_l0_ok N, trivial⟩) (by kernel_rfl) (by kernel_rfl) (by kernel_rfl) (by kernel_rfl) (by kernel_rfl)

/-! ### laws_vHas -/
abbrev laws_vHas_ps : List (PV.Mode × Ty) := [(.ro, LI), (.ro, I)]
abbrev laws_vHas_rs : List (Bool × Ty) := [(true, .bool)]
noncomputable def laws_vHas_G (N : Nat) : GTab := gOf []
theorem laws_vHas_gok (N : Nat) : GOk Try.prog (laws_vHas_G N) := gOf_ok trivial
noncomputable def laws_vHas_code : Code := (Try.f35.body).getD .skip
noncomputable def laws_vHas_l0_sh : Sh := ⟨[(0, .one (.ro LI)), (1, .one (.ro I)), (5, .one (.ro I))], []⟩
noncomputable def laws_vHas_l0_ex : List (Ex × Sh) := [(.ret, ⟨[(4, .one (.ro .bool))], []⟩), (.exit 0, ⟨[], []⟩)]
noncomputable def laws_vHas_l0 {R : Type} (N : Nat) (k0 : Bool → Option R) (k1 : Unit → Option R) : Nat → (List Int) → Int → Int → Option R
  | 0, _, _, _ => none
  | K + 1, l1, x1, i =>
    (br (ilt i (tLen l1))
      ((chk (inb l1 i)
        (br (ieq (rdI l1 i) x1)
        (k0 true)
        (laws_vHas_l0 N k0 k1 K l1 x1 (IntKind.i64.wrap (i + 1))))))
      (k1 ()))
noncomputable def laws_vHas_l0_again {R : Type} (N : Nat) (ks : (j : Nat) → ((laws_vHas_l0_ex.getD j (.ret, Sh.none)).2).T → Option R) (k : Nat) (x : laws_vHas_l0_sh.T) : Option R :=
  laws_vHas_l0 N (fun y0 => ks 0 ((y0, ()), ())) (fun (_ : Unit) => ks 1 ((), ())) k x.1.1 x.1.2.1 x.1.2.2.1
noncomputable def laws_vHas_l0_s (N : Nat) : LSum := ⟨laws_vHas_l0_sh, laws_vHas_l0_ex, fun x ks => laws_vHas_l0_again N ks N x⟩
theorem laws_vHas_l0_step (N : Nat) (R : Type) (k : Nat) (x : laws_vHas_l0_sh.T) (ks : (j : Nat) → ((laws_vHas_l0_ex.getD j (.ret, Sh.none)).2).T → Option R) : laws_vHas_l0_again N ks (k + 1) x = roundF (laws_vHas_G N) tab [] (loopAt laws_vHas_code 0) laws_vHas_l0_sh laws_vHas_l0_ex (fun y => laws_vHas_l0_again N ks k y) ks x := by kernel_rfl
theorem laws_vHas_l0_ok (N : Nat) : LoopOk Try.prog Try.f35.ntmps (laws_vHas_l0_s N) (loopAt laws_vHas_code 0) :=
  loop_ok (l := laws_vHas_l0_s N) progOk (laws_vHas_gok N) (draw_ok progOk (laws_vHas_gok N)) (fun R k x ks => laws_vHas_l0_again N ks k x) (fun _ _ _ => rfl) (fun R k x ks => laws_vHas_l0_step N R k x ks) (fun R x ks r h => ⟨N, h⟩) (lsOk_at (L := []) trivial) (by kernel_rfl) (by kernel_rfl)
noncomputable def laws_vHas (N : Nat) (l : (List Int)) (x : Int) : Option ((Bool × Unit) × (Unit)) :=
  laws_vHas_l0 N (fun x1 => some ((x1, ()), ())) (fun (_ : Unit) => some ((false, ()), ())) N l x 0
noncomputable def laws_vHas_S (N : Nat) : FSum := ⟨laws_vHas_ps, laws_vHas_rs, fun x => laws_vHas N x.1 x.2.1⟩
theorem laws_vHas_run (N : Nat) (x : argsT laws_vHas_ps) : laws_vHas N x.1 x.2.1 = funF (laws_vHas_G N) tab [laws_vHas_l0_s N] Try.f35 laws_vHas_ps laws_vHas_rs x := by kernel_rfl
theorem laws_vHas_pc (N : Nat) : PC Try.prog 35 (laws_vHas_S N) := by
  have e : laws_vHas_S N = ⟨laws_vHas_ps, laws_vHas_rs, funF (laws_vHas_G N) tab [laws_vHas_l0_s N] Try.f35 laws_vHas_ps laws_vHas_rs⟩ := congrArg (FSum.mk laws_vHas_ps laws_vHas_rs) (funext (laws_vHas_run N))
  rw [e]
  exact fun_ok (c := laws_vHas_code) progOk (laws_vHas_gok N) (draw_ok progOk (laws_vHas_gok N)) Try.call35 Try.func35 (by kernel_rfl) (lsOk_at (L := [laws_vHas_l0_s N]) ⟨laws_vHas_l0_ok N, trivial⟩) (by kernel_rfl) (by kernel_rfl) (by kernel_rfl) (by kernel_rfl) (by kernel_rfl)

/-! ### laws_FnKempe -/
abbrev laws_FnKempe_ps : List (PV.Mode × Ty) := [(.ro, LU8)]
abbrev laws_FnKempe_rs : List (Bool × Ty) := [(true, .bool)]
noncomputable def laws_FnKempe_G (N : Nat) : GTab := gOf [(24, laws_vBig_S N), (25, spec_DrawKempeChange_S N), (26, impl_KempeChange_S N), (27, spec_KempeChange_S N), (28, impl_ChainOf_S N), (29, spec_ChainOf_S N), (31, laws_vCut_S N), (30, spec_DrawIsColouring_S N), (32, impl_IsColouring_S N), (33, spec_IsColouring_S N), (34, laws_vInts_S N), (35, laws_vHas_S N)]
theorem laws_FnKempe_gok (N : Nat) : GOk Try.prog (laws_FnKempe_G N) := gOf_ok ⟨laws_vBig_pc N, spec_DrawKempeChange_pc N, impl_KempeChange_pc N, spec_KempeChange_pc N, impl_ChainOf_pc N, spec_ChainOf_pc N, laws_vCut_pc N, spec_DrawIsColouring_pc N, impl_IsColouring_pc N, spec_IsColouring_pc N, laws_vInts_pc N, laws_vHas_pc N, trivial⟩
noncomputable def laws_FnKempe_code : Code := (Try.f6.body).getD .skip
noncomputable def laws_FnKempe_l0_sh : Sh := ⟨[(3, .one (.adr 0 0)), (4, .one (.ro I)), (5, .one (.ro LI)), (6, .one (.ro I)), (7, .one (.ro I)), (8, .one (.ref 1)), (9, .one (.ro .bool)), (12, .one (.ref 2)), (13, .one (.ro .bool)), (23, .one (.ro I))], [.box [.ro I, .ro LQII], .sl 3 I .own, .sl 3 I .own]⟩
noncomputable def laws_FnKempe_l0_ex : List (Ex × Sh) := [(.ret, ⟨[(2, .one (.ro .bool))], []⟩), (.exit 0, ⟨[(3, .one (.adr 0 0)), (4, .one (.ro I)), (5, .one (.ro LI)), (6, .one (.ro I)), (8, .one (.ref 1)), (9, .one (.ro .bool)), (12, .one (.ref 2))], [.box [.ro I, .ro LQII], .sl 3 I .own, .sl 3 I .own]⟩)]
noncomputable def laws_FnKempe_l0 {R : Type} (N : Nat) (k0 : Bool → Option R) (k1 : Int → (List Int) → Int → Bool → Int → (List (Int × Int)) → (List Int) → (List Int) → Option R) : Nat → Int → (List Int) → Int → Int → Bool → Bool → Int → Int → (List (Int × Int)) → (List Int) → (List Int) → Option R
  | 0, _, _, _, _, _, _, _, _, _, _, _ => none
  | K + 1, x, x1, x2, x3, x4, x5, x6, o, o1, o2, o3 =>
    (br x5
      ((br (ilt x6 (tLen o3))
        ((chk (inb o3 x6)
          (chk (inb x1 (rdI o3 x6))
          (br (ine (rdI x1 (rdI o3 x6)) x3)
          ((chk (inb o3 x6)
            (chk (inb x1 (rdI o3 x6))
            (chk (inb x1 x2)
            (br (ine (rdI x1 (rdI o3 x6)) (rdI x1 x2))
            (k0 false)
            (laws_FnKempe_l0 N k0 k1 K x x1 x2 x3 x4 x5 (IntKind.i64.wrap (x6 + 1)) o o1 o2 o3))))))
          (laws_FnKempe_l0 N k0 k1 K x x1 x2 x3 x4 x5 (IntKind.i64.wrap (x6 + 1)) o o1 o2 o3)))))
        (k1 x x1 x2 x4 o o1 o2 o3)))
      (k1 x x1 x2 x4 o o1 o2 o3))
noncomputable def laws_FnKempe_l0_again {R : Type} (N : Nat) (ks : (j : Nat) → ((laws_FnKempe_l0_ex.getD j (.ret, Sh.none)).2).T → Option R) (k : Nat) (x : laws_FnKempe_l0_sh.T) : Option R :=
  laws_FnKempe_l0 N (fun y0 => ks 0 ((y0, ()), ())) (fun y0 y1 y2 y3 y4 y5 y6 y7 => ks 1 (((), y0, y1, y2, (), y3, (), ()), ((y4, y5, ()), y6, y7, ()))) k x.1.2.1 x.1.2.2.1 x.1.2.2.2.1 x.1.2.2.2.2.1 x.1.2.2.2.2.2.2.1 x.1.2.2.2.2.2.2.2.2.1 x.1.2.2.2.2.2.2.2.2.2.1 x.2.1.1 x.2.1.2.1 x.2.2.1 x.2.2.2.1
noncomputable def laws_FnKempe_l0_s (N : Nat) : LSum := ⟨laws_FnKempe_l0_sh, laws_FnKempe_l0_ex, fun x ks => laws_FnKempe_l0_again N ks N x⟩
theorem laws_FnKempe_l0_step (N : Nat) (R : Type) (k : Nat) (x : laws_FnKempe_l0_sh.T) (ks : (j : Nat) → ((laws_FnKempe_l0_ex.getD j (.ret, Sh.none)).2).T → Option R) : laws_FnKempe_l0_again N ks (k + 1) x = roundF (laws_FnKempe_G N) tab [] (loopAt laws_FnKempe_code 0) laws_FnKempe_l0_sh laws_FnKempe_l0_ex (fun y => laws_FnKempe_l0_again N ks k y) ks x := by kernel_rfl
theorem laws_FnKempe_l0_ok (N : Nat) : LoopOk Try.prog Try.f6.ntmps (laws_FnKempe_l0_s N) (loopAt laws_FnKempe_code 0) :=
  loop_ok (l := laws_FnKempe_l0_s N) progOk (laws_FnKempe_gok N) (draw_ok progOk (laws_FnKempe_gok N)) (fun R k x ks => laws_FnKempe_l0_again N ks k x) (fun _ _ _ => rfl) (fun R k x ks => laws_FnKempe_l0_step N R k x ks) (fun R x ks r h => ⟨N, h⟩) (lsOk_at (L := []) trivial) (by kernel_rfl) (by kernel_rfl)
noncomputable def laws_FnKempe_l1_sh : Sh := ⟨[(3, .one (.adr 0 0)), (5, .one (.ro LI)), (8, .one (.ref 1)), (12, .one (.ref 2)), (24, .one (.ro .bool)), (25, .one (.ro .bool)), (26, .one (.ref 3)), (27, .one (.ro .bool)), (28, .one (.ro I))], [.box [.ro I, .ro LQII], .sl 3 I .own, .sl 3 I .own, .sl 3 I .own]⟩
noncomputable def laws_FnKempe_l1_ex : List (Ex × Sh) := [(.ret, ⟨[(2, .one (.ro .bool))], []⟩), (.exit 2, ⟨[(5, .one (.ro LI)), (24, .one (.ro .bool)), (25, .one (.ro .bool)), (26, .one (.ref 0)), (27, .one (.ro .bool))], [.sl 3 I .own]⟩)]
noncomputable def laws_FnKempe_l1 {R : Type} (N : Nat) (k0 : Bool → Option R) (k1 : (List Int) → Bool → Bool → Bool → (List Int) → Option R) : Nat → (List Int) → Bool → Bool → Bool → Int → Int → (List (Int × Int)) → (List Int) → (List Int) → (List Int) → Option R
  | 0, _, _, _, _, _, _, _, _, _, _ => none
  | K + 1, x5, x6, x7, x8, x9, o4, o5, o6, o7, o8 =>
    (br (ilt x9 o4)
      (((laws_vHas N o7 x9).bind fun r14 =>
        (chk (inb o6 x9)
          (chk (inb x5 x9)
          (br (!(r14.1.1 == (ine (rdI o6 x9) (rdI x5 x9))))
          (k0 false)
          (laws_FnKempe_l1 N k0 k1 K x5 x6 x7 x8 (IntKind.i64.wrap (x9 + 1)) o4 o5 o6 o7 o8))))))
      (k1 x5 x6 x7 x8 o8))
noncomputable def laws_FnKempe_l1_again {R : Type} (N : Nat) (ks : (j : Nat) → ((laws_FnKempe_l1_ex.getD j (.ret, Sh.none)).2).T → Option R) (k : Nat) (x : laws_FnKempe_l1_sh.T) : Option R :=
  laws_FnKempe_l1 N (fun y0 => ks 0 ((y0, ()), ())) (fun y0 y1 y2 y3 y4 => ks 1 ((y0, y1, y2, (), y3, ()), (y4, ()))) k x.1.2.1 x.1.2.2.2.2.1 x.1.2.2.2.2.2.1 x.1.2.2.2.2.2.2.2.1 x.1.2.2.2.2.2.2.2.2.1 x.2.1.1 x.2.1.2.1 x.2.2.1 x.2.2.2.1 x.2.2.2.2.1
noncomputable def laws_FnKempe_l1_s (N : Nat) : LSum := ⟨laws_FnKempe_l1_sh, laws_FnKempe_l1_ex, fun x ks => laws_FnKempe_l1_again N ks N x⟩
theorem laws_FnKempe_l1_step (N : Nat) (R : Type) (k : Nat) (x : laws_FnKempe_l1_sh.T) (ks : (j : Nat) → ((laws_FnKempe_l1_ex.getD j (.ret, Sh.none)).2).T → Option R) : laws_FnKempe_l1_again N ks (k + 1) x = roundF (laws_FnKempe_G N) tab [] (loopAt laws_FnKempe_code 1) laws_FnKempe_l1_sh laws_FnKempe_l1_ex (fun y => laws_FnKempe_l1_again N ks k y) ks x := by kernel_rfl
theorem laws_FnKempe_l1_ok (N : Nat) : LoopOk Try.prog Try.f6.ntmps (laws_FnKempe_l1_s N) (loopAt laws_FnKempe_code 1) :=
  loop_ok (l := laws_FnKempe_l1_s N) progOk (laws_FnKempe_gok N) (draw_ok progOk (laws_FnKempe_gok N)) (fun R k x ks => laws_FnKempe_l1_again N ks k x) (fun _ _ _ => rfl) (fun R k x ks => laws_FnKempe_l1_step N R k x ks) (fun R x ks r h => ⟨N, h⟩) (lsOk_at (L := []) trivial) (by kernel_rfl) (by kernel_rfl)
noncomputable def laws_FnKempe (N : Nat) (c : (List Int)) : Option ((Bool × Unit) × (Unit)) :=
  ((laws_vBig N c).bind fun r =>
    (br r.1.1
      (some ((true, ()), ()))
      (((spec_DrawKempeChange N c).bind fun r1 =>
        ((impl_KempeChange N (r1.1.1.1, r1.1.1.2) r1.1.2.1 r1.1.2.2.1 r1.1.2.2.2.1 r1.1.2.2.2.2.1).bind fun r2 =>
          ((spec_KempeChange N (r1.1.1.1, r1.1.1.2) r1.1.2.1 r1.1.2.2.1 r1.1.2.2.2.1 r1.1.2.2.2.2.1).bind fun r3 =>
            ((impl_ChainOf N (r1.1.1.1, r1.1.1.2) r1.1.2.1 r1.1.2.2.1 r1.1.2.2.2.1 r1.1.2.2.2.2.1).bind fun r4 =>
              ((spec_ChainOf N (r1.1.1.1, r1.1.1.2) r1.1.2.1 r1.1.2.2.1 r1.1.2.2.2.1 r1.1.2.2.2.2.1).bind fun r5 =>
                ((laws_vCut N c 1).bind fun r6 =>
                  ((spec_DrawIsColouring N r6.1.1).bind fun r7 =>
                    ((impl_IsColouring N (r7.1.1.1, r7.1.1.2) r7.1.2.1 r7.1.2.2.1).bind fun r8 =>
                      ((spec_IsColouring N (r7.1.1.1, r7.1.1.2) r7.1.2.1 r7.1.2.2.1).bind fun r9 =>
                        (br (!(r2.1.2.1 == r3.1.2.1))
                          (some ((false, ()), ()))
                          (((laws_vInts N r2.1.1 r3.1.1).bind fun r10 =>
                            (br (!r10.1.1)
                              (some ((false, ()), ()))
                              ((br (!(r4.1.2.1 == r5.1.2.1))
                                (some ((false, ()), ()))
                                (((laws_vInts N r4.1.1 r5.1.1).bind fun r11 =>
                                  (br (!r11.1.1)
                                    (some ((false, ()), ()))
                                    ((br (!(r8.1.1 == r9.1.1))
                                      (some ((false, ()), ()))
                                      ((br (!(r8.1.2.1 == r9.1.2.1))
                                        (some ((false, ()), ()))
                                        ((br r2.1.2.1
                                          ((br (!r4.1.2.1)
                                            (some ((false, ()), ()))
                                            (laws_FnKempe_l0 N (fun x => some ((x, ()), ())) (fun x1 x2 x3 x4 o o1 o2 o3 => (br (!x4)
                                              (some ((true, ()), ()))
                                              (((impl_IsColouring N (o, o1) x1 o2).bind fun r12 =>
                                                (chk (inb x2 x3)
                                                  ((impl_KempeChange N (o, o1) x1 o2 x3 (rdI x2 x3)).bind fun r13 =>
                                                  laws_FnKempe_l1 N (fun x5 => some ((x5, ()), ())) (fun x6 x7 x8 x9 o4 => (br x8
                                                    ((br x7
                                                      ((br x9
                                                        (((laws_vInts N o4 x6).bind fun r14 =>
                                                          some ((r14.1.1, ()), ())))
                                                        (some ((false, ()), ()))))
                                                      (some ((false, ()), ()))))
                                                    (some ((false, ()), ())))) N x2 r12.1.1 r12.1.2.1 r13.1.2.1 0 o o1 o2 o3 r13.1.1)))))) N r1.1.2.1 r1.1.2.2.1 r1.1.2.2.2.1 r1.1.2.2.2.2.1 r2.1.2.1 r4.1.2.1 0 r1.1.1.1 r1.1.1.2 r2.1.1 r4.1.1)))
                                          (laws_FnKempe_l0 N (fun x10 => some ((x10, ()), ())) (fun x11 x12 x13 x14 o5 o6 o7 o8 => (br (!x14)
                                            (some ((true, ()), ()))
                                            (((impl_IsColouring N (o5, o6) x11 o7).bind fun r15 =>
                                              (chk (inb x12 x13)
                                                ((impl_KempeChange N (o5, o6) x11 o7 x13 (rdI x12 x13)).bind fun r16 =>
                                                laws_FnKempe_l1 N (fun x15 => some ((x15, ()), ())) (fun x16 x17 x18 x19 o9 => (br x18
                                                  ((br x17
                                                    ((br x19
                                                      (((laws_vInts N o9 x16).bind fun r17 =>
                                                        some ((r17.1.1, ()), ())))
                                                      (some ((false, ()), ()))))
                                                    (some ((false, ()), ()))))
                                                  (some ((false, ()), ())))) N x12 r15.1.1 r15.1.2.1 r16.1.2.1 0 o5 o6 o7 o8 r16.1.1)))))) N r1.1.2.1 r1.1.2.2.1 r1.1.2.2.2.1 r1.1.2.2.2.2.1 r2.1.2.1 r4.1.2.1 0 r1.1.1.1 r1.1.1.2 r2.1.1 r4.1.1))))))))))))))))))))))))))))
noncomputable def laws_FnKempe_S (N : Nat) : FSum := ⟨laws_FnKempe_ps, laws_FnKempe_rs, fun x => laws_FnKempe N x.1⟩
theorem laws_FnKempe_run (N : Nat) (x : argsT laws_FnKempe_ps) : laws_FnKempe N x.1 = funF (laws_FnKempe_G N) tab [laws_FnKempe_l0_s N, laws_FnKempe_l1_s N] Try.f6 laws_FnKempe_ps laws_FnKempe_rs x := by kernel_rfl
theorem laws_FnKempe_pc (N : Nat) : PC Try.prog 6 (laws_FnKempe_S N) := by
  have e : laws_FnKempe_S N = ⟨laws_FnKempe_ps, laws_FnKempe_rs, funF (laws_FnKempe_G N) tab [laws_FnKempe_l0_s N, laws_FnKempe_l1_s N] Try.f6 laws_FnKempe_ps laws_FnKempe_rs⟩ := congrArg (FSum.mk laws_FnKempe_ps laws_FnKempe_rs) (funext (laws_FnKempe_run N))
  rw [e]
  exact fun_ok (c := laws_FnKempe_code) progOk (laws_FnKempe_gok N) (draw_ok progOk (laws_FnKempe_gok N)) Try.call6 Try.func6 (by kernel_rfl) (lsOk_at (L := [laws_FnKempe_l0_s N, laws_FnKempe_l1_s N]) ⟨laws_FnKempe_l0_ok N, laws_FnKempe_l1_ok N, trivial⟩) (by kernel_rfl) (by kernel_rfl) (by kernel_rfl) (by kernel_rfl) (by kernel_rfl)
end Go.Proofs.Ytbnjcjpnpidhmaa
