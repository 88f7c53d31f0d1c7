/- Functions of the program as functions on data. -/
import Derived.Test.YtbnjcjpnpidhmaaGreatColouringsLawFc
set_option linter.all false
namespace Go.Proofs.YtbnjcjpnpidhmaaGreat
open Go Go.PV
/-! ### impl_bag_size -/
abbrev impl_bag_size_ps : List (PV.Mode × Ty) := [(.ro, U64)]
abbrev impl_bag_size_rs : List (Bool × Ty) := [(true, I)]
noncomputable def impl_bag_size_G (N : Nat) : GTab := gOf [(268, math_bits_OnesCount_S N)]
theorem impl_bag_size_gok (N : Nat) : GOk Tryz.prog (impl_bag_size_G N) := gOf_ok ⟨math_bits_OnesCount_pc N, trivial⟩
noncomputable def impl_bag_size_code : Code := (Tryz.f194.body).getD .skip
noncomputable def impl_bag_size (N : Nat) (b : Int) : Option ((Int × Unit) × (Unit)) :=
  ((math_bits_OnesCount N b).bind fun r =>
    some ((r.1.1, ()), ()))
noncomputable def impl_bag_size_S (N : Nat) : FSum := ⟨impl_bag_size_ps, impl_bag_size_rs, fun x => impl_bag_size N x.1⟩
theorem impl_bag_size_run (N : Nat) (x : argsT impl_bag_size_ps) : impl_bag_size N x.1 = funF (impl_bag_size_G N) tab [] Tryz.f194 impl_bag_size_ps impl_bag_size_rs x := by kernel_rfl
theorem impl_bag_size_pc (N : Nat) : PC Tryz.prog 194 (impl_bag_size_S N) := by
  have e : impl_bag_size_S N = ⟨impl_bag_size_ps, impl_bag_size_rs, funF (impl_bag_size_G N) tab [] Tryz.f194 impl_bag_size_ps impl_bag_size_rs⟩ := congrArg (FSum.mk impl_bag_size_ps impl_bag_size_rs) (funext (impl_bag_size_run N))
  rw [e]
  exact fun_ok (c := impl_bag_size_code) progOk (impl_bag_size_gok N) (draw_ok progOk (impl_bag_size_gok N)) Tryz.call194 Tryz.func194 (by kernel_rfl) (lsOk_at (L := []) trivial) (by kernel_rfl) (by kernel_rfl) (by kernel_rfl) (by kernel_rfl) (by kernel_rfl)

/-! ### impl_PeelingOf -/
abbrev impl_PeelingOf_ps : List (PV.Mode × Ty) := [(.ro, QILQII)]
abbrev impl_PeelingOf_rs : List (Bool × Ty) := [(true, LI), (true, I), (true, .bool)]
noncomputable def impl_PeelingOf_G (N : Nat) : GTab := gOf [(138, impl_IsGraph_S N), (145, impl_Graph_all_S N), (134, impl_bag_list_S N), (193, impl_Graph_neighbors_S N), (125, impl_bagOf_S N), (194, impl_bag_size_S N)]
theorem impl_PeelingOf_gok (N : Nat) : GOk Tryz.prog (impl_PeelingOf_G N) := gOf_ok ⟨impl_IsGraph_pc N, impl_Graph_all_pc N, impl_bag_list_pc N, impl_Graph_neighbors_pc N, impl_bagOf_pc N, impl_bag_size_pc N, trivial⟩
noncomputable def impl_PeelingOf_code : Code := (Tryz.f77.body).getD .skip
noncomputable def impl_PeelingOf_l0_0_sh : Sh := ⟨[(1, .one (.adr 0 0)), (5, .one (.ref 1)), (6, .one (.ro I)), (7, .one (.ro U64)), (8, .one (.ro I)), (9, .one (.ro I)), (22, .one (.ref 2)), (23, .one (.ro I)), (24, .one (.ro I))], [.box [.ro I, .ro LQII], .sl 3 I .own, .sl 3 I .own]⟩
noncomputable def impl_PeelingOf_l0_0_ex : List (Ex × Sh) := [(.exit 2, ⟨[(1, .one (.adr 0 0)), (5, .one (.ref 1)), (6, .one (.ro I)), (7, .one (.ro U64)), (8, .one (.ro I)), (9, .one (.ro I))], [.box [.ro I, .ro LQII], .sl 3 I .own]⟩)]
noncomputable def impl_PeelingOf_l0_0 {R : Type} (N : Nat) (k0 : Int → Int → Int → Int → Int → (List (Int × Int)) → (List Int) → Option R) : Nat → Int → Int → Int → Int → Int → Int → Int → (List (Int × Int)) → (List Int) → (List Int) → Option R
  | 0, _, _, _, _, _, _, _, _, _, _ => none
  | K + 1, most1, left1, best, least, x, x1, o3, o4, o5, o6 =>
    (br (ilt x1 x)
      ((chk (inb o6 x1)
        ((impl_Graph_neighbors N (o3, o4) (rdI o6 x1)).bind fun r3 =>
        ((impl_bagOf N r3.1.1).bind fun r4 =>
          ((impl_bag_size N (bitop .and .u64 r4.1.1 left1)).bind fun r5 =>
            (br (ilt r5.1.1 least)
              (impl_PeelingOf_l0_0 N k0 K most1 left1 (rdI o6 x1) r5.1.1 x (IntKind.i64.wrap (x1 + 1)) o3 o4 o5 o6)
              (impl_PeelingOf_l0_0 N k0 K most1 left1 best least x (IntKind.i64.wrap (x1 + 1)) o3 o4 o5 o6)))))))
      (k0 most1 left1 best least o3 o4 o5))
noncomputable def impl_PeelingOf_l0_0_again {R : Type} (N : Nat) (ks : (j : Nat) → ((impl_PeelingOf_l0_0_ex.getD j (.ret, Sh.none)).2).T → Option R) (k : Nat) (x : impl_PeelingOf_l0_0_sh.T) : Option R :=
  impl_PeelingOf_l0_0 N (fun y0 y1 y2 y3 y4 y5 y6 => ks 0 (((), (), y0, y1, y2, y3, ()), ((y4, y5, ()), y6, ()))) k x.1.2.2.1 x.1.2.2.2.1 x.1.2.2.2.2.1 x.1.2.2.2.2.2.1 x.1.2.2.2.2.2.2.2.1 x.1.2.2.2.2.2.2.2.2.1 x.2.1.1 x.2.1.2.1 x.2.2.1 x.2.2.2.1
noncomputable def impl_PeelingOf_l0_0_s (N : Nat) : LSum := ⟨impl_PeelingOf_l0_0_sh, impl_PeelingOf_l0_0_ex, fun x ks => impl_PeelingOf_l0_0_again N ks N x⟩
theorem impl_PeelingOf_l0_0_step (N : Nat) (R : Type) (k : Nat) (x : impl_PeelingOf_l0_0_sh.T) (ks : (j : Nat) → ((impl_PeelingOf_l0_0_ex.getD j (.ret, Sh.none)).2).T → Option R) : impl_PeelingOf_l0_0_again N ks (k + 1) x = roundF (impl_PeelingOf_G N) tab [] (loopAt (loopAt impl_PeelingOf_code 0) 0) impl_PeelingOf_l0_0_sh impl_PeelingOf_l0_0_ex (fun y => impl_PeelingOf_l0_0_again N ks k y) ks x := by kernel_rfl
theorem impl_PeelingOf_l0_0_ok (N : Nat) : LoopOk Tryz.prog Tryz.f77.ntmps (impl_PeelingOf_l0_0_s N) (loopAt (loopAt impl_PeelingOf_code 0) 0) :=
  loop_ok (l := impl_PeelingOf_l0_0_s N) progOk (impl_PeelingOf_gok N) (draw_ok progOk (impl_PeelingOf_gok N)) (fun R k x ks => impl_PeelingOf_l0_0_again N ks k x) (fun _ _ _ => rfl) (fun R k x ks => impl_PeelingOf_l0_0_step N R k x ks) (fun R x ks r h => ⟨N, h⟩) (lsOk_at (L := []) trivial) (by kernel_rfl) (by kernel_rfl)
noncomputable def impl_PeelingOf_l0_sh : Sh := ⟨[(1, .one (.adr 0 0)), (5, .one (.ref 1)), (6, .one (.ro I)), (7, .one (.ro U64))], [.box [.ro I, .ro LQII], .sl 3 I .own]⟩
noncomputable def impl_PeelingOf_l0_ex : List (Ex × Sh) := [(.exit 0, ⟨[(5, .one (.ref 0)), (6, .one (.ro I))], [.sl 3 I .own]⟩)]
noncomputable def impl_PeelingOf_l0 {R : Type} (N : Nat) (k0 : Int → (List Int) → Option R) : Nat → Int → Int → Int → (List (Int × Int)) → (List Int) → Option R
  | 0, _, _, _, _, _ => none
  | K + 1, most, left, o, o1, o2 =>
    (br (ine left 0)
      (((impl_bag_list N left).bind fun r2 =>
        impl_PeelingOf_l0_0 N (fun most1 left1 best least o3 o4 o5 => (chk (room o5 [best])
          (chk (ile 0 best)
          (impl_PeelingOf_l0 N k0 K (if least > most1 then least else most1) (bitop .andNot .u64 left1 (shlI .u64 1 best)) o3 o4 (tApp o5 [best]))))) N most left (-1) 8 (tLen r2.1.1) 0 o o1 o2 r2.1.1))
      (k0 most o2))
noncomputable def impl_PeelingOf_l0_again {R : Type} (N : Nat) (ks : (j : Nat) → ((impl_PeelingOf_l0_ex.getD j (.ret, Sh.none)).2).T → Option R) (k : Nat) (x : impl_PeelingOf_l0_sh.T) : Option R :=
  impl_PeelingOf_l0 N (fun y0 y1 => ks 0 (((), y0, ()), (y1, ()))) k x.1.2.2.1 x.1.2.2.2.1 x.2.1.1 x.2.1.2.1 x.2.2.1
noncomputable def impl_PeelingOf_l0_s (N : Nat) : LSum := ⟨impl_PeelingOf_l0_sh, impl_PeelingOf_l0_ex, fun x ks => impl_PeelingOf_l0_again N ks N x⟩
theorem impl_PeelingOf_l0_step (N : Nat) (R : Type) (k : Nat) (x : impl_PeelingOf_l0_sh.T) (ks : (j : Nat) → ((impl_PeelingOf_l0_ex.getD j (.ret, Sh.none)).2).T → Option R) : impl_PeelingOf_l0_again N ks (k + 1) x = roundF (impl_PeelingOf_G N) tab [impl_PeelingOf_l0_0_s N] (loopAt impl_PeelingOf_code 0) impl_PeelingOf_l0_sh impl_PeelingOf_l0_ex (fun y => impl_PeelingOf_l0_again N ks k y) ks x := by kernel_rfl
theorem impl_PeelingOf_l0_ok (N : Nat) : LoopOk Tryz.prog Tryz.f77.ntmps (impl_PeelingOf_l0_s N) (loopAt impl_PeelingOf_code 0) :=
  loop_ok (l := impl_PeelingOf_l0_s N) progOk (impl_PeelingOf_gok N) (draw_ok progOk (impl_PeelingOf_gok N)) (fun R k x ks => impl_PeelingOf_l0_again N ks k x) (fun _ _ _ => rfl) (fun R k x ks => impl_PeelingOf_l0_step N R k x ks) (fun R x ks r h => ⟨N, h⟩) (lsOk_at (L := [impl_PeelingOf_l0_0_s N]) ⟨impl_PeelingOf_l0_0_ok N, trivial⟩) (by kernel_rfl) (by kernel_rfl)
noncomputable def impl_PeelingOf (N : Nat) (g : (Int × (List (Int × Int)))) : Option (((List Int) × Int × Bool × Unit) × (Unit)) :=
  ((impl_IsGraph N (g.1, g.2)).bind fun r =>
    (br (!r.1.1)
      (some (([], 0, false, ()), ()))
      (((impl_Graph_all N (g.1, g.2)).bind fun r1 =>
        impl_PeelingOf_l0 N (fun most o => some ((o, most, true, ()), ())) N (-1) r1.1.1 g.1 g.2 []))))
noncomputable def impl_PeelingOf_S (N : Nat) : FSum := ⟨impl_PeelingOf_ps, impl_PeelingOf_rs, fun x => impl_PeelingOf N x.1⟩
theorem impl_PeelingOf_run (N : Nat) (x : argsT impl_PeelingOf_ps) : impl_PeelingOf N x.1 = funF (impl_PeelingOf_G N) tab [impl_PeelingOf_l0_s N] Tryz.f77 impl_PeelingOf_ps impl_PeelingOf_rs x := by kernel_rfl
theorem impl_PeelingOf_pc (N : Nat) : PC Tryz.prog 77 (impl_PeelingOf_S N) := by
  have e : impl_PeelingOf_S N = ⟨impl_PeelingOf_ps, impl_PeelingOf_rs, funF (impl_PeelingOf_G N) tab [impl_PeelingOf_l0_s N] Tryz.f77 impl_PeelingOf_ps impl_PeelingOf_rs⟩ := congrArg (FSum.mk impl_PeelingOf_ps impl_PeelingOf_rs) (funext (impl_PeelingOf_run N))
  rw [e]
  exact fun_ok (c := impl_PeelingOf_code) progOk (impl_PeelingOf_gok N) (draw_ok progOk (impl_PeelingOf_gok N)) Tryz.call77 Tryz.func77 (by kernel_rfl) (lsOk_at (L := [impl_PeelingOf_l0_s N]) ⟨impl_PeelingOf_l0_ok N, trivial⟩) (by kernel_rfl) (by kernel_rfl) (by kernel_rfl) (by kernel_rfl) (by kernel_rfl)

/-! ### spec_l3Only -/
abbrev spec_l3Only_ps : List (PV.Mode × Ty) := [(.ro, LI), (.ro, LI)]
abbrev spec_l3Only_rs : List (Bool × Ty) := [(true, LI)]
noncomputable def spec_l3Only_G (N : Nat) : GTab := gOf [(136, spec_l1Has_S N)]
theorem spec_l3Only_gok (N : Nat) : GOk Tryz.prog (spec_l3Only_G N) := gOf_ok ⟨spec_l1Has_pc N, trivial⟩
noncomputable def spec_l3Only_code : Code := (Tryz.f269.body).getD .skip
noncomputable def spec_l3Only_l0_sh : Sh := ⟨[(0, .one (.ro LI)), (1, .one (.ro LI)), (5, .one (.ref 0)), (6, .one (.ro I))], [.sl 3 I .own]⟩
noncomputable def spec_l3Only_l0_ex : List (Ex × Sh) := [(.exit 0, ⟨[(5, .one (.ref 0))], [.sl 3 I .own]⟩)]
noncomputable def spec_l3Only_l0 {R : Type} (N : Nat) (k0 : (List Int) → Option R) : Nat → (List Int) → (List Int) → Int → (List Int) → Option R
  | 0, _, _, _, _ => none
  | K + 1, a1, b1, i, o =>
    (br (ilt i (tLen a1))
      ((chk (inb a1 i)
        ((spec_l1Has N b1 (rdI a1 i)).bind fun r =>
        (br (!r.1.1)
          ((chk (inb a1 i)
            (chk (room o [(rdI a1 i)])
            (spec_l3Only_l0 N k0 K a1 b1 (IntKind.i64.wrap (i + 1)) (tApp o [(rdI a1 i)])))))
          (spec_l3Only_l0 N k0 K a1 b1 (IntKind.i64.wrap (i + 1)) o)))))
      (k0 o))
noncomputable def spec_l3Only_l0_again {R : Type} (N : Nat) (ks : (j : Nat) → ((spec_l3Only_l0_ex.getD j (.ret, Sh.none)).2).T → Option R) (k : Nat) (x : spec_l3Only_l0_sh.T) : Option R :=
  spec_l3Only_l0 N (fun y0 => ks 0 (((), ()), (y0, ()))) k x.1.1 x.1.2.1 x.1.2.2.2.1 x.2.1
noncomputable def spec_l3Only_l0_s (N : Nat) : LSum := ⟨spec_l3Only_l0_sh, spec_l3Only_l0_ex, fun x ks => spec_l3Only_l0_again N ks N x⟩
theorem spec_l3Only_l0_step (N : Nat) (R : Type) (k : Nat) (x : spec_l3Only_l0_sh.T) (ks : (j : Nat) → ((spec_l3Only_l0_ex.getD j (.ret, Sh.none)).2).T → Option R) : spec_l3Only_l0_again N ks (k + 1) x = roundF (spec_l3Only_G N) tab [] (loopAt spec_l3Only_code 0) spec_l3Only_l0_sh spec_l3Only_l0_ex (fun y => spec_l3Only_l0_again N ks k y) ks x := by kernel_rfl
theorem spec_l3Only_l0_ok (N : Nat) : LoopOk Tryz.prog Tryz.f269.ntmps (spec_l3Only_l0_s N) (loopAt spec_l3Only_code 0) :=
  loop_ok (l := spec_l3Only_l0_s N) progOk (spec_l3Only_gok N) (draw_ok progOk (spec_l3Only_gok N)) (fun R k x ks => spec_l3Only_l0_again N ks k x) (fun _ _ _ => rfl) (fun R k x ks => spec_l3Only_l0_step N R k x ks) (fun R x ks r h => ⟨N, h⟩) (lsOk_at (L := []) trivial) (by kernel_rfl) (by kernel_rfl)
noncomputable def spec_l3Only (N : Nat) (a : (List Int)) (b : (List Int)) : Option (((List Int) × Unit) × (Unit)) :=
  spec_l3Only_l0 N (fun o => some ((o, ()), ())) N a b 0 []
noncomputable def spec_l3Only_S (N : Nat) : FSum := ⟨spec_l3Only_ps, spec_l3Only_rs, fun x => spec_l3Only N x.1 x.2.1⟩
theorem spec_l3Only_run (N : Nat) (x : argsT spec_l3Only_ps) : spec_l3Only N x.1 x.2.1 = funF (spec_l3Only_G N) tab [spec_l3Only_l0_s N] Tryz.f269 spec_l3Only_ps spec_l3Only_rs x := by kernel_rfl
theorem spec_l3Only_pc (N : Nat) : PC Tryz.prog 269 (spec_l3Only_S N) := by
  have e : spec_l3Only_S N = ⟨spec_l3Only_ps, spec_l3Only_rs, funF (spec_l3Only_G N) tab [spec_l3Only_l0_s N] Tryz.f269 spec_l3Only_ps spec_l3Only_rs⟩ := congrArg (FSum.mk spec_l3Only_ps spec_l3Only_rs) (funext (spec_l3Only_run N))
  rw [e]
  exact fun_ok (c := spec_l3Only_code) progOk (spec_l3Only_gok N) (draw_ok progOk (spec_l3Only_gok N)) Tryz.call269 Tryz.func269 (by kernel_rfl) (lsOk_at (L := [spec_l3Only_l0_s N]) ⟨spec_l3Only_l0_ok N, trivial⟩) (by kernel_rfl) (by kernel_rfl) (by kernel_rfl) (by kernel_rfl) (by kernel_rfl)

/-! ### spec_l1Most -/
abbrev spec_l1Most_ps : List (PV.Mode × Ty) := [(.ro, I), (.ro, I)]
abbrev spec_l1Most_rs : List (Bool × Ty) := [(true, I)]
noncomputable def spec_l1Most_G (N : Nat) : GTab := gOf []
theorem spec_l1Most_gok (N : Nat) : GOk Tryz.prog (spec_l1Most_G N) := gOf_ok trivial
noncomputable def spec_l1Most_code : Code := (Tryz.f179.body).getD .skip
noncomputable def spec_l1Most (N : Nat) (a : Int) (b : Int) : Option ((Int × Unit) × (Unit)) :=
  (br (ilt b a)
    (some ((a, ()), ()))
    (some ((b, ()), ())))
noncomputable def spec_l1Most_S (N : Nat) : FSum := ⟨spec_l1Most_ps, spec_l1Most_rs, fun x => spec_l1Most N x.1 x.2.1⟩
theorem spec_l1Most_run (N : Nat) (x : argsT spec_l1Most_ps) : spec_l1Most N x.1 x.2.1 = funF (spec_l1Most_G N) tab [] Tryz.f179 spec_l1Most_ps spec_l1Most_rs x := by kernel_rfl
theorem spec_l1Most_pc (N : Nat) : PC Tryz.prog 179 (spec_l1Most_S N) := by
  have e : spec_l1Most_S N = ⟨spec_l1Most_ps, spec_l1Most_rs, funF (spec_l1Most_G N) tab [] Tryz.f179 spec_l1Most_ps spec_l1Most_rs⟩ := congrArg (FSum.mk spec_l1Most_ps spec_l1Most_rs) (funext (spec_l1Most_run N))
  rw [e]
  exact fun_ok (c := spec_l1Most_code) progOk (spec_l1Most_gok N) (draw_ok progOk (spec_l1Most_gok N)) Tryz.call179 Tryz.func179 (by kernel_rfl) (lsOk_at (L := []) trivial) (by kernel_rfl) (by kernel_rfl) (by kernel_rfl) (by kernel_rfl) (by kernel_rfl)

/-! ### spec_l5Peeling -/
abbrev spec_l5Peeling_ps : List (PV.Mode × Ty) := [(.ro, QILQII)]
abbrev spec_l5Peeling_rs : List (Bool × Ty) := [(true, LI), (true, I)]
noncomputable def spec_l5Peeling_G (N : Nat) : GTab := gOf [(270, spec_l2Neighbors_S N), (269, spec_l3Only_S N), (136, spec_l1Has_S N), (179, spec_l1Most_S N)]
theorem spec_l5Peeling_gok (N : Nat) : GOk Tryz.prog (spec_l5Peeling_G N) := gOf_ok ⟨spec_l2Neighbors_pc N, spec_l3Only_pc N, spec_l1Has_pc N, spec_l1Most_pc N, trivial⟩
noncomputable def spec_l5Peeling_code : Code := (Tryz.f195.body).getD .skip
noncomputable def spec_l5Peeling_l0_0_sh : Sh := ⟨[(1, .one (.adr 0 0)), (4, .one (.ref 1)), (5, .one (.ro I)), (6, .one (.ro I)), (7, .one (.ro I)), (8, .one (.ro I))], [.box [.ro I, .ro LQII], .sl 3 I .own]⟩
noncomputable def spec_l5Peeling_l0_0_ex : List (Ex × Sh) := [(.exit 2, ⟨[(1, .one (.adr 0 0)), (4, .one (.ref 1)), (5, .one (.ro I)), (6, .one (.ro I)), (7, .one (.ro I))], [.box [.ro I, .ro LQII], .sl 3 I .own]⟩)]
noncomputable def spec_l5Peeling_l0_0 {R : Type} (N : Nat) (k0 : Int → Int → Int → Int → (List (Int × Int)) → (List Int) → Option R) : Nat → Int → Int → Int → Int → Int → (List (Int × Int)) → (List Int) → Option R
  | 0, _, _, _, _, _, _, _ => none
  | K + 1, most1, best, few, x, o3, o4, o5 =>
    (br (ilt x o3)
      (((spec_l2Neighbors N (o3, o4) x).bind fun r =>
        ((spec_l3Only N r.1.1 o5).bind fun r1 =>
          ((spec_l1Has N o5 x).bind fun r2 =>
            (br (!r2.1.1)
              ((br (ilt best 0)
                (spec_l5Peeling_l0_0 N k0 K most1 x (tLen r1.1.1) (IntKind.i64.wrap (x + 1)) o3 o4 o5)
                ((br (ilt (tLen r1.1.1) few)
                  (spec_l5Peeling_l0_0 N k0 K most1 x (tLen r1.1.1) (IntKind.i64.wrap (x + 1)) o3 o4 o5)
                  (spec_l5Peeling_l0_0 N k0 K most1 best few (IntKind.i64.wrap (x + 1)) o3 o4 o5)))))
              (spec_l5Peeling_l0_0 N k0 K most1 best few (IntKind.i64.wrap (x + 1)) o3 o4 o5))))))
      (k0 most1 best few o3 o4 o5))
noncomputable def spec_l5Peeling_l0_0_again {R : Type} (N : Nat) (ks : (j : Nat) → ((spec_l5Peeling_l0_0_ex.getD j (.ret, Sh.none)).2).T → Option R) (k : Nat) (x : spec_l5Peeling_l0_0_sh.T) : Option R :=
  spec_l5Peeling_l0_0 N (fun y0 y1 y2 y3 y4 y5 => ks 0 (((), (), y0, y1, y2, ()), ((y3, y4, ()), y5, ()))) k x.1.2.2.1 x.1.2.2.2.1 x.1.2.2.2.2.1 x.1.2.2.2.2.2.1 x.2.1.1 x.2.1.2.1 x.2.2.1
noncomputable def spec_l5Peeling_l0_0_s (N : Nat) : LSum := ⟨spec_l5Peeling_l0_0_sh, spec_l5Peeling_l0_0_ex, fun x ks => spec_l5Peeling_l0_0_again N ks N x⟩
theorem spec_l5Peeling_l0_0_step (N : Nat) (R : Type) (k : Nat) (x : spec_l5Peeling_l0_0_sh.T) (ks : (j : Nat) → ((spec_l5Peeling_l0_0_ex.getD j (.ret, Sh.none)).2).T → Option R) : spec_l5Peeling_l0_0_again N ks (k + 1) x = roundF (spec_l5Peeling_G N) tab [] (loopAt (loopAt spec_l5Peeling_code 0) 0) spec_l5Peeling_l0_0_sh spec_l5Peeling_l0_0_ex (fun y => spec_l5Peeling_l0_0_again N ks k y) ks x := by kernel_rfl
theorem spec_l5Peeling_l0_0_ok (N : Nat) : LoopOk Tryz.prog Tryz.f195.ntmps (spec_l5Peeling_l0_0_s N) (loopAt (loopAt spec_l5Peeling_code 0) 0) :=
  loop_ok (l := spec_l5Peeling_l0_0_s N) progOk (spec_l5Peeling_gok N) (draw_ok progOk (spec_l5Peeling_gok N)) (fun R k x ks => spec_l5Peeling_l0_0_again N ks k x) (fun _ _ _ => rfl) (fun R k x ks => spec_l5Peeling_l0_0_step N R k x ks) (fun R x ks r h => ⟨N, h⟩) (lsOk_at (L := []) trivial) (by kernel_rfl) (by kernel_rfl)
noncomputable def spec_l5Peeling_l0_sh : Sh := ⟨[(1, .one (.adr 0 0)), (4, .one (.ref 1)), (5, .one (.ro I))], [.box [.ro I, .ro LQII], .sl 3 I .own]⟩
noncomputable def spec_l5Peeling_l0_ex : List (Ex × Sh) := [(.exit 0, ⟨[(4, .one (.ref 0)), (5, .one (.ro I))], [.sl 3 I .own]⟩)]
noncomputable def spec_l5Peeling_l0 {R : Type} (N : Nat) (k0 : Int → (List Int) → Option R) : Nat → Int → Int → (List (Int × Int)) → (List Int) → Option R
  | 0, _, _, _, _ => none
  | K + 1, most, o, o1, o2 =>
    (br (ilt (tLen o2) o)
      (spec_l5Peeling_l0_0 N (fun most1 best few o3 o4 o5 => (chk (room o5 [best])
        ((spec_l1Most N most1 few).bind fun r =>
        spec_l5Peeling_l0 N k0 K r.1.1 o3 o4 (tApp o5 [best])))) N most (-1) 0 0 o o1 o2)
      (k0 most o2))
noncomputable def spec_l5Peeling_l0_again {R : Type} (N : Nat) (ks : (j : Nat) → ((spec_l5Peeling_l0_ex.getD j (.ret, Sh.none)).2).T → Option R) (k : Nat) (x : spec_l5Peeling_l0_sh.T) : Option R :=
  spec_l5Peeling_l0 N (fun y0 y1 => ks 0 (((), y0, ()), (y1, ()))) k x.1.2.2.1 x.2.1.1 x.2.1.2.1 x.2.2.1
noncomputable def spec_l5Peeling_l0_s (N : Nat) : LSum := ⟨spec_l5Peeling_l0_sh, spec_l5Peeling_l0_ex, fun x ks => spec_l5Peeling_l0_again N ks N x⟩
theorem spec_l5Peeling_l0_step (N : Nat) (R : Type) (k : Nat) (x : spec_l5Peeling_l0_sh.T) (ks : (j : Nat) → ((spec_l5Peeling_l0_ex.getD j (.ret, Sh.none)).2).T → Option R) : spec_l5Peeling_l0_again N ks (k + 1) x = roundF (spec_l5Peeling_G N) tab [spec_l5Peeling_l0_0_s N] (loopAt spec_l5Peeling_code 0) spec_l5Peeling_l0_sh spec_l5Peeling_l0_ex (fun y => spec_l5Peeling_l0_again N ks k y) ks x := by kernel_rfl
theorem spec_l5Peeling_l0_ok (N : Nat) : LoopOk Tryz.prog Tryz.f195.ntmps (spec_l5Peeling_l0_s N) (loopAt spec_l5Peeling_code 0) :=
  loop_ok (l := spec_l5Peeling_l0_s N) progOk (spec_l5Peeling_gok N) (draw_ok progOk (spec_l5Peeling_gok N)) (fun R k x ks => spec_l5Peeling_l0_again N ks k x) (fun _ _ _ => rfl) (fun R k x ks => spec_l5Peeling_l0_step N R k x ks) (fun R x ks r h => ⟨N, h⟩) (lsOk_at (L := [spec_l5Peeling_l0_0_s N]) ⟨spec_l5Peeling_l0_0_ok N, trivial⟩) (by kernel_rfl) (by kernel_rfl)
noncomputable def spec_l5Peeling (N : Nat) (g : (Int × (List (Int × Int)))) : Option (((List Int) × Int × Unit) × (Unit)) :=
  spec_l5Peeling_l0 N (fun most o => some ((o, most, ()), ())) N (-1) g.1 g.2 []
noncomputable def spec_l5Peeling_S (N : Nat) : FSum := ⟨spec_l5Peeling_ps, spec_l5Peeling_rs, fun x => spec_l5Peeling N x.1⟩
theorem spec_l5Peeling_run (N : Nat) (x : argsT spec_l5Peeling_ps) : spec_l5Peeling N x.1 = funF (spec_l5Peeling_G N) tab [spec_l5Peeling_l0_s N] Tryz.f195 spec_l5Peeling_ps spec_l5Peeling_rs x := by kernel_rfl
theorem spec_l5Peeling_pc (N : Nat) : PC Tryz.prog 195 (spec_l5Peeling_S N) := by
  have e : spec_l5Peeling_S N = ⟨spec_l5Peeling_ps, spec_l5Peeling_rs, funF (spec_l5Peeling_G N) tab [spec_l5Peeling_l0_s N] Tryz.f195 spec_l5Peeling_ps spec_l5Peeling_rs⟩ := congrArg (FSum.mk spec_l5Peeling_ps spec_l5Peeling_rs) (funext (spec_l5Peeling_run N))
  rw [e]
  exact fun_ok (c := spec_l5Peeling_code) progOk (spec_l5Peeling_gok N) (draw_ok progOk (spec_l5Peeling_gok N)) Tryz.call195 Tryz.func195 (by kernel_rfl) (lsOk_at (L := [spec_l5Peeling_l0_s N]) ⟨spec_l5Peeling_l0_ok N, trivial⟩) (by kernel_rfl) (by kernel_rfl) (by kernel_rfl) (by kernel_rfl) (by kernel_rfl)

/-! ### spec_PeelingOf -/
abbrev spec_PeelingOf_ps : List (PV.Mode × Ty) := [(.ro, QILQII)]
abbrev spec_PeelingOf_rs : List (Bool × Ty) := [(true, LI), (true, I), (true, .bool)]
noncomputable def spec_PeelingOf_G (N : Nat) : GTab := gOf [(146, spec_l2Good_S N), (195, spec_l5Peeling_S N)]
theorem spec_PeelingOf_gok (N : Nat) : GOk Tryz.prog (spec_PeelingOf_G N) := gOf_ok ⟨spec_l2Good_pc N, spec_l5Peeling_pc N, trivial⟩
noncomputable def spec_PeelingOf_code : Code := (Tryz.f78.body).getD .skip
noncomputable def spec_PeelingOf (N : Nat) (g : (Int × (List (Int × Int)))) : Option (((List Int) × Int × Bool × Unit) × (Unit)) :=
  ((spec_l2Good N (g.1, g.2)).bind fun r =>
    (br (!r.1.1)
      (some (([], 0, false, ()), ()))
      (((spec_l5Peeling N (g.1, g.2)).bind fun r1 =>
        some ((r1.1.1, r1.1.2.1, true, ()), ())))))
noncomputable def spec_PeelingOf_S (N : Nat) : FSum := ⟨spec_PeelingOf_ps, spec_PeelingOf_rs, fun x => spec_PeelingOf N x.1⟩
theorem spec_PeelingOf_run (N : Nat) (x : argsT spec_PeelingOf_ps) : spec_PeelingOf N x.1 = funF (spec_PeelingOf_G N) tab [] Tryz.f78 spec_PeelingOf_ps spec_PeelingOf_rs x := by kernel_rfl
theorem spec_PeelingOf_pc (N : Nat) : PC Tryz.prog 78 (spec_PeelingOf_S N) := by
  have e : spec_PeelingOf_S N = ⟨spec_PeelingOf_ps, spec_PeelingOf_rs, funF (spec_PeelingOf_G N) tab [] Tryz.f78 spec_PeelingOf_ps spec_PeelingOf_rs⟩ := congrArg (FSum.mk spec_PeelingOf_ps spec_PeelingOf_rs) (funext (spec_PeelingOf_run N))
  rw [e]
  exact fun_ok (c := spec_PeelingOf_code) progOk (spec_PeelingOf_gok N) (draw_ok progOk (spec_PeelingOf_gok N)) Tryz.call78 Tryz.func78 (by kernel_rfl) (lsOk_at (L := []) trivial) (by kernel_rfl) (by kernel_rfl) (by kernel_rfl) (by kernel_rfl) (by kernel_rfl)

/-! ### laws_vInts -/
abbrev laws_vInts_ps : List (PV.Mode × Ty) := [(.ro, LI), (.ro, LI)]
abbrev laws_vInts_rs : List (Bool × Ty) := [(true, .bool)]
noncomputable def laws_vInts_G (N : Nat) : GTab := gOf []
theorem laws_vInts_gok (N : Nat) : GOk Tryz.prog (laws_vInts_G N) := gOf_ok trivial
noncomputable def laws_vInts_code : Code := (Tryz.f81.body).getD .skip
noncomputable def laws_vInts_l0_sh : Sh := ⟨[(0, .one (.ro LI)), (1, .one (.ro LI)), (5, .one (.ro I))], []⟩
noncomputable def laws_vInts_l0_ex : List (Ex × Sh) := [(.ret, ⟨[(4, .one (.ro .bool))], []⟩), (.exit 0, ⟨[], []⟩)]
noncomputable def laws_vInts_l0 {R : Type} (N : Nat) (k0 : Bool → Option R) (k1 : Unit → Option R) : Nat → (List Int) → (List Int) → Int → Option R
  | 0, _, _, _ => none
  | K + 1, a1, b1, i =>
    (br (ilt i (tLen a1))
      ((chk (inb a1 i)
        (chk (inb b1 i)
        (br (ine (rdI a1 i) (rdI b1 i))
        (k0 false)
        (laws_vInts_l0 N k0 k1 K a1 b1 (IntKind.i64.wrap (i + 1)))))))
      (k1 ()))
noncomputable def laws_vInts_l0_again {R : Type} (N : Nat) (ks : (j : Nat) → ((laws_vInts_l0_ex.getD j (.ret, Sh.none)).2).T → Option R) (k : Nat) (x : laws_vInts_l0_sh.T) : Option R :=
  laws_vInts_l0 N (fun y0 => ks 0 ((y0, ()), ())) (fun (_ : Unit) => ks 1 ((), ())) k x.1.1 x.1.2.1 x.1.2.2.1
noncomputable def laws_vInts_l0_s (N : Nat) : LSum := ⟨laws_vInts_l0_sh, laws_vInts_l0_ex, fun x ks => laws_vInts_l0_again N ks N x⟩
theorem laws_vInts_l0_step (N : Nat) (R : Type) (k : Nat) (x : laws_vInts_l0_sh.T) (ks : (j : Nat) → ((laws_vInts_l0_ex.getD j (.ret, Sh.none)).2).T → Option R) : laws_vInts_l0_again N ks (k + 1) x = roundF (laws_vInts_G N) tab [] (loopAt laws_vInts_code 0) laws_vInts_l0_sh laws_vInts_l0_ex (fun y => laws_vInts_l0_again N ks k y) ks x := by kernel_rfl
theorem laws_vInts_l0_ok (N : Nat) : LoopOk Tryz.prog Tryz.f81.ntmps (laws_vInts_l0_s N) (loopAt laws_vInts_code 0) :=
  loop_ok (l := laws_vInts_l0_s N) progOk (laws_vInts_gok N) (draw_ok progOk (laws_vInts_gok N)) (fun R k x ks => laws_vInts_l0_again N ks k x) (fun _ _ _ => rfl) (fun R k x ks => laws_vInts_l0_step N R k x ks) (fun R x ks r h => ⟨N, h⟩) (lsOk_at (L := []) trivial) (by kernel_rfl) (by kernel_rfl)
noncomputable def laws_vInts (N : Nat) (a : (List Int)) (b : (List Int)) : Option ((Bool × Unit) × (Unit)) :=
  (br (ine (tLen a) (tLen b))
    (some ((false, ()), ()))
    (laws_vInts_l0 N (fun x => some ((x, ()), ())) (fun (_ : Unit) => some ((true, ()), ())) N a b 0))
noncomputable def laws_vInts_S (N : Nat) : FSum := ⟨laws_vInts_ps, laws_vInts_rs, fun x => laws_vInts N x.1 x.2.1⟩
theorem laws_vInts_run (N : Nat) (x : argsT laws_vInts_ps) : laws_vInts N x.1 x.2.1 = funF (laws_vInts_G N) tab [laws_vInts_l0_s N] Tryz.f81 laws_vInts_ps laws_vInts_rs x := by kernel_rfl
theorem laws_vInts_pc (N : Nat) : PC Tryz.prog 81 (laws_vInts_S N) := by
  have e : laws_vInts_S N = ⟨laws_vInts_ps, laws_vInts_rs, funF (laws_vInts_G N) tab [laws_vInts_l0_s N] Tryz.f81 laws_vInts_ps laws_vInts_rs⟩ := congrArg (FSum.mk laws_vInts_ps laws_vInts_rs) (funext (laws_vInts_run N))
  rw [e]
  exact fun_ok (c := laws_vInts_code) progOk (laws_vInts_gok N) (draw_ok progOk (laws_vInts_gok N)) Tryz.call81 Tryz.func81 (by kernel_rfl) (lsOk_at (L := [laws_vInts_l0_s N]) ⟨laws_vInts_l0_ok N, trivial⟩) (by kernel_rfl) (by kernel_rfl) (by kernel_rfl) (by kernel_rfl) (by kernel_rfl)

/-! ### laws_vTable -/
abbrev laws_vTable_ps : List (PV.Mode × Ty) := [(.ro, LLI), (.ro, LLI)]
abbrev laws_vTable_rs : List (Bool × Ty) := [(true, .bool)]
noncomputable def laws_vTable_G (N : Nat) : GTab := gOf [(81, laws_vInts_S N)]
theorem laws_vTable_gok (N : Nat) : GOk Tryz.prog (laws_vTable_G N) := gOf_ok ⟨laws_vInts_pc N, trivial⟩
noncomputable def laws_vTable_code : Code := (Tryz.f80.body).getD .skip
noncomputable def laws_vTable_l0_sh : Sh := ⟨[(0, .one (.ro LLI)), (1, .one (.ro LLI)), (5, .one (.ro I))], []⟩
noncomputable def laws_vTable_l0_ex : List (Ex × Sh) := [(.ret, ⟨[(4, .one (.ro .bool))], []⟩), (.exit 0, ⟨[], []⟩)]
noncomputable def laws_vTable_l0 {R : Type} (N : Nat) (k0 : Bool → Option R) (k1 : Unit → Option R) : Nat → (List (List Int)) → (List (List Int)) → Int → Option R
  | 0, _, _, _ => none
  | K + 1, a1, b1, i =>
    (br (ilt i (tLen a1))
      ((chk (inb a1 i)
        (chk (inb b1 i)
        ((laws_vInts N (rdL a1 i) (rdL b1 i)).bind fun r =>
        (br (!r.1.1)
          (k0 false)
          (laws_vTable_l0 N k0 k1 K a1 b1 (IntKind.i64.wrap (i + 1))))))))
      (k1 ()))
noncomputable def laws_vTable_l0_again {R : Type} (N : Nat) (ks : (j : Nat) → ((laws_vTable_l0_ex.getD j (.ret, Sh.none)).2).T → Option R) (k : Nat) (x : laws_vTable_l0_sh.T) : Option R :=
  laws_vTable_l0 N (fun y0 => ks 0 ((y0, ()), ())) (fun (_ : Unit) => ks 1 ((), ())) k x.1.1 x.1.2.1 x.1.2.2.1
noncomputable def laws_vTable_l0_s (N : Nat) : LSum := ⟨laws_vTable_l0_sh, laws_vTable_l0_ex, fun x ks => laws_vTable_l0_again N ks N x⟩
theorem laws_vTable_l0_step (N : Nat) (R : Type) (k : Nat) (x : laws_vTable_l0_sh.T) (ks : (j : Nat) → ((laws_vTable_l0_ex.getD j (.ret, Sh.none)).2).T → Option R) : laws_vTable_l0_again N ks (k + 1) x = roundF (laws_vTable_G N) tab [] (loopAt laws_vTable_code 0) laws_vTable_l0_sh laws_vTable_l0_ex (fun y => laws_vTable_l0_again N ks k y) ks x := by kernel_rfl
theorem laws_vTable_l0_ok (N : Nat) : LoopOk Tryz.prog Tryz.f80.ntmps (laws_vTable_l0_s N) (loopAt laws_vTable_code 0) :=
  loop_ok (l := laws_vTable_l0_s N) progOk (laws_vTable_gok N) (draw_ok progOk (laws_vTable_gok N)) (fun R k x ks => laws_vTable_l0_again N ks k x) (fun _ _ _ => rfl) (fun R k x ks => laws_vTable_l0_step N R k x ks) (fun R x ks r h => ⟨N, h⟩) (lsOk_at (L := []) trivial) (by kernel_rfl) (by kernel_rfl)
noncomputable def laws_vTable (N : Nat) (a : (List (List Int))) (b : (List (List Int))) : Option ((Bool × Unit) × (Unit)) :=
  (br (ine (tLen a) (tLen b))
    (some ((false, ()), ()))
    (laws_vTable_l0 N (fun x => some ((x, ()), ())) (fun (_ : Unit) => some ((true, ()), ())) N a b 0))
noncomputable def laws_vTable_S (N : Nat) : FSum := ⟨laws_vTable_ps, laws_vTable_rs, fun x => laws_vTable N x.1 x.2.1⟩
theorem laws_vTable_run (N : Nat) (x : argsT laws_vTable_ps) : laws_vTable N x.1 x.2.1 = funF (laws_vTable_G N) tab [laws_vTable_l0_s N] Tryz.f80 laws_vTable_ps laws_vTable_rs x := by kernel_rfl
theorem laws_vTable_pc (N : Nat) : PC Tryz.prog 80 (laws_vTable_S N) := by
  have e : laws_vTable_S N = ⟨laws_vTable_ps, laws_vTable_rs, funF (laws_vTable_G N) tab [laws_vTable_l0_s N] Tryz.f80 laws_vTable_ps laws_vTable_rs⟩ := congrArg (FSum.mk laws_vTable_ps laws_vTable_rs) (funext (laws_vTable_run N))
  rw [e]
  exact fun_ok (c := laws_vTable_code) progOk (laws_vTable_gok N) (draw_ok progOk (laws_vTable_gok N)) Tryz.call80 Tryz.func80 (by kernel_rfl) (lsOk_at (L := [laws_vTable_l0_s N]) ⟨laws_vTable_l0_ok N, trivial⟩) (by kernel_rfl) (by kernel_rfl) (by kernel_rfl) (by kernel_rfl) (by kernel_rfl)

/-! ### laws_vPairs -/
abbrev laws_vPairs_ps : List (PV.Mode × Ty) := [(.ro, LQII), (.ro, LQII)]
abbrev laws_vPairs_rs : List (Bool × Ty) := [(true, .bool)]
noncomputable def laws_vPairs_G (N : Nat) : GTab := gOf []
theorem laws_vPairs_gok (N : Nat) : GOk Tryz.prog (laws_vPairs_G N) := gOf_ok trivial
noncomputable def laws_vPairs_code : Code := (Tryz.f196.body).getD .skip
noncomputable def laws_vPairs_l0_sh : Sh := ⟨[(0, .one (.ro LQII)), (1, .one (.ro LQII)), (5, .one (.ro I))], []⟩
noncomputable def laws_vPairs_l0_ex : List (Ex × Sh) := [(.ret, ⟨[(4, .one (.ro .bool))], []⟩), (.exit 0, ⟨[], []⟩)]
noncomputable def laws_vPairs_l0 {R : Type} (N : Nat) (k0 : Bool → Option R) (k1 : Unit → Option R) : Nat → (List (Int × Int)) → (List (Int × Int)) → Int → Option R
  | 0, _, _, _ => none
  | K + 1, a1, b1, i =>
    (br (ilt i (tLen a1))
      ((chk (inb a1 i)
        (chk (inb b1 i)
        (br (!(ieq ((rdP a1 i).1) ((rdP b1 i).1) && ieq ((rdP a1 i).2) ((rdP b1 i).2)))
        (k0 false)
        (laws_vPairs_l0 N k0 k1 K a1 b1 (IntKind.i64.wrap (i + 1)))))))
      (k1 ()))
noncomputable def laws_vPairs_l0_again {R : Type} (N : Nat) (ks : (j : Nat) → ((laws_vPairs_l0_ex.getD j (.ret, Sh.none)).2).T → Option R) (k : Nat) (x : laws_vPairs_l0_sh.T) : Option R :=
  laws_vPairs_l0 N (fun y0 => ks 0 ((y0, ()), ())) (fun (_ : Unit) => ks 1 ((), ())) k x.1.1 x.1.2.1 x.1.2.2.1
noncomputable def laws_vPairs_l0_s (N : Nat) : LSum := ⟨laws_vPairs_l0_sh, laws_vPairs_l0_ex, fun x ks => laws_vPairs_l0_again N ks N x⟩
theorem laws_vPairs_l0_step (N : Nat) (R : Type) (k : Nat) (x : laws_vPairs_l0_sh.T) (ks : (j : Nat) → ((laws_vPairs_l0_ex.getD j (.ret, Sh.none)).2).T → Option R) : laws_vPairs_l0_again N ks (k + 1) x = roundF (laws_vPairs_G N) tab [] (loopAt laws_vPairs_code 0) laws_vPairs_l0_sh laws_vPairs_l0_ex (fun y => laws_vPairs_l0_again N ks k y) ks x := by kernel_rfl
theorem laws_vPairs_l0_ok (N : Nat) : LoopOk Tryz.prog Tryz.f196.ntmps (laws_vPairs_l0_s N) (loopAt laws_vPairs_code 0) :=
  loop_ok (l := laws_vPairs_l0_s N) progOk (laws_vPairs_gok N) (draw_ok progOk (laws_vPairs_gok N)) (fun R k x ks => laws_vPairs_l0_again N ks k x) (fun _ _ _ => rfl) (fun R k x ks => laws_vPairs_l0_step N R k x ks) (fun R x ks r h => ⟨N, h⟩) (lsOk_at (L := []) trivial) (by kernel_rfl) (by kernel_rfl)
noncomputable def laws_vPairs (N : Nat) (a : (List (Int × Int))) (b : (List (Int × Int))) : Option ((Bool × Unit) × (Unit)) :=
  (br (ine (tLen a) (tLen b))
    (some ((false, ()), ()))
    (laws_vPairs_l0 N (fun x => some ((x, ()), ())) (fun (_ : Unit) => some ((true, ()), ())) N a b 0))
noncomputable def laws_vPairs_S (N : Nat) : FSum := ⟨laws_vPairs_ps, laws_vPairs_rs, fun x => laws_vPairs N x.1 x.2.1⟩
theorem laws_vPairs_run (N : Nat) (x : argsT laws_vPairs_ps) : laws_vPairs N x.1 x.2.1 = funF (laws_vPairs_G N) tab [laws_vPairs_l0_s N] Tryz.f196 laws_vPairs_ps laws_vPairs_rs x := by kernel_rfl
theorem laws_vPairs_pc (N : Nat) : PC Tryz.prog 196 (laws_vPairs_S N) := by
  have e : laws_vPairs_S N = ⟨laws_vPairs_ps, laws_vPairs_rs, funF (laws_vPairs_G N) tab [laws_vPairs_l0_s N] Tryz.f196 laws_vPairs_ps laws_vPairs_rs⟩ := congrArg (FSum.mk laws_vPairs_ps laws_vPairs_rs) (funext (laws_vPairs_run N))
  rw [e]
  exact fun_ok (c := laws_vPairs_code) progOk (laws_vPairs_gok N) (draw_ok progOk (laws_vPairs_gok N)) Tryz.call196 Tryz.func196 (by kernel_rfl) (lsOk_at (L := [laws_vPairs_l0_s N]) ⟨laws_vPairs_l0_ok N, trivial⟩) (by kernel_rfl) (by kernel_rfl) (by kernel_rfl) (by kernel_rfl) (by kernel_rfl)

/-! ### laws_vSpace -/
abbrev laws_vSpace_ps : List (PV.Mode × Ty) := [(.ro, QLLILQII), (.ro, QLLILQII)]
abbrev laws_vSpace_rs : List (Bool × Ty) := [(true, .bool)]
noncomputable def laws_vSpace_G (N : Nat) : GTab := gOf [(80, laws_vTable_S N), (196, laws_vPairs_S N)]
theorem laws_vSpace_gok (N : Nat) : GOk Tryz.prog (laws_vSpace_G N) := gOf_ok ⟨laws_vTable_pc N, laws_vPairs_pc N, trivial⟩
noncomputable def laws_vSpace_code : Code := (Tryz.f79.body).getD .skip
noncomputable def laws_vSpace (N : Nat) (a : ((List (List Int)) × (List (Int × Int)))) (b : ((List (List Int)) × (List (Int × Int)))) : Option ((Bool × Unit) × (Unit)) :=
  ((laws_vTable N a.1 b.1).bind fun r =>
    (br r.1.1
      (((laws_vPairs N a.2 b.2).bind fun r1 =>
        some ((r1.1.1, ()), ())))
      (some ((false, ()), ()))))
noncomputable def laws_vSpace_S (N : Nat) : FSum := ⟨laws_vSpace_ps, laws_vSpace_rs, fun x => laws_vSpace N x.1 x.2.1⟩
theorem laws_vSpace_run (N : Nat) (x : argsT laws_vSpace_ps) : laws_vSpace N x.1 x.2.1 = funF (laws_vSpace_G N) tab [] Tryz.f79 laws_vSpace_ps laws_vSpace_rs x := by kernel_rfl
theorem laws_vSpace_pc (N : Nat) : PC Tryz.prog 79 (laws_vSpace_S N) := by
  have e : laws_vSpace_S N = ⟨laws_vSpace_ps, laws_vSpace_rs, funF (laws_vSpace_G N) tab [] Tryz.f79 laws_vSpace_ps laws_vSpace_rs⟩ := congrArg (FSum.mk laws_vSpace_ps laws_vSpace_rs) (funext (laws_vSpace_run N))
  rw [e]
  exact fun_ok (c := laws_vSpace_code) progOk (laws_vSpace_gok N) (draw_ok progOk (laws_vSpace_gok N)) Tryz.call79 Tryz.func79 (by kernel_rfl) (lsOk_at (L := []) trivial) (by kernel_rfl) (by kernel_rfl) (by kernel_rfl) (by kernel_rfl) (by kernel_rfl)

/-! ### impl_isState_c1 -/
abbrev impl_isState_c1_ps : List (PV.Mode × Ty) := [(.ro, I)]
abbrev impl_isState_c1_rs : List (Bool × Ty) := [(true, .bool)]
noncomputable def impl_isState_c1_G (N : Nat) : GTab := gOf [(204, impl_between_S N)]
theorem impl_isState_c1_gok (N : Nat) : GOk Tryz.prog (impl_isState_c1_G N) := gOf_ok ⟨impl_between_pc N, trivial⟩
noncomputable def impl_isState_c1_code : Code := (Tryz.f300.body).getD .skip
noncomputable def impl_isState_c1 (N : Nat) (n : Int) : Option ((Bool × Unit) × (Unit)) :=
  ((impl_between N n (-99) 99).bind fun r =>
    some (((!r.1.1), ()), ()))
noncomputable def impl_isState_c1_S (N : Nat) : FSum := ⟨impl_isState_c1_ps, impl_isState_c1_rs, fun x => impl_isState_c1 N x.1⟩
theorem impl_isState_c1_run (N : Nat) (x : argsT impl_isState_c1_ps) : impl_isState_c1 N x.1 = funF (impl_isState_c1_G N) tab [] Tryz.f300 impl_isState_c1_ps impl_isState_c1_rs x := by kernel_rfl
theorem impl_isState_c1_pc (N : Nat) : PC Tryz.prog 300 (impl_isState_c1_S N) := by
  have e : impl_isState_c1_S N = ⟨impl_isState_c1_ps, impl_isState_c1_rs, funF (impl_isState_c1_G N) tab [] Tryz.f300 impl_isState_c1_ps impl_isState_c1_rs⟩ := congrArg (FSum.mk impl_isState_c1_ps impl_isState_c1_rs) (funext (impl_isState_c1_run N))
  rw [e]
  exact fun_ok (c := impl_isState_c1_code) progOk (impl_isState_c1_gok N) (draw_ok progOk (impl_isState_c1_gok N)) Tryz.call300 Tryz.func300 (by kernel_rfl) (lsOk_at (L := []) trivial) (by kernel_rfl) (by kernel_rfl) (by kernel_rfl) (by kernel_rfl) (by kernel_rfl)

/-! ### impl_isState -/
abbrev impl_isState_ps : List (PV.Mode × Ty) := [(.ro, LI)]
abbrev impl_isState_rs : List (Bool × Ty) := [(true, .bool)]
noncomputable def impl_isState_G (N : Nat) : GTab := gOf [(264, slices_ContainsFunc_LI_int_S N), (300, impl_isState_c1_S N)]
theorem impl_isState_gok (N : Nat) : GOk Tryz.prog (impl_isState_G N) := gOf_ok ⟨slices_ContainsFunc_LI_int_pc N, impl_isState_c1_pc N, trivial⟩
noncomputable def impl_isState_code : Code := (Tryz.f250.body).getD .skip
noncomputable def impl_isState (N : Nat) (state : (List Int)) : Option ((Bool × Unit) × (Unit)) :=
  (br (ile (tLen state) 24)
    (((slices_ContainsFunc_LI_int N state (fun y0 => (impl_isState_c1 N y0).bind fun z => some z.1.1)).bind fun r =>
      some (((!r.1.1), ()), ())))
    (some ((false, ()), ())))
noncomputable def impl_isState_S (N : Nat) : FSum := ⟨impl_isState_ps, impl_isState_rs, fun x => impl_isState N x.1⟩
theorem impl_isState_run (N : Nat) (x : argsT impl_isState_ps) : impl_isState N x.1 = funF (impl_isState_G N) tab [] Tryz.f250 impl_isState_ps impl_isState_rs x := by kernel_rfl
theorem impl_isState_pc (N : Nat) : PC Tryz.prog 250 (impl_isState_S N) := by
  have e : impl_isState_S N = ⟨impl_isState_ps, impl_isState_rs, funF (impl_isState_G N) tab [] Tryz.f250 impl_isState_ps impl_isState_rs⟩ := congrArg (FSum.mk impl_isState_ps impl_isState_rs) (funext (impl_isState_run N))
  rw [e]
  exact fun_ok (c := impl_isState_code) progOk (impl_isState_gok N) (draw_ok progOk (impl_isState_gok N)) Tryz.call250 Tryz.func250 (by kernel_rfl) (lsOk_at (L := []) trivial) (by kernel_rfl) (by kernel_rfl) (by kernel_rfl) (by kernel_rfl) (by kernel_rfl)

/-! ### impl_IsSpace -/
abbrev impl_IsSpace_ps : List (PV.Mode × Ty) := [(.ro, QLLILQII)]
abbrev impl_IsSpace_rs : List (Bool × Ty) := [(true, .bool)]
noncomputable def impl_IsSpace_G (N : Nat) : GTab := gOf [(250, impl_isState_S N), (166, slices_Compare_LI_int_S N), (232, impl_isPairs_S N)]
theorem impl_IsSpace_gok (N : Nat) : GOk Tryz.prog (impl_IsSpace_G N) := gOf_ok ⟨impl_isState_pc N, slices_Compare_LI_int_pc N, impl_isPairs_pc N, trivial⟩
noncomputable def impl_IsSpace_code : Code := (Tryz.f163.body).getD .skip
noncomputable def impl_IsSpace_l0_sh : Sh := ⟨[(1, .one (.adr 0 0)), (16, .one (.ro LLI)), (17, .one (.ro I)), (18, .one (.ro I))], [.box [.ro LLI, .ro LQII]]⟩
noncomputable def impl_IsSpace_l0_ex : List (Ex × Sh) := [(.ret, ⟨[(2, .one (.ro .bool))], []⟩), (.exit 0, ⟨[(1, .one (.adr 0 0))], [.box [.ro LLI, .ro LQII]]⟩)]
noncomputable def impl_IsSpace_l0 {R : Type} (N : Nat) (k0 : Bool → Option R) (k1 : (List (List Int)) → (List (Int × Int)) → Option R) : Nat → (List (List Int)) → Int → Int → (List (List Int)) → (List (Int × Int)) → Option R
  | 0, _, _, _, _, _ => none
  | K + 1, x1, x2, x3, o, o1 =>
    (br (ilt x3 x2)
      ((chk (inb x1 x3)
        ((impl_isState N (rdL x1 x3)).bind fun r =>
        (br (!r.1.1)
          (k0 false)
          ((br (ilt 0 x3)
            ((chk (inb o (IntKind.i64.wrap (x3 - 1)))
              ((slices_Compare_LI_int N (rdL o (IntKind.i64.wrap (x3 - 1))) (rdL x1 x3)).bind fun r1 =>
              (br (ile 0 r1.1.1)
                (k0 false)
                (impl_IsSpace_l0 N k0 k1 K x1 x2 (IntKind.i64.wrap (x3 + 1)) o o1)))))
            (impl_IsSpace_l0 N k0 k1 K x1 x2 (IntKind.i64.wrap (x3 + 1)) o o1)))))))
      (k1 o o1))
noncomputable def impl_IsSpace_l0_again {R : Type} (N : Nat) (ks : (j : Nat) → ((impl_IsSpace_l0_ex.getD j (.ret, Sh.none)).2).T → Option R) (k : Nat) (x : impl_IsSpace_l0_sh.T) : Option R :=
  impl_IsSpace_l0 N (fun y0 => ks 0 ((y0, ()), ())) (fun y0 y1 => ks 1 (((), ()), ((y0, y1, ()), ()))) k x.1.2.1 x.1.2.2.1 x.1.2.2.2.1 x.2.1.1 x.2.1.2.1
noncomputable def impl_IsSpace_l0_s (N : Nat) : LSum := ⟨impl_IsSpace_l0_sh, impl_IsSpace_l0_ex, fun x ks => impl_IsSpace_l0_again N ks N x⟩
theorem impl_IsSpace_l0_step (N : Nat) (R : Type) (k : Nat) (x : impl_IsSpace_l0_sh.T) (ks : (j : Nat) → ((impl_IsSpace_l0_ex.getD j (.ret, Sh.none)).2).T → Option R) : impl_IsSpace_l0_again N ks (k + 1) x = roundF (impl_IsSpace_G N) tab [] (loopAt impl_IsSpace_code 0) impl_IsSpace_l0_sh impl_IsSpace_l0_ex (fun y => impl_IsSpace_l0_again N ks k y) ks x := by kernel_rfl
theorem impl_IsSpace_l0_ok (N : Nat) : LoopOk Tryz.prog Tryz.f163.ntmps (impl_IsSpace_l0_s N) (loopAt impl_IsSpace_code 0) :=
  loop_ok (l := impl_IsSpace_l0_s N) progOk (impl_IsSpace_gok N) (draw_ok progOk (impl_IsSpace_gok N)) (fun R k x ks => impl_IsSpace_l0_again N ks k x) (fun _ _ _ => rfl) (fun R k x ks => impl_IsSpace_l0_step N R k x ks) (fun R x ks r h => ⟨N, h⟩) (lsOk_at (L := []) trivial) (by kernel_rfl) (by kernel_rfl)
noncomputable def impl_IsSpace (N : Nat) (x : ((List (List Int)) × (List (Int × Int)))) : Option ((Bool × Unit) × (Unit)) :=
  (br (ilt 300 (tLen x.1))
    (some ((false, ()), ()))
    ((br (ilt 6000 (tLen x.2))
      (some ((false, ()), ()))
      (impl_IsSpace_l0 N (fun x1 => some ((x1, ()), ())) (fun o o1 => ((impl_isPairs N o1 (tLen o)).bind fun r =>
        some ((r.1.1, ()), ()))) N x.1 (tLen x.1) 0 x.1 x.2))))
noncomputable def impl_IsSpace_S (N : Nat) : FSum := ⟨impl_IsSpace_ps, impl_IsSpace_rs, fun x => impl_IsSpace N x.1⟩
theorem impl_IsSpace_run (N : Nat) (x : argsT impl_IsSpace_ps) : impl_IsSpace N x.1 = funF (impl_IsSpace_G N) tab [impl_IsSpace_l0_s N] Tryz.f163 impl_IsSpace_ps impl_IsSpace_rs x := by kernel_rfl
theorem impl_IsSpace_pc (N : Nat) : PC Tryz.prog 163 (impl_IsSpace_S N) := by
  have e : impl_IsSpace_S N = ⟨impl_IsSpace_ps, impl_IsSpace_rs, funF (impl_IsSpace_G N) tab [impl_IsSpace_l0_s N] Tryz.f163 impl_IsSpace_ps impl_IsSpace_rs⟩ := congrArg (FSum.mk impl_IsSpace_ps impl_IsSpace_rs) (funext (impl_IsSpace_run N))
  rw [e]
  exact fun_ok (c := impl_IsSpace_code) progOk (impl_IsSpace_gok N) (draw_ok progOk (impl_IsSpace_gok N)) Tryz.call163 Tryz.func163 (by kernel_rfl) (lsOk_at (L := [impl_IsSpace_l0_s N]) ⟨impl_IsSpace_l0_ok N, trivial⟩) (by kernel_rfl) (by kernel_rfl) (by kernel_rfl) (by kernel_rfl) (by kernel_rfl)

/-! ### impl_Space_roads -/
abbrev impl_Space_roads_ps : List (PV.Mode × Ty) := [(.ro, QLLILQII)]
abbrev impl_Space_roads_rs : List (Bool × Ty) := [(true, LLI)]
noncomputable def impl_Space_roads_G (N : Nat) : GTab := gOf [(260, slices_Sort_LI_int_S N)]
theorem impl_Space_roads_gok (N : Nat) : GOk Tryz.prog (impl_Space_roads_G N) := gOf_ok ⟨slices_Sort_LI_int_pc N, trivial⟩
noncomputable def impl_Space_roads_code : Code := (Tryz.f182.body).getD .skip
noncomputable def impl_Space_roads_l0_sh : Sh := ⟨[(3, .one (.ref 0)), (13, .one (.ro LQII)), (14, .one (.ro I)), (15, .one (.ro I))], [.sl 25 LI .deep]⟩
noncomputable def impl_Space_roads_l0_ex : List (Ex × Sh) := [(.exit 0, ⟨[(3, .one (.ref 0))], [.sl 25 LI .deep]⟩)]
noncomputable def impl_Space_roads_l0 {R : Type} (N : Nat) (k0 : (List (List Int)) → Option R) : Nat → (List (Int × Int)) → Int → Int → (List (List Int)) → Option R
  | 0, _, _, _, _ => none
  | K + 1, x1, x2, x3, o =>
    (br (ilt x3 x2)
      ((chk (inb x1 x3)
        (chk (inb o ((rdP x1 x3).1))
        (chk (room (rdL o ((rdP x1 x3).1)) [(rdP x1 x3).2])
        (chk (inb o ((rdP x1 x3).1))
        (chk (ieq ((rdP x1 x3).1) ((rdP x1 x3).1))
        (chk (inb (tSet o ((rdP x1 x3).1) (tApp (rdL o ((rdP x1 x3).1)) [(rdP x1 x3).2])) ((rdP x1 x3).2))
        (chk (room (rdL (tSet o ((rdP x1 x3).1) (tApp (rdL o ((rdP x1 x3).1)) [(rdP x1 x3).2])) ((rdP x1 x3).2)) [(rdP x1 x3).1])
        (chk (inb (tSet o ((rdP x1 x3).1) (tApp (rdL o ((rdP x1 x3).1)) [(rdP x1 x3).2])) ((rdP x1 x3).2))
        (chk (ieq ((rdP x1 x3).2) ((rdP x1 x3).2))
        (impl_Space_roads_l0 N k0 K x1 x2 (IntKind.i64.wrap (x3 + 1)) (tSet (tSet o ((rdP x1 x3).1) (tApp (rdL o ((rdP x1 x3).1)) [(rdP x1 x3).2])) ((rdP x1 x3).2) (tApp (rdL (tSet o ((rdP x1 x3).1) (tApp (rdL o ((rdP x1 x3).1)) [(rdP x1 x3).2])) ((rdP x1 x3).2)) [(rdP x1 x3).1])))))))))))))
      (k0 o))
noncomputable def impl_Space_roads_l0_again {R : Type} (N : Nat) (ks : (j : Nat) → ((impl_Space_roads_l0_ex.getD j (.ret, Sh.none)).2).T → Option R) (k : Nat) (x : impl_Space_roads_l0_sh.T) : Option R :=
  impl_Space_roads_l0 N (fun y0 => ks 0 (((), ()), (y0, ()))) k x.1.2.1 x.1.2.2.1 x.1.2.2.2.1 x.2.1
noncomputable def impl_Space_roads_l0_s (N : Nat) : LSum := ⟨impl_Space_roads_l0_sh, impl_Space_roads_l0_ex, fun x ks => impl_Space_roads_l0_again N ks N x⟩
theorem impl_Space_roads_l0_step (N : Nat) (R : Type) (k : Nat) (x : impl_Space_roads_l0_sh.T) (ks : (j : Nat) → ((impl_Space_roads_l0_ex.getD j (.ret, Sh.none)).2).T → Option R) : impl_Space_roads_l0_again N ks (k + 1) x = roundF (impl_Space_roads_G N) tab [] (loopAt impl_Space_roads_code 0) impl_Space_roads_l0_sh impl_Space_roads_l0_ex (fun y => impl_Space_roads_l0_again N ks k y) ks x := by kernel_rfl
theorem impl_Space_roads_l0_ok (N : Nat) : LoopOk Tryz.prog Tryz.f182.ntmps (impl_Space_roads_l0_s N) (loopAt impl_Space_roads_code 0) :=
  loop_ok (l := impl_Space_roads_l0_s N) progOk (impl_Space_roads_gok N) (draw_ok progOk (impl_Space_roads_gok N)) (fun R k x ks => impl_Space_roads_l0_again N ks k x) (fun _ _ _ => rfl) (fun R k x ks => impl_Space_roads_l0_step N R k x ks) (fun R x ks r h => ⟨N, h⟩) (lsOk_at (L := []) trivial) (by kernel_rfl) (by kernel_rfl)
noncomputable def impl_Space_roads_l1_sh : Sh := ⟨[(3, .one (.ref 0)), (46, .one (.ref 0)), (47, .one (.ro I)), (48, .one (.ro I))], [.sl 25 LI .deep]⟩
noncomputable def impl_Space_roads_l1_ex : List (Ex × Sh) := [(.exit 2, ⟨[(3, .one (.ref 0))], [.sl 25 LI .deep]⟩)]
noncomputable def impl_Space_roads_l1 {R : Type} (N : Nat) (k0 : (List (List Int)) → Option R) : Nat → Int → Int → (List (List Int)) → Option R
  | 0, _, _, _ => none
  | K + 1, x1, x2, o1 =>
    (br (ilt x2 x1)
      ((chk (inb o1 x2)
        ((slices_Sort_LI_int N (rdL o1 x2)).bind fun r =>
        impl_Space_roads_l1 N k0 K x1 (IntKind.i64.wrap (x2 + 1)) (tSet o1 x2 r.2.1))))
      (k0 o1))
noncomputable def impl_Space_roads_l1_again {R : Type} (N : Nat) (ks : (j : Nat) → ((impl_Space_roads_l1_ex.getD j (.ret, Sh.none)).2).T → Option R) (k : Nat) (x : impl_Space_roads_l1_sh.T) : Option R :=
  impl_Space_roads_l1 N (fun y0 => ks 0 (((), ()), (y0, ()))) k x.1.2.2.1 x.1.2.2.2.1 x.2.1
noncomputable def impl_Space_roads_l1_s (N : Nat) : LSum := ⟨impl_Space_roads_l1_sh, impl_Space_roads_l1_ex, fun x ks => impl_Space_roads_l1_again N ks N x⟩
theorem impl_Space_roads_l1_step (N : Nat) (R : Type) (k : Nat) (x : impl_Space_roads_l1_sh.T) (ks : (j : Nat) → ((impl_Space_roads_l1_ex.getD j (.ret, Sh.none)).2).T → Option R) : impl_Space_roads_l1_again N ks (k + 1) x = roundF (impl_Space_roads_G N) tab [] (loopAt impl_Space_roads_code 1) impl_Space_roads_l1_sh impl_Space_roads_l1_ex (fun y => impl_Space_roads_l1_again N ks k y) ks x := by kernel_rfl
theorem impl_Space_roads_l1_ok (N : Nat) : LoopOk Tryz.prog Tryz.f182.ntmps (impl_Space_roads_l1_s N) (loopAt impl_Space_roads_code 1) :=
  loop_ok (l := impl_Space_roads_l1_s N) progOk (impl_Space_roads_gok N) (draw_ok progOk (impl_Space_roads_gok N)) (fun R k x ks => impl_Space_roads_l1_again N ks k x) (fun _ _ _ => rfl) (fun R k x ks => impl_Space_roads_l1_step N R k x ks) (fun R x ks r h => ⟨N, h⟩) (lsOk_at (L := []) trivial) (by kernel_rfl) (by kernel_rfl)
noncomputable def impl_Space_roads (N : Nat) (x : ((List (List Int)) × (List (Int × Int)))) : Option (((List (List Int)) × Unit) × (Unit)) :=
  (chk (ile 0 (tLen x.1) && ile (tLen x.1) (tLen x.1) && fits (tLen x.1))
    (impl_Space_roads_l0 N (fun o => impl_Space_roads_l1 N (fun o1 => some ((o1, ()), ())) N (tLen o) 0 o) N x.2 (tLen x.2) 0 (tRep (tLen x.1) [])))
noncomputable def impl_Space_roads_S (N : Nat) : FSum := ⟨impl_Space_roads_ps, impl_Space_roads_rs, fun x => impl_Space_roads N x.1⟩
theorem impl_Space_roads_run (N : Nat) (x : argsT impl_Space_roads_ps) : impl_Space_roads N x.1 = funF (impl_Space_roads_G N) tab [impl_Space_roads_l0_s N, impl_Space_roads_l1_s N] Tryz.f182 impl_Space_roads_ps impl_Space_roads_rs x := by kernel_rfl
theorem impl_Space_roads_pc (N : Nat) : PC Tryz.prog 182 (impl_Space_roads_S N) := by
  have e : impl_Space_roads_S N = ⟨impl_Space_roads_ps, impl_Space_roads_rs, funF (impl_Space_roads_G N) tab [impl_Space_roads_l0_s N, impl_Space_roads_l1_s N] Tryz.f182 impl_Space_roads_ps impl_Space_roads_rs⟩ := congrArg (FSum.mk impl_Space_roads_ps impl_Space_roads_rs) (funext (impl_Space_roads_run N))
  rw [e]
  exact fun_ok (c := impl_Space_roads_code) progOk (impl_Space_roads_gok N) (draw_ok progOk (impl_Space_roads_gok N)) Tryz.call182 Tryz.func182 (by kernel_rfl) (lsOk_at (L := [impl_Space_roads_l0_s N, impl_Space_roads_l1_s N]) ⟨impl_Space_roads_l0_ok N, impl_Space_roads_l1_ok N, trivial⟩) (by kernel_rfl) (by kernel_rfl) (by kernel_rfl) (by kernel_rfl) (by kernel_rfl)

/-! ### impl_parts -/
abbrev impl_parts_ps : List (PV.Mode × Ty) := [(.ro, LLI), (.ro, I)]
abbrev impl_parts_rs : List (Bool × Ty) := [(true, LLI)]
noncomputable def impl_parts_G (N : Nat) : GTab := gOf [(260, slices_Sort_LI_int_S N)]
theorem impl_parts_gok (N : Nat) : GOk Tryz.prog (impl_parts_G N) := gOf_ok ⟨slices_Sort_LI_int_pc N, trivial⟩
noncomputable def impl_parts_code : Code := (Tryz.f181.body).getD .skip
noncomputable def impl_parts_l0_0_0_sh : Sh := ⟨[(0, .one (.ro LLI)), (5, .one (.ref 0)), (6, .one (.ref 1)), (8, .one (.ref 2)), (9, .one (.ro I)), (22, .one (.ro I)), (23, .one (.ro I)), (47, .one (.ro LI)), (48, .one (.ro I)), (49, .one (.ro I))], [.sl 25 LI .deep, .sl 4 .bool .own, .sl 3 I .own]⟩
noncomputable def impl_parts_l0_0_0_ex : List (Ex × Sh) := [(.exit 4, ⟨[(0, .one (.ro LLI)), (5, .one (.ref 0)), (6, .one (.ref 1)), (8, .one (.ref 2)), (9, .one (.ro I)), (22, .one (.ro I)), (23, .one (.ro I))], [.sl 25 LI .deep, .sl 4 .bool .own, .sl 3 I .own]⟩)]
noncomputable def impl_parts_l0_0_0 {R : Type} (N : Nat) (k0 : (List (List Int)) → Int → Int → Int → (List (List Int)) → (List Bool) → (List Int) → Option R) : Nat → (List (List Int)) → Int → Int → Int → (List Int) → Int → Int → (List (List Int)) → (List Bool) → (List Int) → Option R
  | 0, _, _, _, _, _, _, _, _, _, _ => none
  | K + 1, x7, x8, x9, x10, x11, x12, x13, o5, o6, o7 =>
    (br (ilt x13 x12)
      ((chk (inb x11 x13)
        (chk (inb o6 (rdI x11 x13))
        (br (!(rdB o6 (rdI x11 x13)))
        ((chk (inb o6 (rdI x11 x13))
          (chk (room o7 [(rdI x11 x13)])
          (impl_parts_l0_0_0 N k0 K x7 x8 x9 x10 x11 x12 (IntKind.i64.wrap (x13 + 1)) o5 (tSet o6 (rdI x11 x13) true) (tApp o7 [(rdI x11 x13)])))))
        (impl_parts_l0_0_0 N k0 K x7 x8 x9 x10 x11 x12 (IntKind.i64.wrap (x13 + 1)) o5 o6 o7)))))
      (k0 x7 x8 x9 x10 o5 o6 o7))
noncomputable def impl_parts_l0_0_0_again {R : Type} (N : Nat) (ks : (j : Nat) → ((impl_parts_l0_0_0_ex.getD j (.ret, Sh.none)).2).T → Option R) (k : Nat) (x : impl_parts_l0_0_0_sh.T) : Option R :=
  impl_parts_l0_0_0 N (fun y0 y1 y2 y3 y4 y5 y6 => ks 0 ((y0, (), (), (), y1, y2, y3, ()), (y4, y5, y6, ()))) k x.1.1 x.1.2.2.2.2.1 x.1.2.2.2.2.2.1 x.1.2.2.2.2.2.2.1 x.1.2.2.2.2.2.2.2.1 x.1.2.2.2.2.2.2.2.2.1 x.1.2.2.2.2.2.2.2.2.2.1 x.2.1 x.2.2.1 x.2.2.2.1
noncomputable def impl_parts_l0_0_0_s (N : Nat) : LSum := ⟨impl_parts_l0_0_0_sh, impl_parts_l0_0_0_ex, fun x ks => impl_parts_l0_0_0_again N ks N x⟩
theorem impl_parts_l0_0_0_step (N : Nat) (R : Type) (k : Nat) (x : impl_parts_l0_0_0_sh.T) (ks : (j : Nat) → ((impl_parts_l0_0_0_ex.getD j (.ret, Sh.none)).2).T → Option R) : impl_parts_l0_0_0_again N ks (k + 1) x = roundF (impl_parts_G N) tab [] (loopAt (loopAt (loopAt impl_parts_code 0) 0) 0) impl_parts_l0_0_0_sh impl_parts_l0_0_0_ex (fun y => impl_parts_l0_0_0_again N ks k y) ks x := by kernel_rfl
theorem impl_parts_l0_0_0_ok (N : Nat) : LoopOk Tryz.prog Tryz.f181.ntmps (impl_parts_l0_0_0_s N) (loopAt (loopAt (loopAt impl_parts_code 0) 0) 0) :=
  loop_ok (l := impl_parts_l0_0_0_s N) progOk (impl_parts_gok N) (draw_ok progOk (impl_parts_gok N)) (fun R k x ks => impl_parts_l0_0_0_again N ks k x) (fun _ _ _ => rfl) (fun R k x ks => impl_parts_l0_0_0_step N R k x ks) (fun R x ks r h => ⟨N, h⟩) (lsOk_at (L := []) trivial) (by kernel_rfl) (by kernel_rfl)
noncomputable def impl_parts_l0_0_sh : Sh := ⟨[(0, .one (.ro LLI)), (5, .one (.ref 0)), (6, .one (.ref 1)), (8, .one (.ref 2)), (9, .one (.ro I)), (22, .one (.ro I)), (23, .one (.ro I))], [.sl 25 LI .deep, .sl 4 .bool .own, .sl 3 I .own]⟩
noncomputable def impl_parts_l0_0_ex : List (Ex × Sh) := [(.exit 2, ⟨[(0, .one (.ro LLI)), (5, .one (.ref 0)), (6, .one (.ref 1)), (8, .one (.ref 2)), (22, .one (.ro I)), (23, .one (.ro I))], [.sl 25 LI .deep, .sl 4 .bool .own, .sl 3 I .own]⟩)]
noncomputable def impl_parts_l0_0 {R : Type} (N : Nat) (k0 : (List (List Int)) → Int → Int → (List (List Int)) → (List Bool) → (List Int) → Option R) : Nat → (List (List Int)) → Int → Int → Int → (List (List Int)) → (List Bool) → (List Int) → Option R
  | 0, _, _, _, _, _, _, _ => none
  | K + 1, x3, x4, x5, x6, o2, o3, o4 =>
    (br (ilt x4 (tLen o4))
      ((chk (inb o4 x4)
        (chk (inb x3 (rdI o4 x4))
        (impl_parts_l0_0_0 N (fun x7 x8 x9 x10 o5 o6 o7 => impl_parts_l0_0 N k0 K x7 (IntKind.i64.wrap (x8 + 1)) x9 x10 o5 o6 o7) N x3 x4 x5 x6 (rdL x3 (rdI o4 x4)) (tLen (rdL x3 (rdI o4 x4))) 0 o2 o3 o4))))
      (k0 x3 x5 x6 o2 o3 o4))
noncomputable def impl_parts_l0_0_again {R : Type} (N : Nat) (ks : (j : Nat) → ((impl_parts_l0_0_ex.getD j (.ret, Sh.none)).2).T → Option R) (k : Nat) (x : impl_parts_l0_0_sh.T) : Option R :=
  impl_parts_l0_0 N (fun y0 y1 y2 y3 y4 y5 => ks 0 ((y0, (), (), (), y1, y2, ()), (y3, y4, y5, ()))) k x.1.1 x.1.2.2.2.2.1 x.1.2.2.2.2.2.1 x.1.2.2.2.2.2.2.1 x.2.1 x.2.2.1 x.2.2.2.1
noncomputable def impl_parts_l0_0_s (N : Nat) : LSum := ⟨impl_parts_l0_0_sh, impl_parts_l0_0_ex, fun x ks => impl_parts_l0_0_again N ks N x⟩
theorem impl_parts_l0_0_step (N : Nat) (R : Type) (k : Nat) (x : impl_parts_l0_0_sh.T) (ks : (j : Nat) → ((impl_parts_l0_0_ex.getD j (.ret, Sh.none)).2).T → Option R) : impl_parts_l0_0_again N ks (k + 1) x = roundF (impl_parts_G N) tab [impl_parts_l0_0_0_s N] (loopAt (loopAt impl_parts_code 0) 0) impl_parts_l0_0_sh impl_parts_l0_0_ex (fun y => impl_parts_l0_0_again N ks k y) ks x := by kernel_rfl
theorem impl_parts_l0_0_ok (N : Nat) : LoopOk Tryz.prog Tryz.f181.ntmps (impl_parts_l0_0_s N) (loopAt (loopAt impl_parts_code 0) 0) :=
  loop_ok (l := impl_parts_l0_0_s N) progOk (impl_parts_gok N) (draw_ok progOk (impl_parts_gok N)) (fun R k x ks => impl_parts_l0_0_again N ks k x) (fun _ _ _ => rfl) (fun R k x ks => impl_parts_l0_0_step N R k x ks) (fun R x ks r h => ⟨N, h⟩) (lsOk_at (L := [impl_parts_l0_0_0_s N]) ⟨impl_parts_l0_0_0_ok N, trivial⟩) (by kernel_rfl) (by kernel_rfl)
noncomputable def impl_parts_l0_sh : Sh := ⟨[(0, .one (.ro LLI)), (5, .one (.ref 0)), (6, .one (.ref 1)), (22, .one (.ro I)), (23, .one (.ro I))], [.sl 25 LI .deep, .sl 4 .bool .own]⟩
noncomputable def impl_parts_l0_ex : List (Ex × Sh) := [(.exit 0, ⟨[(5, .one (.ref 0))], [.sl 25 LI .deep]⟩)]
noncomputable def impl_parts_l0 {R : Type} (N : Nat) (k0 : (List (List Int)) → Option R) : Nat → (List (List Int)) → Int → Int → (List (List Int)) → (List Bool) → Option R
  | 0, _, _, _, _, _ => none
  | K + 1, x, x1, x2, o, o1 =>
    (br (ilt x2 x1)
      ((chk (inb o1 x2)
        (br (rdB o1 x2)
        (impl_parts_l0 N k0 K x x1 (IntKind.i64.wrap (x2 + 1)) o o1)
        ((chk (inb o1 x2)
          (impl_parts_l0_0 N (fun x3 x4 x5 o2 o3 o4 => ((slices_Sort_LI_int N o4).bind fun r =>
          (chk (room o2 [r.2.1])
            (impl_parts_l0 N k0 K x3 x4 (IntKind.i64.wrap (x5 + 1)) (tApp o2 [r.2.1]) o3)))) N x 0 x1 x2 o (tSet o1 x2 true) [x2]))))))
      (k0 o))
noncomputable def impl_parts_l0_again {R : Type} (N : Nat) (ks : (j : Nat) → ((impl_parts_l0_ex.getD j (.ret, Sh.none)).2).T → Option R) (k : Nat) (x : impl_parts_l0_sh.T) : Option R :=
  impl_parts_l0 N (fun y0 => ks 0 (((), ()), (y0, ()))) k x.1.1 x.1.2.2.2.1 x.1.2.2.2.2.1 x.2.1 x.2.2.1
noncomputable def impl_parts_l0_s (N : Nat) : LSum := ⟨impl_parts_l0_sh, impl_parts_l0_ex, fun x ks => impl_parts_l0_again N ks N x⟩
theorem impl_parts_l0_step (N : Nat) (R : Type) (k : Nat) (x : impl_parts_l0_sh.T) (ks : (j : Nat) → ((impl_parts_l0_ex.getD j (.ret, Sh.none)).2).T → Option R) : impl_parts_l0_again N ks (k + 1) x = roundF (impl_parts_G N) tab [impl_parts_l0_0_s N] (loopAt impl_parts_code 0) impl_parts_l0_sh impl_parts_l0_ex (fun y => impl_parts_l0_again N ks k y) ks x := by kernel_rfl
theorem impl_parts_l0_ok (N : Nat) : LoopOk Tryz.prog Tryz.f181.ntmps (impl_parts_l0_s N) (loopAt impl_parts_code 0) :=
  loop_ok (l := impl_parts_l0_s N) progOk (impl_parts_gok N) (draw_ok progOk (impl_parts_gok N)) (fun R k x ks => impl_parts_l0_again N ks k x) (fun _ _ _ => rfl) (fun R k x ks => impl_parts_l0_step N R k x ks) (fun R x ks r h => ⟨N, h⟩) (lsOk_at (L := [impl_parts_l0_0_s N]) ⟨impl_parts_l0_0_ok N, trivial⟩) (by kernel_rfl) (by kernel_rfl)
noncomputable def impl_parts (N : Nat) (c : (List (List Int))) (c1 : Int) : Option (((List (List Int)) × Unit) × (Unit)) :=
  (chk (ile 0 (tLen c) && ile (tLen c) (tLen c) && fits (tLen c))
    (br (ile 0 c1)
    ((chk (inb (tRep (tLen c) false) c1)
      (impl_parts_l0 N (fun o => some ((o, ()), ())) N c (tLen c) 0 [] (tSet (tRep (tLen c) false) c1 true))))
    (impl_parts_l0 N (fun o1 => some ((o1, ()), ())) N c (tLen c) 0 [] (tRep (tLen c) false))))
noncomputable def impl_parts_S (N : Nat) : FSum := ⟨impl_parts_ps, impl_parts_rs, fun x => impl_parts N x.1 x.2.1⟩
theorem impl_parts_run (N : Nat) (x : argsT impl_parts_ps) : impl_parts N x.1 x.2.1 = funF (impl_parts_G N) tab [impl_parts_l0_s N] Tryz.f181 impl_parts_ps impl_parts_rs x := by kernel_rfl
theorem impl_parts_pc (N : Nat) : PC Tryz.prog 181 (impl_parts_S N) := by
  have e : impl_parts_S N = ⟨impl_parts_ps, impl_parts_rs, funF (impl_parts_G N) tab [impl_parts_l0_s N] Tryz.f181 impl_parts_ps impl_parts_rs⟩ := congrArg (FSum.mk impl_parts_ps impl_parts_rs) (funext (impl_parts_run N))
  rw [e]
  exact fun_ok (c := impl_parts_code) progOk (impl_parts_gok N) (draw_ok progOk (impl_parts_gok N)) Tryz.call181 Tryz.func181 (by kernel_rfl) (lsOk_at (L := [impl_parts_l0_s N]) ⟨impl_parts_l0_ok N, trivial⟩) (by kernel_rfl) (by kernel_rfl) (by kernel_rfl) (by kernel_rfl) (by kernel_rfl)

/-! ### impl_PartsOf -/
abbrev impl_PartsOf_ps : List (PV.Mode × Ty) := [(.ro, QLLILQII)]
abbrev impl_PartsOf_rs : List (Bool × Ty) := [(true, LLI), (true, .bool)]
noncomputable def impl_PartsOf_G (N : Nat) : GTab := gOf [(163, impl_IsSpace_S N), (182, impl_Space_roads_S N), (181, impl_parts_S N)]
theorem impl_PartsOf_gok (N : Nat) : GOk Tryz.prog (impl_PartsOf_G N) := gOf_ok ⟨impl_IsSpace_pc N, impl_Space_roads_pc N, impl_parts_pc N, trivial⟩
noncomputable def impl_PartsOf_code : Code := (Tryz.f68.body).getD .skip
noncomputable def impl_PartsOf (N : Nat) (x : ((List (List Int)) × (List (Int × Int)))) : Option (((List (List Int)) × Bool × Unit) × (Unit)) :=
  ((impl_IsSpace N (x.1, x.2)).bind fun r =>
    (br (!r.1.1)
      (some (([], false, ()), ()))
      (((impl_Space_roads N (x.1, x.2)).bind fun r1 =>
        ((impl_parts N r1.1.1 (-1)).bind fun r2 =>
          some ((r2.1.1, true, ()), ()))))))
noncomputable def impl_PartsOf_S (N : Nat) : FSum := ⟨impl_PartsOf_ps, impl_PartsOf_rs, fun x => impl_PartsOf N x.1⟩
theorem impl_PartsOf_run (N : Nat) (x : argsT impl_PartsOf_ps) : impl_PartsOf N x.1 = funF (impl_PartsOf_G N) tab [] Tryz.f68 impl_PartsOf_ps impl_PartsOf_rs x := by kernel_rfl
theorem impl_PartsOf_pc (N : Nat) : PC Tryz.prog 68 (impl_PartsOf_S N) := by
  have e : impl_PartsOf_S N = ⟨impl_PartsOf_ps, impl_PartsOf_rs, funF (impl_PartsOf_G N) tab [] Tryz.f68 impl_PartsOf_ps impl_PartsOf_rs⟩ := congrArg (FSum.mk impl_PartsOf_ps impl_PartsOf_rs) (funext (impl_PartsOf_run N))
  rw [e]
  exact fun_ok (c := impl_PartsOf_code) progOk (impl_PartsOf_gok N) (draw_ok progOk (impl_PartsOf_gok N)) Tryz.call68 Tryz.func68 (by kernel_rfl) (lsOk_at (L := []) trivial) (by kernel_rfl) (by kernel_rfl) (by kernel_rfl) (by kernel_rfl) (by kernel_rfl)

/-! ### laws_FnColourings -/
abbrev laws_FnColourings_ps : List (PV.Mode × Ty) := [(.ro, LU8)]
abbrev laws_FnColourings_rs : List (Bool × Ty) := [(true, .bool)]
noncomputable def laws_FnColourings_G (N : Nat) : GTab := gOf [(69, laws_vBig_S N), (70, spec_DrawColourSpace_S N), (71, impl_ColourSpace_S N), (72, spec_ColourSpace_S N), (73, impl_KempeSpace_S N), (74, spec_KempeSpace_S N), (75, impl_Colourings_S N), (76, spec_Colourings_S N), (77, impl_PeelingOf_S N), (78, spec_PeelingOf_S N), (79, laws_vSpace_S N), (80, laws_vTable_S N), (81, laws_vInts_S N), (68, impl_PartsOf_S N)]
theorem laws_FnColourings_gok (N : Nat) : GOk Tryz.prog (laws_FnColourings_G N) := gOf_ok ⟨laws_vBig_pc N, spec_DrawColourSpace_pc N, impl_ColourSpace_pc N, spec_ColourSpace_pc N, impl_KempeSpace_pc N, spec_KempeSpace_pc N, impl_Colourings_pc N, spec_Colourings_pc N, impl_PeelingOf_pc N, spec_PeelingOf_pc N, laws_vSpace_pc N, laws_vTable_pc N, laws_vInts_pc N, impl_PartsOf_pc N, trivial⟩
noncomputable def laws_FnColourings_code : Code := (Tryz.f8.body).getD .skip
noncomputable def laws_FnColourings (N : Nat) (c : (List Int)) : Option ((Bool × Unit) × (Unit)) :=
  ((laws_vBig N c).bind fun r =>
    (br r.1.1
      (some ((true, ()), ()))
      (((spec_DrawColourSpace N c).bind fun r1 =>
        ((impl_ColourSpace N (r1.1.1.1, r1.1.1.2) r1.1.2.1).bind fun r2 =>
          ((spec_ColourSpace N (r1.1.1.1, r1.1.1.2) r1.1.2.1).bind fun r3 =>
            ((impl_KempeSpace N (r1.1.1.1, r1.1.1.2) r1.1.2.1).bind fun r4 =>
              ((spec_KempeSpace N (r1.1.1.1, r1.1.1.2) r1.1.2.1).bind fun r5 =>
                ((impl_Colourings N (r1.1.1.1, r1.1.1.2) r1.1.2.1).bind fun r6 =>
                  ((spec_Colourings N (r1.1.1.1, r1.1.1.2) r1.1.2.1).bind fun r7 =>
                    ((impl_PeelingOf N (r1.1.1.1, r1.1.1.2)).bind fun r8 =>
                      ((spec_PeelingOf N (r1.1.1.1, r1.1.1.2)).bind fun r9 =>
                        (br (!(r2.1.2.1 == r3.1.2.1))
                          (some ((false, ()), ()))
                          (((laws_vSpace N (r2.1.1.1, r2.1.1.2) (r3.1.1.1, r3.1.1.2)).bind fun r10 =>
                            (br (!r10.1.1)
                              (some ((false, ()), ()))
                              ((br (!(r4.1.2.1 == r5.1.2.1))
                                (some ((false, ()), ()))
                                (((laws_vSpace N (r4.1.1.1, r4.1.1.2) (r5.1.1.1, r5.1.1.2)).bind fun r11 =>
                                  (br (!r11.1.1)
                                    (some ((false, ()), ()))
                                    ((br (!(r6.1.2.1 == r7.1.2.1))
                                      (some ((false, ()), ()))
                                      (((laws_vTable N r6.1.1 r7.1.1).bind fun r12 =>
                                        (br (!r12.1.1)
                                          (some ((false, ()), ()))
                                          ((br (!(r8.1.2.2.1 == r9.1.2.2.1))
                                            (some ((false, ()), ()))
                                            ((br (ine r8.1.2.1 r9.1.2.1)
                                              (some ((false, ()), ()))
                                              (((laws_vInts N r8.1.1 r9.1.1).bind fun r13 =>
                                                (br (!r13.1.1)
                                                  (some ((false, ()), ()))
                                                  ((br (!r2.1.2.1)
                                                    ((br (!r4.1.2.1)
                                                      (some (((!r6.1.2.1), ()), ()))
                                                      (some ((false, ()), ()))))
                                                    (((impl_PartsOf N (r2.1.1.1, r2.1.1.2)).bind fun r14 =>
                                                      ((impl_PartsOf N (r4.1.1.1, r4.1.1.2)).bind fun r15 =>
                                                        (br (!r14.1.2.1)
                                                          (some ((false, ()), ()))
                                                          ((br (!r15.1.2.1)
                                                            (some ((false, ()), ()))
                                                            (((laws_vTable N r2.1.1.1 r6.1.1).bind fun r16 =>
                                                              (br (!r16.1.1)
                                                                (some ((false, ()), ()))
                                                                (((laws_vTable N r4.1.1.1 r6.1.1).bind fun r17 =>
                                                                  (br (!r17.1.1)
                                                                    (some ((false, ()), ()))
                                                                    ((br (ilt (tLen r14.1.1) (tLen r15.1.1))
                                                                      (some ((false, ()), ()))
                                                                      ((br (ilt r1.1.2.1 (IntKind.i64.wrap (r8.1.2.1 + 2)))
                                                                        ((br (ilt r1.1.2.1 (IntKind.i64.wrap (r8.1.2.1 + 1)))
                                                                          (some ((true, ()), ()))
                                                                          (some (((ieq (tLen r15.1.1) 1), ()), ()))))
                                                                        ((br (ieq (tLen r14.1.1) 1)
                                                                          ((br (ilt r1.1.2.1 (IntKind.i64.wrap (r8.1.2.1 + 1)))
                                                                            (some ((true, ()), ()))
                                                                            (some (((ieq (tLen r15.1.1) 1), ()), ()))))
                                                                          (some ((false, ()), ())))))))))))))))))))))))))))))))))))))))))))))))))))))))
noncomputable def laws_FnColourings_S (N : Nat) : FSum := ⟨laws_FnColourings_ps, laws_FnColourings_rs, fun x => laws_FnColourings N x.1⟩
theorem laws_FnColourings_run (N : Nat) (x : argsT laws_FnColourings_ps) : laws_FnColourings N x.1 = funF (laws_FnColourings_G N) tab [] Tryz.f8 laws_FnColourings_ps laws_FnColourings_rs x := by kernel_rfl
theorem laws_FnColourings_pc (N : Nat) : PC Tryz.prog 8 (laws_FnColourings_S N) := by
  have e : laws_FnColourings_S N = ⟨laws_FnColourings_ps, laws_FnColourings_rs, funF (laws_FnColourings_G N) tab [] Tryz.f8 laws_FnColourings_ps laws_FnColourings_rs⟩ := congrArg (FSum.mk laws_FnColourings_ps laws_FnColourings_rs) (funext (laws_FnColourings_run N))
  rw [e]
  exact fun_ok (c := laws_FnColourings_code) progOk (laws_FnColourings_gok N) (draw_ok progOk (laws_FnColourings_gok N)) Tryz.call8 Tryz.func8 (by kernel_rfl) (lsOk_at (L := []) trivial) (by kernel_rfl) (by kernel_rfl) (by kernel_rfl) (by kernel_rfl) (by kernel_rfl)
end Go.Proofs.YtbnjcjpnpidhmaaGreat
