/- Functions of the program as functions on data. -/
import Derived.Test.YtbnjcjpnpidhmaaGreatThresholdWayFc
set_option linter.all false
namespace Go.Proofs.YtbnjcjpnpidhmaaGreat
open Go Go.PV
/-! ### impl_moves -/
abbrev impl_moves_ps : List (PV.Mode × Ty) := [(.ro, LI), (.ro, LI)]
abbrev impl_moves_rs : List (Bool × Ty) := [(true, U64), (true, U64)]
noncomputable def impl_moves_G (N : Nat) : GTab := gOf [(125, impl_bagOf_S N)]
theorem impl_moves_gok (N : Nat) : GOk Tryz.prog (impl_moves_G N) := gOf_ok ⟨impl_bagOf_pc N, trivial⟩
noncomputable def impl_moves_code : Code := (Tryz.f249.body).getD .skip
noncomputable def impl_moves (N : Nat) (a : (List Int)) (b : (List Int)) : Option ((Int × Int × Unit) × (Unit)) :=
  ((impl_bagOf N a).bind fun r =>
    ((impl_bagOf N b).bind fun r1 =>
      some (((bitop .andNot .u64 r.1.1 r1.1.1), (bitop .andNot .u64 r1.1.1 r.1.1), ()), ())))
noncomputable def impl_moves_S (N : Nat) : FSum := ⟨impl_moves_ps, impl_moves_rs, fun x => impl_moves N x.1 x.2.1⟩
theorem impl_moves_run (N : Nat) (x : argsT impl_moves_ps) : impl_moves N x.1 x.2.1 = funF (impl_moves_G N) tab [] Tryz.f249 impl_moves_ps impl_moves_rs x := by kernel_rfl
theorem impl_moves_pc (N : Nat) : PC Tryz.prog 249 (impl_moves_S N) := by
  have e : impl_moves_S N = ⟨impl_moves_ps, impl_moves_rs, funF (impl_moves_G N) tab [] Tryz.f249 impl_moves_ps impl_moves_rs⟩ := congrArg (FSum.mk impl_moves_ps impl_moves_rs) (funext (impl_moves_run N))
  rw [e]
  exact fun_ok (c := impl_moves_code) progOk (impl_moves_gok N) (draw_ok progOk (impl_moves_gok N)) Tryz.call249 Tryz.func249 (by kernel_rfl) (lsOk_at (L := []) trivial) (by kernel_rfl) (by kernel_rfl) (by kernel_rfl) (by kernel_rfl) (by kernel_rfl)

/-! ### impl_isAdding -/
abbrev impl_isAdding_ps : List (PV.Mode × Ty) := [(.ro, LI), (.ro, LI)]
abbrev impl_isAdding_rs : List (Bool × Ty) := [(true, .bool)]
noncomputable def impl_isAdding_G (N : Nat) : GTab := gOf [(249, impl_moves_S N), (194, impl_bag_size_S N)]
theorem impl_isAdding_gok (N : Nat) : GOk Tryz.prog (impl_isAdding_G N) := gOf_ok ⟨impl_moves_pc N, impl_bag_size_pc N, trivial⟩
noncomputable def impl_isAdding_code : Code := (Tryz.f258.body).getD .skip
noncomputable def impl_isAdding (N : Nat) (a : (List Int)) (b : (List Int)) : Option ((Bool × Unit) × (Unit)) :=
  ((impl_moves N a b).bind fun r =>
    ((impl_bag_size N r.1.1).bind fun r1 =>
      ((impl_bag_size N r.1.2.1).bind fun r2 =>
        some (((ieq (IntKind.i64.wrap (r1.1.1 + r2.1.1)) 1), ()), ()))))
noncomputable def impl_isAdding_S (N : Nat) : FSum := ⟨impl_isAdding_ps, impl_isAdding_rs, fun x => impl_isAdding N x.1 x.2.1⟩
theorem impl_isAdding_run (N : Nat) (x : argsT impl_isAdding_ps) : impl_isAdding N x.1 x.2.1 = funF (impl_isAdding_G N) tab [] Tryz.f258 impl_isAdding_ps impl_isAdding_rs x := by kernel_rfl
theorem impl_isAdding_pc (N : Nat) : PC Tryz.prog 258 (impl_isAdding_S N) := by
  have e : impl_isAdding_S N = ⟨impl_isAdding_ps, impl_isAdding_rs, funF (impl_isAdding_G N) tab [] Tryz.f258 impl_isAdding_ps impl_isAdding_rs⟩ := congrArg (FSum.mk impl_isAdding_ps impl_isAdding_rs) (funext (impl_isAdding_run N))
  rw [e]
  exact fun_ok (c := impl_isAdding_code) progOk (impl_isAdding_gok N) (draw_ok progOk (impl_isAdding_gok N)) Tryz.call258 Tryz.func258 (by kernel_rfl) (lsOk_at (L := []) trivial) (by kernel_rfl) (by kernel_rfl) (by kernel_rfl) (by kernel_rfl) (by kernel_rfl)

/-! ### impl_Graph_threshold -/
abbrev impl_Graph_threshold_ps : List (PV.Mode × Ty) := [(.ro, QILQII), (.ro, I), (.ro, I)]
abbrev impl_Graph_threshold_rs : List (Bool × Ty) := [(true, QLLILQII)]
noncomputable def impl_Graph_threshold_G (N : Nat) : GTab := gOf [(247, impl_Graph_sets_S N), (257, impl_Graph_threshold_c1_S N), (158, impl_spaceOf_S N), (258, impl_isAdding_S N)]
theorem impl_Graph_threshold_gok (N : Nat) : GOk Tryz.prog (impl_Graph_threshold_G N) := gOf_ok ⟨impl_Graph_sets_pc N, impl_Graph_threshold_c1_pc N, impl_spaceOf_pc N, impl_isAdding_pc N, trivial⟩
noncomputable def impl_Graph_threshold_code : Code := (Tryz.f175.body).getD .skip
noncomputable def impl_Graph_threshold (N : Nat) (g : (Int × (List (Int × Int)))) (kind : Int) (kv : Int) : Option ((((List (List Int)) × (List (Int × Int))) × Unit) × (Unit)) :=
  ((impl_Graph_sets N (g.1, g.2) (fun y0 => (impl_Graph_threshold_c1 N y0 kind kv (g.1, g.2)).bind fun z => some z.1.1)).bind fun r =>
    ((impl_spaceOf N r.1.1 (fun y0 y1 => (impl_isAdding N y0 y1).bind fun z => some z.1.1)).bind fun r1 =>
      some (((r1.1.1.1, r1.1.1.2), ()), ())))
noncomputable def impl_Graph_threshold_S (N : Nat) : FSum := ⟨impl_Graph_threshold_ps, impl_Graph_threshold_rs, fun x => impl_Graph_threshold N x.1 x.2.1 x.2.2.1⟩
theorem impl_Graph_threshold_run (N : Nat) (x : argsT impl_Graph_threshold_ps) : impl_Graph_threshold N x.1 x.2.1 x.2.2.1 = funF (impl_Graph_threshold_G N) tab [] Tryz.f175 impl_Graph_threshold_ps impl_Graph_threshold_rs x := by kernel_rfl
theorem impl_Graph_threshold_pc (N : Nat) : PC Tryz.prog 175 (impl_Graph_threshold_S N) := by
  have e : impl_Graph_threshold_S N = ⟨impl_Graph_threshold_ps, impl_Graph_threshold_rs, funF (impl_Graph_threshold_G N) tab [] Tryz.f175 impl_Graph_threshold_ps impl_Graph_threshold_rs⟩ := congrArg (FSum.mk impl_Graph_threshold_ps impl_Graph_threshold_rs) (funext (impl_Graph_threshold_run N))
  rw [e]
  exact fun_ok (c := impl_Graph_threshold_code) progOk (impl_Graph_threshold_gok N) (draw_ok progOk (impl_Graph_threshold_gok N)) Tryz.call175 Tryz.func175 (by kernel_rfl) (lsOk_at (L := []) trivial) (by kernel_rfl) (by kernel_rfl) (by kernel_rfl) (by kernel_rfl) (by kernel_rfl)

/-! ### slices_BinarySearchFunc_LLI_LI_LI -/
abbrev slices_BinarySearchFunc_LLI_LI_LI_ps : List (PV.Mode × Ty) := [(.ro, LLI), (.ro, LI), (.ro, GLILII)]
abbrev slices_BinarySearchFunc_LLI_LI_LI_rs : List (Bool × Ty) := [(true, I), (true, .bool)]
noncomputable def slices_BinarySearchFunc_LLI_LI_LI_G (N : Nat) : GTab := gOf []
theorem slices_BinarySearchFunc_LLI_LI_LI_gok (N : Nat) : GOk Tryz.prog (slices_BinarySearchFunc_LLI_LI_LI_G N) := gOf_ok trivial
noncomputable def slices_BinarySearchFunc_LLI_LI_LI_code : Code := (Tryz.f254.body).getD .skip
noncomputable def slices_BinarySearchFunc_LLI_LI_LI_l0_sh : Sh := ⟨[(0, .one (.ro LLI)), (1, .one (.ro LI)), (2, .one (.ro GLILII)), (8, .one (.ro I)), (9, .one (.ro I)), (10, .one (.ro I))], []⟩
noncomputable def slices_BinarySearchFunc_LLI_LI_LI_l0_ex : List (Ex × Sh) := [(.exit 0, ⟨[(0, .one (.ro LLI)), (1, .one (.ro LI)), (2, .one (.ro GLILII)), (8, .one (.ro I)), (9, .one (.ro I))], []⟩)]
noncomputable def slices_BinarySearchFunc_LLI_LI_LI_l0 {R : Type} (N : Nat) (k0 : (List (List Int)) → (List Int) → ((List Int) → (List Int) → Option Int) → Int → Int → Option R) : Nat → (List (List Int)) → (List Int) → ((List Int) → (List Int) → Option Int) → Int → Int → Int → Option R
  | 0, _, _, _, _, _, _ => none
  | K + 1, x1, target1, cmp1, n, i, j =>
    (br (ilt i j)
      ((chk (inb x1 (IntKind.i64.wrap ((shrI .u64 (IntKind.u64.wrap ((IntKind.i64.wrap (i + j)))) 1))))
        ((cmp1 (rdL x1 (IntKind.i64.wrap ((shrI .u64 (IntKind.u64.wrap ((IntKind.i64.wrap (i + j)))) 1)))) target1).bind fun v =>
        (br (ilt v 0)
        (slices_BinarySearchFunc_LLI_LI_LI_l0 N k0 K x1 target1 cmp1 n (IntKind.i64.wrap ((IntKind.i64.wrap ((shrI .u64 (IntKind.u64.wrap ((IntKind.i64.wrap (i + j)))) 1))) + 1)) j)
        (slices_BinarySearchFunc_LLI_LI_LI_l0 N k0 K x1 target1 cmp1 n i (IntKind.i64.wrap ((shrI .u64 (IntKind.u64.wrap ((IntKind.i64.wrap (i + j)))) 1))))))))
      (k0 x1 target1 cmp1 n i))
noncomputable def slices_BinarySearchFunc_LLI_LI_LI_l0_again {R : Type} (N : Nat) (ks : (j : Nat) → ((slices_BinarySearchFunc_LLI_LI_LI_l0_ex.getD j (.ret, Sh.none)).2).T → Option R) (k : Nat) (x : slices_BinarySearchFunc_LLI_LI_LI_l0_sh.T) : Option R :=
  slices_BinarySearchFunc_LLI_LI_LI_l0 N (fun y0 y1 y2 y3 y4 => ks 0 ((y0, y1, y2, y3, y4, ()), ())) k x.1.1 x.1.2.1 x.1.2.2.1 x.1.2.2.2.1 x.1.2.2.2.2.1 x.1.2.2.2.2.2.1
noncomputable def slices_BinarySearchFunc_LLI_LI_LI_l0_s (N : Nat) : LSum := ⟨slices_BinarySearchFunc_LLI_LI_LI_l0_sh, slices_BinarySearchFunc_LLI_LI_LI_l0_ex, fun x ks => slices_BinarySearchFunc_LLI_LI_LI_l0_again N ks N x⟩
theorem slices_BinarySearchFunc_LLI_LI_LI_l0_step (N : Nat) (R : Type) (k : Nat) (x : slices_BinarySearchFunc_LLI_LI_LI_l0_sh.T) (ks : (j : Nat) → ((slices_BinarySearchFunc_LLI_LI_LI_l0_ex.getD j (.ret, Sh.none)).2).T → Option R) : slices_BinarySearchFunc_LLI_LI_LI_l0_again N ks (k + 1) x = roundF (slices_BinarySearchFunc_LLI_LI_LI_G N) tab [] (loopAt slices_BinarySearchFunc_LLI_LI_LI_code 0) slices_BinarySearchFunc_LLI_LI_LI_l0_sh slices_BinarySearchFunc_LLI_LI_LI_l0_ex (fun y => slices_BinarySearchFunc_LLI_LI_LI_l0_again N ks k y) ks x := by kernel_rfl
theorem slices_BinarySearchFunc_LLI_LI_LI_l0_ok (N : Nat) : LoopOk Tryz.prog Tryz.f254.ntmps (slices_BinarySearchFunc_LLI_LI_LI_l0_s N) (loopAt slices_BinarySearchFunc_LLI_LI_LI_code 0) :=
  loop_ok (l := slices_BinarySearchFunc_LLI_LI_LI_l0_s N) progOk (slices_BinarySearchFunc_LLI_LI_LI_gok N) (draw_ok progOk (slices_BinarySearchFunc_LLI_LI_LI_gok N)) (fun R k x ks => slices_BinarySearchFunc_LLI_LI_LI_l0_again N ks k x) (fun _ _ _ => rfl) (fun R k x ks => slices_BinarySearchFunc_LLI_LI_LI_l0_step N R k x ks) (fun R x ks r h => ⟨N, h⟩) (lsOk_at (L := []) trivial) (by kernel_rfl) (by kernel_rfl)
noncomputable def slices_BinarySearchFunc_LLI_LI_LI (N : Nat) (x : (List (List Int))) (target : (List Int)) (cmp : ((List Int) → (List Int) → Option Int)) : Option ((Int × Bool × Unit) × (Unit)) :=
  slices_BinarySearchFunc_LLI_LI_LI_l0 N (fun x1 target1 cmp1 n i => (br (ilt i n)
    ((chk (inb x1 i)
      ((cmp1 (rdL x1 i) target1).bind fun v =>
      some ((i, (ieq v 0), ()), ()))))
    (some ((i, false, ()), ())))) N x target cmp (tLen x) 0 (tLen x)
noncomputable def slices_BinarySearchFunc_LLI_LI_LI_S (N : Nat) : FSum := ⟨slices_BinarySearchFunc_LLI_LI_LI_ps, slices_BinarySearchFunc_LLI_LI_LI_rs, fun x => slices_BinarySearchFunc_LLI_LI_LI N x.1 x.2.1 x.2.2.1⟩
theorem slices_BinarySearchFunc_LLI_LI_LI_run (N : Nat) (x : argsT slices_BinarySearchFunc_LLI_LI_LI_ps) : slices_BinarySearchFunc_LLI_LI_LI N x.1 x.2.1 x.2.2.1 = funF (slices_BinarySearchFunc_LLI_LI_LI_G N) tab [slices_BinarySearchFunc_LLI_LI_LI_l0_s N] Tryz.f254 slices_BinarySearchFunc_LLI_LI_LI_ps slices_BinarySearchFunc_LLI_LI_LI_rs x := by kernel_rfl
theorem slices_BinarySearchFunc_LLI_LI_LI_pc (N : Nat) : PC Tryz.prog 254 (slices_BinarySearchFunc_LLI_LI_LI_S N) := by
  have e : slices_BinarySearchFunc_LLI_LI_LI_S N = ⟨slices_BinarySearchFunc_LLI_LI_LI_ps, slices_BinarySearchFunc_LLI_LI_LI_rs, funF (slices_BinarySearchFunc_LLI_LI_LI_G N) tab [slices_BinarySearchFunc_LLI_LI_LI_l0_s N] Tryz.f254 slices_BinarySearchFunc_LLI_LI_LI_ps slices_BinarySearchFunc_LLI_LI_LI_rs⟩ := congrArg (FSum.mk slices_BinarySearchFunc_LLI_LI_LI_ps slices_BinarySearchFunc_LLI_LI_LI_rs) (funext (slices_BinarySearchFunc_LLI_LI_LI_run N))
  rw [e]
  exact fun_ok (c := slices_BinarySearchFunc_LLI_LI_LI_code) progOk (slices_BinarySearchFunc_LLI_LI_LI_gok N) (draw_ok progOk (slices_BinarySearchFunc_LLI_LI_LI_gok N)) Tryz.call254 Tryz.func254 (by kernel_rfl) (lsOk_at (L := [slices_BinarySearchFunc_LLI_LI_LI_l0_s N]) ⟨slices_BinarySearchFunc_LLI_LI_LI_l0_ok N, trivial⟩) (by kernel_rfl) (by kernel_rfl) (by kernel_rfl) (by kernel_rfl) (by kernel_rfl)

/-! ### impl_Space_place -/
abbrev impl_Space_place_ps : List (PV.Mode × Ty) := [(.ro, QLLILQII), (.ro, LI)]
abbrev impl_Space_place_rs : List (Bool × Ty) := [(true, I), (true, .bool)]
noncomputable def impl_Space_place_G (N : Nat) : GTab := gOf [(254, slices_BinarySearchFunc_LLI_LI_LI_S N), (166, slices_Compare_LI_int_S N)]
theorem impl_Space_place_gok (N : Nat) : GOk Tryz.prog (impl_Space_place_G N) := gOf_ok ⟨slices_BinarySearchFunc_LLI_LI_LI_pc N, slices_Compare_LI_int_pc N, trivial⟩
noncomputable def impl_Space_place_code : Code := (Tryz.f169.body).getD .skip
noncomputable def impl_Space_place (N : Nat) (x : ((List (List Int)) × (List (Int × Int)))) (state : (List Int)) : Option ((Int × Bool × Unit) × (Unit)) :=
  ((slices_BinarySearchFunc_LLI_LI_LI N x.1 state (fun y0 y1 => (slices_Compare_LI_int N y0 y1).bind fun z => some z.1.1)).bind fun r =>
    some ((r.1.1, r.1.2.1, ()), ()))
noncomputable def impl_Space_place_S (N : Nat) : FSum := ⟨impl_Space_place_ps, impl_Space_place_rs, fun x => impl_Space_place N x.1 x.2.1⟩
theorem impl_Space_place_run (N : Nat) (x : argsT impl_Space_place_ps) : impl_Space_place N x.1 x.2.1 = funF (impl_Space_place_G N) tab [] Tryz.f169 impl_Space_place_ps impl_Space_place_rs x := by kernel_rfl
theorem impl_Space_place_pc (N : Nat) : PC Tryz.prog 169 (impl_Space_place_S N) := by
  have e : impl_Space_place_S N = ⟨impl_Space_place_ps, impl_Space_place_rs, funF (impl_Space_place_G N) tab [] Tryz.f169 impl_Space_place_ps impl_Space_place_rs⟩ := congrArg (FSum.mk impl_Space_place_ps impl_Space_place_rs) (funext (impl_Space_place_run N))
  rw [e]
  exact fun_ok (c := impl_Space_place_code) progOk (impl_Space_place_gok N) (draw_ok progOk (impl_Space_place_gok N)) Tryz.call169 Tryz.func169 (by kernel_rfl) (lsOk_at (L := []) trivial) (by kernel_rfl) (by kernel_rfl) (by kernel_rfl) (by kernel_rfl) (by kernel_rfl)

/-! ### slices_Sort_LI_int -/
abbrev slices_Sort_LI_int_ps : List (PV.Mode × Ty) := [(.mut, LI)]
abbrev slices_Sort_LI_int_rs : List (Bool × Ty) := []
noncomputable def slices_Sort_LI_int (N : Nat) (x : List Int) : Option (Unit × (List Int × Unit)) := sortIF x
noncomputable def slices_Sort_LI_int_S (N : Nat) : FSum := ⟨slices_Sort_LI_int_ps, slices_Sort_LI_int_rs, fun x => slices_Sort_LI_int N x.1⟩
theorem slices_Sort_LI_int_pc (N : Nat) : PC Tryz.prog 260 (slices_Sort_LI_int_S N) := sortInts_pc (sortsI Tryz.sortIL) (sortsINone Tryz.sortIL) Tryz.call260

/-! ### impl_Space_roads -/
abbrev impl_Space_roads_ps : List (PV.Mode × Ty) := [(.ro, QLLILQII)]
abbrev impl_Space_roads_rs : List (Bool × Ty) := [(true, LLI)]
noncomputable def impl_Space_roads_G (N : Nat) : GTab := gOf [(260, slices_Sort_LI_int_S N)]
theorem impl_Space_roads_gok (N : Nat) : GOk Tryz.prog (impl_Space_roads_G N) := gOf_ok ⟨slices_Sort_LI_int_pc N, trivial⟩
noncomputable def impl_Space_roads_code : Code := (Tryz.f182.body).getD .skip
noncomputable def impl_Space_roads_l0_sh : Sh := ⟨[(3, .one (.ref 0)), (13, .one (.ro LQII)), (14, .one (.ro I)), (15, .one (.ro I))], [.sl 25 LI .deep]⟩
noncomputable def impl_Space_roads_l0_ex : List (Ex × Sh) := [(.exit 0, ⟨[(3, .one (.ref 0))], [.sl 25 LI .deep]⟩)]
noncomputable def impl_Space_roads_l0 {R : Type} (N : Nat) (k0 : (List (List Int)) → Option R) : Nat → (List (Int × Int)) → Int → Int → (List (List Int)) → Option R
  | 0, _, _, _, _ => none
  | K + 1, x1, x2, x3, o =>
    (br (ilt x3 x2)
      ((chk (inb x1 x3)
        (chk (inb o ((rdP x1 x3).1))
        (chk (room (rdL o ((rdP x1 x3).1)) [(rdP x1 x3).2])
        (chk (inb o ((rdP x1 x3).1))
        (chk (ieq ((rdP x1 x3).1) ((rdP x1 x3).1))
        (chk (inb (tSet o ((rdP x1 x3).1) (tApp (rdL o ((rdP x1 x3).1)) [(rdP x1 x3).2])) ((rdP x1 x3).2))
        (chk (room (rdL (tSet o ((rdP x1 x3).1) (tApp (rdL o ((rdP x1 x3).1)) [(rdP x1 x3).2])) ((rdP x1 x3).2)) [(rdP x1 x3).1])
        (chk (inb (tSet o ((rdP x1 x3).1) (tApp (rdL o ((rdP x1 x3).1)) [(rdP x1 x3).2])) ((rdP x1 x3).2))
        (chk (ieq ((rdP x1 x3).2) ((rdP x1 x3).2))
        (impl_Space_roads_l0 N k0 K x1 x2 (IntKind.i64.wrap (x3 + 1)) (tSet (tSet o ((rdP x1 x3).1) (tApp (rdL o ((rdP x1 x3).1)) [(rdP x1 x3).2])) ((rdP x1 x3).2) (tApp (rdL (tSet o ((rdP x1 x3).1) (tApp (rdL o ((rdP x1 x3).1)) [(rdP x1 x3).2])) ((rdP x1 x3).2)) [(rdP x1 x3).1])))))))))))))
      (k0 o))
noncomputable def impl_Space_roads_l0_again {R : Type} (N : Nat) (ks : (j : Nat) → ((impl_Space_roads_l0_ex.getD j (.ret, Sh.none)).2).T → Option R) (k : Nat) (x : impl_Space_roads_l0_sh.T) : Option R :=
  impl_Space_roads_l0 N (fun y0 => ks 0 (((), ()), (y0, ()))) k x.1.2.1 x.1.2.2.1 x.1.2.2.2.1 x.2.1
noncomputable def impl_Space_roads_l0_s (N : Nat) : LSum := ⟨impl_Space_roads_l0_sh, impl_Space_roads_l0_ex, fun x ks => impl_Space_roads_l0_again N ks N x⟩
theorem impl_Space_roads_l0_step (N : Nat) (R : Type) (k : Nat) (x : impl_Space_roads_l0_sh.T) (ks : (j : Nat) → ((impl_Space_roads_l0_ex.getD j (.ret, Sh.none)).2).T → Option R) : impl_Space_roads_l0_again N ks (k + 1) x = roundF (impl_Space_roads_G N) tab [] (loopAt impl_Space_roads_code 0) impl_Space_roads_l0_sh impl_Space_roads_l0_ex (fun y => impl_Space_roads_l0_again N ks k y) ks x := by kernel_rfl
theorem impl_Space_roads_l0_ok (N : Nat) : LoopOk Tryz.prog Tryz.f182.ntmps (impl_Space_roads_l0_s N) (loopAt impl_Space_roads_code 0) :=
  loop_ok (l := impl_Space_roads_l0_s N) progOk (impl_Space_roads_gok N) (draw_ok progOk (impl_Space_roads_gok N)) (fun R k x ks => impl_Space_roads_l0_again N ks k x) (fun _ _ _ => rfl) (fun R k x ks => impl_Space_roads_l0_step N R k x ks) (fun R x ks r h => ⟨N, h⟩) (lsOk_at (L := []) trivial) (by kernel_rfl) (by kernel_rfl)
noncomputable def impl_Space_roads_l1_sh : Sh := ⟨[(3, .one (.ref 0)), (46, .one (.ref 0)), (47, .one (.ro I)), (48, .one (.ro I))], [.sl 25 LI .deep]⟩
noncomputable def impl_Space_roads_l1_ex : List (Ex × Sh) := [(.exit 2, ⟨[(3, .one (.ref 0))], [.sl 25 LI .deep]⟩)]
noncomputable def impl_Space_roads_l1 {R : Type} (N : Nat) (k0 : (List (List Int)) → Option R) : Nat → Int → Int → (List (List Int)) → Option R
  | 0, _, _, _ => none
  | K + 1, x1, x2, o1 =>
    (br (ilt x2 x1)
      ((chk (inb o1 x2)
        ((slices_Sort_LI_int N (rdL o1 x2)).bind fun r =>
        impl_Space_roads_l1 N k0 K x1 (IntKind.i64.wrap (x2 + 1)) (tSet o1 x2 r.2.1))))
      (k0 o1))
noncomputable def impl_Space_roads_l1_again {R : Type} (N : Nat) (ks : (j : Nat) → ((impl_Space_roads_l1_ex.getD j (.ret, Sh.none)).2).T → Option R) (k : Nat) (x : impl_Space_roads_l1_sh.T) : Option R :=
  impl_Space_roads_l1 N (fun y0 => ks 0 (((), ()), (y0, ()))) k x.1.2.2.1 x.1.2.2.2.1 x.2.1
noncomputable def impl_Space_roads_l1_s (N : Nat) : LSum := ⟨impl_Space_roads_l1_sh, impl_Space_roads_l1_ex, fun x ks => impl_Space_roads_l1_again N ks N x⟩
theorem impl_Space_roads_l1_step (N : Nat) (R : Type) (k : Nat) (x : impl_Space_roads_l1_sh.T) (ks : (j : Nat) → ((impl_Space_roads_l1_ex.getD j (.ret, Sh.none)).2).T → Option R) : impl_Space_roads_l1_again N ks (k + 1) x = roundF (impl_Space_roads_G N) tab [] (loopAt impl_Space_roads_code 1) impl_Space_roads_l1_sh impl_Space_roads_l1_ex (fun y => impl_Space_roads_l1_again N ks k y) ks x := by kernel_rfl
theorem impl_Space_roads_l1_ok (N : Nat) : LoopOk Tryz.prog Tryz.f182.ntmps (impl_Space_roads_l1_s N) (loopAt impl_Space_roads_code 1) :=
  loop_ok (l := impl_Space_roads_l1_s N) progOk (impl_Space_roads_gok N) (draw_ok progOk (impl_Space_roads_gok N)) (fun R k x ks => impl_Space_roads_l1_again N ks k x) (fun _ _ _ => rfl) (fun R k x ks => impl_Space_roads_l1_step N R k x ks) (fun R x ks r h => ⟨N, h⟩) (lsOk_at (L := []) trivial) (by kernel_rfl) (by kernel_rfl)
noncomputable def impl_Space_roads (N : Nat) (x : ((List (List Int)) × (List (Int × Int)))) : Option (((List (List Int)) × Unit) × (Unit)) :=
  (chk (ile 0 (tLen x.1) && ile (tLen x.1) (tLen x.1) && fits (tLen x.1))
    (impl_Space_roads_l0 N (fun o => impl_Space_roads_l1 N (fun o1 => some ((o1, ()), ())) N (tLen o) 0 o) N x.2 (tLen x.2) 0 (tRep (tLen x.1) [])))
noncomputable def impl_Space_roads_S (N : Nat) : FSum := ⟨impl_Space_roads_ps, impl_Space_roads_rs, fun x => impl_Space_roads N x.1⟩
theorem impl_Space_roads_run (N : Nat) (x : argsT impl_Space_roads_ps) : impl_Space_roads N x.1 = funF (impl_Space_roads_G N) tab [impl_Space_roads_l0_s N, impl_Space_roads_l1_s N] Tryz.f182 impl_Space_roads_ps impl_Space_roads_rs x := by kernel_rfl
theorem impl_Space_roads_pc (N : Nat) : PC Tryz.prog 182 (impl_Space_roads_S N) := by
  have e : impl_Space_roads_S N = ⟨impl_Space_roads_ps, impl_Space_roads_rs, funF (impl_Space_roads_G N) tab [impl_Space_roads_l0_s N, impl_Space_roads_l1_s N] Tryz.f182 impl_Space_roads_ps impl_Space_roads_rs⟩ := congrArg (FSum.mk impl_Space_roads_ps impl_Space_roads_rs) (funext (impl_Space_roads_run N))
  rw [e]
  exact fun_ok (c := impl_Space_roads_code) progOk (impl_Space_roads_gok N) (draw_ok progOk (impl_Space_roads_gok N)) Tryz.call182 Tryz.func182 (by kernel_rfl) (lsOk_at (L := [impl_Space_roads_l0_s N, impl_Space_roads_l1_s N]) ⟨impl_Space_roads_l0_ok N, impl_Space_roads_l1_ok N, trivial⟩) (by kernel_rfl) (by kernel_rfl) (by kernel_rfl) (by kernel_rfl) (by kernel_rfl)

/-! ### math_bits_Mul64 -/
abbrev math_bits_Mul64_ps : List (PV.Mode × Ty) := [(.ro, U64), (.ro, U64)]
abbrev math_bits_Mul64_rs : List (Bool × Ty) := [(true, U64), (true, U64)]
noncomputable def math_bits_Mul64_G (N : Nat) : GTab := gOf []
theorem math_bits_Mul64_gok (N : Nat) : GOk Tryz.prog (math_bits_Mul64_G N) := gOf_ok trivial
noncomputable def math_bits_Mul64_code : Code := (Tryz.f353.body).getD .skip
noncomputable def math_bits_Mul64 (N : Nat) (x : Int) (y : Int) : Option ((Int × Int × Unit) × (Unit)) :=
  some (((IntKind.u64.wrap ((IntKind.u64.wrap ((IntKind.u64.wrap ((shrI .u64 x 32) * (shrI .u64 y 32))) + (shrI .u64 (IntKind.u64.wrap ((IntKind.u64.wrap ((shrI .u64 x 32) * (bitop .and .u64 y 4294967295))) + (shrI .u64 (IntKind.u64.wrap ((bitop .and .u64 x 4294967295) * (bitop .and .u64 y 4294967295))) 32))) 32))) + (shrI .u64 (IntKind.u64.wrap ((bitop .and .u64 (IntKind.u64.wrap ((IntKind.u64.wrap ((shrI .u64 x 32) * (bitop .and .u64 y 4294967295))) + (shrI .u64 (IntKind.u64.wrap ((bitop .and .u64 x 4294967295) * (bitop .and .u64 y 4294967295))) 32))) 4294967295) + (IntKind.u64.wrap ((bitop .and .u64 x 4294967295) * (shrI .u64 y 32))))) 32))), (IntKind.u64.wrap (x * y)), ()), ())
noncomputable def math_bits_Mul64_S (N : Nat) : FSum := ⟨math_bits_Mul64_ps, math_bits_Mul64_rs, fun x => math_bits_Mul64 N x.1 x.2.1⟩
theorem math_bits_Mul64_run (N : Nat) (x : argsT math_bits_Mul64_ps) : math_bits_Mul64 N x.1 x.2.1 = funF (math_bits_Mul64_G N) tab [] Tryz.f353 math_bits_Mul64_ps math_bits_Mul64_rs x := by kernel_rfl
theorem math_bits_Mul64_pc (N : Nat) : PC Tryz.prog 353 (math_bits_Mul64_S N) := by
  have e : math_bits_Mul64_S N = ⟨math_bits_Mul64_ps, math_bits_Mul64_rs, funF (math_bits_Mul64_G N) tab [] Tryz.f353 math_bits_Mul64_ps math_bits_Mul64_rs⟩ := congrArg (FSum.mk math_bits_Mul64_ps math_bits_Mul64_rs) (funext (math_bits_Mul64_run N))
  rw [e]
  exact fun_ok (c := math_bits_Mul64_code) progOk (math_bits_Mul64_gok N) (draw_ok progOk (math_bits_Mul64_gok N)) Tryz.call353 Tryz.func353 (by kernel_rfl) (lsOk_at (L := []) trivial) (by kernel_rfl) (by kernel_rfl) (by kernel_rfl) (by kernel_rfl) (by kernel_rfl)

/-! ### math_bits_Mul -/
abbrev math_bits_Mul_ps : List (PV.Mode × Ty) := [(.ro, U64), (.ro, U64)]
abbrev math_bits_Mul_rs : List (Bool × Ty) := [(true, U64), (true, U64)]
noncomputable def math_bits_Mul_G (N : Nat) : GTab := gOf [(353, math_bits_Mul64_S N)]
theorem math_bits_Mul_gok (N : Nat) : GOk Tryz.prog (math_bits_Mul_G N) := gOf_ok ⟨math_bits_Mul64_pc N, trivial⟩
noncomputable def math_bits_Mul_code : Code := (Tryz.f329.body).getD .skip
noncomputable def math_bits_Mul (N : Nat) (x : Int) (y : Int) : Option ((Int × Int × Unit) × (Unit)) :=
  ((math_bits_Mul64 N x y).bind fun r =>
    some ((r.1.1, r.1.2.1, ()), ()))
noncomputable def math_bits_Mul_S (N : Nat) : FSum := ⟨math_bits_Mul_ps, math_bits_Mul_rs, fun x => math_bits_Mul N x.1 x.2.1⟩
theorem math_bits_Mul_run (N : Nat) (x : argsT math_bits_Mul_ps) : math_bits_Mul N x.1 x.2.1 = funF (math_bits_Mul_G N) tab [] Tryz.f329 math_bits_Mul_ps math_bits_Mul_rs x := by kernel_rfl
theorem math_bits_Mul_pc (N : Nat) : PC Tryz.prog 329 (math_bits_Mul_S N) := by
  have e : math_bits_Mul_S N = ⟨math_bits_Mul_ps, math_bits_Mul_rs, funF (math_bits_Mul_G N) tab [] Tryz.f329 math_bits_Mul_ps math_bits_Mul_rs⟩ := congrArg (FSum.mk math_bits_Mul_ps math_bits_Mul_rs) (funext (math_bits_Mul_run N))
  rw [e]
  exact fun_ok (c := math_bits_Mul_code) progOk (math_bits_Mul_gok N) (draw_ok progOk (math_bits_Mul_gok N)) Tryz.call329 Tryz.func329 (by kernel_rfl) (lsOk_at (L := []) trivial) (by kernel_rfl) (by kernel_rfl) (by kernel_rfl) (by kernel_rfl) (by kernel_rfl)

/-! ### slices_Repeat_LI_int -/
abbrev slices_Repeat_LI_int_ps : List (PV.Mode × Ty) := [(.ro, LI), (.ro, I)]
abbrev slices_Repeat_LI_int_rs : List (Bool × Ty) := [(true, LI)]
noncomputable def slices_Repeat_LI_int_G (N : Nat) : GTab := gOf [(329, math_bits_Mul_S N)]
theorem slices_Repeat_LI_int_gok (N : Nat) : GOk Tryz.prog (slices_Repeat_LI_int_G N) := gOf_ok ⟨math_bits_Mul_pc N, trivial⟩
noncomputable def slices_Repeat_LI_int_code : Code := (Tryz.f287.body).getD .skip
noncomputable def slices_Repeat_LI_int_l0_sh : Sh := ⟨[(7, .one (.ref 0)), (8, .one (.ro I))], [.sl 3 I .own]⟩
noncomputable def slices_Repeat_LI_int_l0_ex : List (Ex × Sh) := [(.exit 0, ⟨[(7, .one (.ref 0))], [.sl 3 I .own]⟩)]
noncomputable def slices_Repeat_LI_int_l0 {R : Type} (N : Nat) (k0 : (List Int) → Option R) : Nat → Int → (List Int) → Option R
  | 0, _, _ => none
  | K + 1, n, o =>
    (br (ilt n (tLen o))
      ((chk (ile 0 n && ile n (tLen o) && ile (tLen o) (tLen o))
        (chk (ile 0 0 && ile 0 n && ile n (tLen o))
        (slices_Repeat_LI_int_l0 N k0 K (IntKind.i64.wrap (n + (tMin ((tLen o) - n) (tLen (tCut o 0 n))))) (tPut o n (tCut (tCut o 0 n) 0 (tMin ((tLen o) - n) (tLen (tCut o 0 n)))))))))
      (k0 o))
noncomputable def slices_Repeat_LI_int_l0_again {R : Type} (N : Nat) (ks : (j : Nat) → ((slices_Repeat_LI_int_l0_ex.getD j (.ret, Sh.none)).2).T → Option R) (k : Nat) (x : slices_Repeat_LI_int_l0_sh.T) : Option R :=
  slices_Repeat_LI_int_l0 N (fun y0 => ks 0 (((), ()), (y0, ()))) k x.1.2.1 x.2.1
noncomputable def slices_Repeat_LI_int_l0_s (N : Nat) : LSum := ⟨slices_Repeat_LI_int_l0_sh, slices_Repeat_LI_int_l0_ex, fun x ks => slices_Repeat_LI_int_l0_again N ks N x⟩
theorem slices_Repeat_LI_int_l0_step (N : Nat) (R : Type) (k : Nat) (x : slices_Repeat_LI_int_l0_sh.T) (ks : (j : Nat) → ((slices_Repeat_LI_int_l0_ex.getD j (.ret, Sh.none)).2).T → Option R) : slices_Repeat_LI_int_l0_again N ks (k + 1) x = roundF (slices_Repeat_LI_int_G N) tab [] (loopAt slices_Repeat_LI_int_code 0) slices_Repeat_LI_int_l0_sh slices_Repeat_LI_int_l0_ex (fun y => slices_Repeat_LI_int_l0_again N ks k y) ks x := by kernel_rfl
theorem slices_Repeat_LI_int_l0_ok (N : Nat) : LoopOk Tryz.prog Tryz.f287.ntmps (slices_Repeat_LI_int_l0_s N) (loopAt slices_Repeat_LI_int_code 0) :=
  loop_ok (l := slices_Repeat_LI_int_l0_s N) progOk (slices_Repeat_LI_int_gok N) (draw_ok progOk (slices_Repeat_LI_int_gok N)) (fun R k x ks => slices_Repeat_LI_int_l0_again N ks k x) (fun _ _ _ => rfl) (fun R k x ks => slices_Repeat_LI_int_l0_step N R k x ks) (fun R x ks r h => ⟨N, h⟩) (lsOk_at (L := []) trivial) (by kernel_rfl) (by kernel_rfl)
noncomputable def slices_Repeat_LI_int (N : Nat) (x : (List Int)) (count : Int) : Option (((List Int) × Unit) × (Unit)) :=
  (br (ilt count 0)
    (none)
    (((math_bits_Mul N (IntKind.u64.wrap ((tLen x))) (IntKind.u64.wrap (count))).bind fun r =>
      (br (ilt 0 r.1.1)
        (none)
        ((br (ilt 9223372036854775807 r.1.2.1)
          (none)
          ((chk (ile 0 (IntKind.i64.wrap (r.1.2.1)) && ile (IntKind.i64.wrap (r.1.2.1)) (IntKind.i64.wrap (r.1.2.1)) && fits (IntKind.i64.wrap (r.1.2.1)))
            (slices_Repeat_LI_int_l0 N (fun o => some ((o, ()), ())) N (tMin (tLen (tRep (IntKind.i64.wrap (r.1.2.1)) (0 : Int))) (tLen x)) (tPut (tRep (IntKind.i64.wrap (r.1.2.1)) (0 : Int)) 0 (tCut x 0 (tMin (tLen (tRep (IntKind.i64.wrap (r.1.2.1)) (0 : Int))) (tLen x)))))))))))))
noncomputable def slices_Repeat_LI_int_S (N : Nat) : FSum := ⟨slices_Repeat_LI_int_ps, slices_Repeat_LI_int_rs, fun x => slices_Repeat_LI_int N x.1 x.2.1⟩
theorem slices_Repeat_LI_int_run (N : Nat) (x : argsT slices_Repeat_LI_int_ps) : slices_Repeat_LI_int N x.1 x.2.1 = funF (slices_Repeat_LI_int_G N) tab [slices_Repeat_LI_int_l0_s N] Tryz.f287 slices_Repeat_LI_int_ps slices_Repeat_LI_int_rs x := by kernel_rfl
theorem slices_Repeat_LI_int_pc (N : Nat) : PC Tryz.prog 287 (slices_Repeat_LI_int_S N) := by
  have e : slices_Repeat_LI_int_S N = ⟨slices_Repeat_LI_int_ps, slices_Repeat_LI_int_rs, funF (slices_Repeat_LI_int_G N) tab [slices_Repeat_LI_int_l0_s N] Tryz.f287 slices_Repeat_LI_int_ps slices_Repeat_LI_int_rs⟩ := congrArg (FSum.mk slices_Repeat_LI_int_ps slices_Repeat_LI_int_rs) (funext (slices_Repeat_LI_int_run N))
  rw [e]
  exact fun_ok (c := slices_Repeat_LI_int_code) progOk (slices_Repeat_LI_int_gok N) (draw_ok progOk (slices_Repeat_LI_int_gok N)) Tryz.call287 Tryz.func287 (by kernel_rfl) (lsOk_at (L := [slices_Repeat_LI_int_l0_s N]) ⟨slices_Repeat_LI_int_l0_ok N, trivial⟩) (by kernel_rfl) (by kernel_rfl) (by kernel_rfl) (by kernel_rfl) (by kernel_rfl)

/-! ### impl_spread -/
abbrev impl_spread_ps : List (PV.Mode × Ty) := [(.ro, LLI), (.ro, I)]
abbrev impl_spread_rs : List (Bool × Ty) := [(true, LI)]
noncomputable def impl_spread_G (N : Nat) : GTab := gOf [(287, slices_Repeat_LI_int_S N)]
theorem impl_spread_gok (N : Nat) : GOk Tryz.prog (impl_spread_G N) := gOf_ok ⟨slices_Repeat_LI_int_pc N, trivial⟩
noncomputable def impl_spread_code : Code := (Tryz.f218.body).getD .skip
noncomputable def impl_spread_l0_0_sh : Sh := ⟨[(0, .one (.ro LLI)), (5, .one (.ref 0)), (6, .one (.sub 1 1)), (7, .one (.ro I)), (30, .one (.ro LI)), (31, .one (.ro I)), (32, .one (.ro I))], [.sl 3 I .own, .sl 3 I .own]⟩
noncomputable def impl_spread_l0_0_ex : List (Ex × Sh) := [(.exit 2, ⟨[(0, .one (.ro LLI)), (5, .one (.ref 0)), (6, .one (.sub 1 1))], [.sl 3 I .own, .sl 3 I .own]⟩)]
noncomputable def impl_spread_l0_0 {R : Type} (N : Nat) (k0 : (List (List Int)) → Int → Int → (List Int) → (List Int) → Option R) : Nat → (List (List Int)) → Int → Int → Int → (List Int) → Int → Int → (List Int) → (List Int) → Option R
  | 0, _, _, _, _, _, _, _, _, _ => none
  | K + 1, roads2, queue2, queue3, i, x, x1, x2, o2, o3 =>
    (br (ilt x2 x1)
      ((chk (inb x x2)
        (chk (inb o2 (rdI x x2))
        (br (ilt (rdI o2 (rdI x x2)) 0)
        ((chk (inb o2 i)
          (chk (inb o2 (rdI x x2))
          (chk (room (tCut o3 queue2 queue3) [(rdI x x2)])
          (impl_spread_l0_0 N k0 K roads2 0 (tLen (tApp (tCut o3 queue2 queue3) [(rdI x x2)])) i x x1 (IntKind.i64.wrap (x2 + 1)) (tSet o2 (rdI x x2) (IntKind.i64.wrap ((rdI o2 i) + 1))) (tApp (tCut o3 queue2 queue3) [(rdI x x2)]))))))
        (impl_spread_l0_0 N k0 K roads2 queue2 queue3 i x x1 (IntKind.i64.wrap (x2 + 1)) o2 o3)))))
      (k0 roads2 queue2 queue3 o2 o3))
noncomputable def impl_spread_l0_0_again {R : Type} (N : Nat) (ks : (j : Nat) → ((impl_spread_l0_0_ex.getD j (.ret, Sh.none)).2).T → Option R) (k : Nat) (x : impl_spread_l0_0_sh.T) : Option R :=
  impl_spread_l0_0 N (fun y0 y1 y2 y3 y4 => ks 0 ((y0, (), (y1, y2), ()), (y3, y4, ()))) k x.1.1 x.1.2.2.1.1 x.1.2.2.1.2 x.1.2.2.2.1 x.1.2.2.2.2.1 x.1.2.2.2.2.2.1 x.1.2.2.2.2.2.2.1 x.2.1 x.2.2.1
noncomputable def impl_spread_l0_0_s (N : Nat) : LSum := ⟨impl_spread_l0_0_sh, impl_spread_l0_0_ex, fun x ks => impl_spread_l0_0_again N ks N x⟩
theorem impl_spread_l0_0_step (N : Nat) (R : Type) (k : Nat) (x : impl_spread_l0_0_sh.T) (ks : (j : Nat) → ((impl_spread_l0_0_ex.getD j (.ret, Sh.none)).2).T → Option R) : impl_spread_l0_0_again N ks (k + 1) x = roundF (impl_spread_G N) tab [] (loopAt (loopAt impl_spread_code 0) 0) impl_spread_l0_0_sh impl_spread_l0_0_ex (fun y => impl_spread_l0_0_again N ks k y) ks x := by kernel_rfl
theorem impl_spread_l0_0_ok (N : Nat) : LoopOk Tryz.prog Tryz.f218.ntmps (impl_spread_l0_0_s N) (loopAt (loopAt impl_spread_code 0) 0) :=
  loop_ok (l := impl_spread_l0_0_s N) progOk (impl_spread_gok N) (draw_ok progOk (impl_spread_gok N)) (fun R k x ks => impl_spread_l0_0_again N ks k x) (fun _ _ _ => rfl) (fun R k x ks => impl_spread_l0_0_step N R k x ks) (fun R x ks r h => ⟨N, h⟩) (lsOk_at (L := []) trivial) (by kernel_rfl) (by kernel_rfl)
noncomputable def impl_spread_l0_sh : Sh := ⟨[(0, .one (.ro LLI)), (5, .one (.ref 0)), (6, .one (.sub 1 1))], [.sl 3 I .own, .sl 3 I .own]⟩
noncomputable def impl_spread_l0_ex : List (Ex × Sh) := [(.exit 0, ⟨[(5, .one (.ref 0))], [.sl 3 I .own]⟩)]
noncomputable def impl_spread_l0 {R : Type} (N : Nat) (k0 : (List Int) → Option R) : Nat → (List (List Int)) → Int → Int → (List Int) → (List Int) → Option R
  | 0, _, _, _, _, _ => none
  | K + 1, roads1, queue, queue1, o, o1 =>
    (br (ilt 0 (queue1 - queue))
      ((chk (ile 0 0 && ilt 0 (queue1 - queue))
        (chk (ile 0 1 && ile 1 (queue1 - queue) && ile (queue1 - queue) (queue1 - queue))
        (chk (inb roads1 (rdI o1 (queue + 0)))
        (impl_spread_l0_0 N (fun roads2 queue2 queue3 o2 o3 => impl_spread_l0 N k0 K roads2 queue2 queue3 o2 o3) N roads1 (queue + 1) (queue + (queue1 - queue)) (rdI o1 (queue + 0)) (rdL roads1 (rdI o1 (queue + 0))) (tLen (rdL roads1 (rdI o1 (queue + 0)))) 0 o o1)))))
      (k0 o))
noncomputable def impl_spread_l0_again {R : Type} (N : Nat) (ks : (j : Nat) → ((impl_spread_l0_ex.getD j (.ret, Sh.none)).2).T → Option R) (k : Nat) (x : impl_spread_l0_sh.T) : Option R :=
  impl_spread_l0 N (fun y0 => ks 0 (((), ()), (y0, ()))) k x.1.1 x.1.2.2.1.1 x.1.2.2.1.2 x.2.1 x.2.2.1
noncomputable def impl_spread_l0_s (N : Nat) : LSum := ⟨impl_spread_l0_sh, impl_spread_l0_ex, fun x ks => impl_spread_l0_again N ks N x⟩
theorem impl_spread_l0_step (N : Nat) (R : Type) (k : Nat) (x : impl_spread_l0_sh.T) (ks : (j : Nat) → ((impl_spread_l0_ex.getD j (.ret, Sh.none)).2).T → Option R) : impl_spread_l0_again N ks (k + 1) x = roundF (impl_spread_G N) tab [impl_spread_l0_0_s N] (loopAt impl_spread_code 0) impl_spread_l0_sh impl_spread_l0_ex (fun y => impl_spread_l0_again N ks k y) ks x := by kernel_rfl
theorem impl_spread_l0_ok (N : Nat) : LoopOk Tryz.prog Tryz.f218.ntmps (impl_spread_l0_s N) (loopAt impl_spread_code 0) :=
  loop_ok (l := impl_spread_l0_s N) progOk (impl_spread_gok N) (draw_ok progOk (impl_spread_gok N)) (fun R k x ks => impl_spread_l0_again N ks k x) (fun _ _ _ => rfl) (fun R k x ks => impl_spread_l0_step N R k x ks) (fun R x ks r h => ⟨N, h⟩) (lsOk_at (L := [impl_spread_l0_0_s N]) ⟨impl_spread_l0_0_ok N, trivial⟩) (by kernel_rfl) (by kernel_rfl)
noncomputable def impl_spread (N : Nat) (roads : (List (List Int))) (fromv : Int) : Option (((List Int) × Unit) × (Unit)) :=
  ((slices_Repeat_LI_int N [(-1)] (tLen roads)).bind fun r =>
    (chk (inb r.1.1 fromv)
      (impl_spread_l0 N (fun o => some ((o, ()), ())) N roads 0 (tLen [fromv]) (tSet r.1.1 fromv 0) [fromv])))
noncomputable def impl_spread_S (N : Nat) : FSum := ⟨impl_spread_ps, impl_spread_rs, fun x => impl_spread N x.1 x.2.1⟩
theorem impl_spread_run (N : Nat) (x : argsT impl_spread_ps) : impl_spread N x.1 x.2.1 = funF (impl_spread_G N) tab [impl_spread_l0_s N] Tryz.f218 impl_spread_ps impl_spread_rs x := by kernel_rfl
theorem impl_spread_pc (N : Nat) : PC Tryz.prog 218 (impl_spread_S N) := by
  have e : impl_spread_S N = ⟨impl_spread_ps, impl_spread_rs, funF (impl_spread_G N) tab [impl_spread_l0_s N] Tryz.f218 impl_spread_ps impl_spread_rs⟩ := congrArg (FSum.mk impl_spread_ps impl_spread_rs) (funext (impl_spread_run N))
  rw [e]
  exact fun_ok (c := impl_spread_code) progOk (impl_spread_gok N) (draw_ok progOk (impl_spread_gok N)) Tryz.call218 Tryz.func218 (by kernel_rfl) (lsOk_at (L := [impl_spread_l0_s N]) ⟨impl_spread_l0_ok N, trivial⟩) (by kernel_rfl) (by kernel_rfl) (by kernel_rfl) (by kernel_rfl) (by kernel_rfl)

/-! ### impl_Space_firstWay -/
abbrev impl_Space_firstWay_ps : List (PV.Mode × Ty) := [(.ro, QLLILQII), (.ro, I), (.ro, I)]
abbrev impl_Space_firstWay_rs : List (Bool × Ty) := [(true, LI), (true, .bool)]
noncomputable def impl_Space_firstWay_G (N : Nat) : GTab := gOf [(182, impl_Space_roads_S N), (218, impl_spread_S N)]
theorem impl_Space_firstWay_gok (N : Nat) : GOk Tryz.prog (impl_Space_firstWay_G N) := gOf_ok ⟨impl_Space_roads_pc N, impl_spread_pc N, trivial⟩
noncomputable def impl_Space_firstWay_code : Code := (Tryz.f178.body).getD .skip
noncomputable def impl_Space_firstWay_l0_0_sh : Sh := ⟨[(1, .one (.ro I)), (2, .one (.ro I)), (8, .one (.ref 0)), (9, .one (.ref 1)), (10, .one (.ref 2)), (31, .one (.el 0)), (32, .one (.ro I)), (33, .one (.ro I))], [.sl 25 LI .deep, .sl 3 I .own, .sl 3 I .own]⟩
noncomputable def impl_Space_firstWay_l0_0_ex : List (Ex × Sh) := [(.exit 2, ⟨[(1, .one (.ro I)), (2, .one (.ro I)), (8, .one (.ref 0)), (9, .one (.ref 1)), (10, .one (.ref 2))], [.sl 25 LI .deep, .sl 3 I .own, .sl 3 I .own]⟩)]
noncomputable def impl_Space_firstWay_l0_0 {R : Type} (N : Nat) (k0 : Int → Int → (List (List Int)) → (List Int) → (List Int) → Option R) : Nat → Int → Int → Int → Int → Int → (List (List Int)) → (List Int) → (List Int) → Option R
  | 0, _, _, _, _, _, _, _, _ => none
  | K + 1, i2, j2, x1, x2, x3, o3, o4, o5 =>
    (br (ilt x3 x2)
      ((chk (inb (rdL o3 x1) x3)
        (chk (inb o4 (rdI (rdL o3 x1) x3))
        (chk (inb o4 i2)
        (br (ieq (rdI o4 (rdI (rdL o3 x1) x3)) (IntKind.i64.wrap ((rdI o4 i2) - 1)))
        (k0 (rdI (rdL o3 x1) x3) j2 o3 o4 o5)
        (impl_Space_firstWay_l0_0 N k0 K i2 j2 x1 x2 (IntKind.i64.wrap (x3 + 1)) o3 o4 o5))))))
      (k0 i2 j2 o3 o4 o5))
noncomputable def impl_Space_firstWay_l0_0_again {R : Type} (N : Nat) (ks : (j : Nat) → ((impl_Space_firstWay_l0_0_ex.getD j (.ret, Sh.none)).2).T → Option R) (k : Nat) (x : impl_Space_firstWay_l0_0_sh.T) : Option R :=
  impl_Space_firstWay_l0_0 N (fun y0 y1 y2 y3 y4 => ks 0 ((y0, y1, (), (), (), ()), (y2, y3, y4, ()))) k x.1.1 x.1.2.1 x.1.2.2.2.2.2.1 x.1.2.2.2.2.2.2.1 x.1.2.2.2.2.2.2.2.1 x.2.1 x.2.2.1 x.2.2.2.1
noncomputable def impl_Space_firstWay_l0_0_s (N : Nat) : LSum := ⟨impl_Space_firstWay_l0_0_sh, impl_Space_firstWay_l0_0_ex, fun x ks => impl_Space_firstWay_l0_0_again N ks N x⟩
theorem impl_Space_firstWay_l0_0_step (N : Nat) (R : Type) (k : Nat) (x : impl_Space_firstWay_l0_0_sh.T) (ks : (j : Nat) → ((impl_Space_firstWay_l0_0_ex.getD j (.ret, Sh.none)).2).T → Option R) : impl_Space_firstWay_l0_0_again N ks (k + 1) x = roundF (impl_Space_firstWay_G N) tab [] (loopAt (loopAt impl_Space_firstWay_code 0) 0) impl_Space_firstWay_l0_0_sh impl_Space_firstWay_l0_0_ex (fun y => impl_Space_firstWay_l0_0_again N ks k y) ks x := by kernel_rfl
theorem impl_Space_firstWay_l0_0_ok (N : Nat) : LoopOk Tryz.prog Tryz.f178.ntmps (impl_Space_firstWay_l0_0_s N) (loopAt (loopAt impl_Space_firstWay_code 0) 0) :=
  loop_ok (l := impl_Space_firstWay_l0_0_s N) progOk (impl_Space_firstWay_gok N) (draw_ok progOk (impl_Space_firstWay_gok N)) (fun R k x ks => impl_Space_firstWay_l0_0_again N ks k x) (fun _ _ _ => rfl) (fun R k x ks => impl_Space_firstWay_l0_0_step N R k x ks) (fun R x ks r h => ⟨N, h⟩) (lsOk_at (L := []) trivial) (by kernel_rfl) (by kernel_rfl)
noncomputable def impl_Space_firstWay_l0_sh : Sh := ⟨[(1, .one (.ro I)), (2, .one (.ro I)), (8, .one (.ref 0)), (9, .one (.ref 1)), (10, .one (.ref 2))], [.sl 25 LI .deep, .sl 3 I .own, .sl 3 I .own]⟩
noncomputable def impl_Space_firstWay_l0_ex : List (Ex × Sh) := [(.exit 0, ⟨[(10, .one (.ref 0))], [.sl 3 I .own]⟩)]
noncomputable def impl_Space_firstWay_l0 {R : Type} (N : Nat) (k0 : (List Int) → Option R) : Nat → Int → Int → (List (List Int)) → (List Int) → (List Int) → Option R
  | 0, _, _, _, _, _ => none
  | K + 1, i1, j1, o, o1, o2 =>
    (br (ine i1 j1)
      ((chk (inb o i1)
        (impl_Space_firstWay_l0_0 N (fun i2 j2 o3 o4 o5 => (chk (room o5 [i2])
        (impl_Space_firstWay_l0 N k0 K i2 j2 o3 o4 (tApp o5 [i2])))) N i1 j1 i1 (tLen (rdL o i1)) 0 o o1 o2)))
      (k0 o2))
noncomputable def impl_Space_firstWay_l0_again {R : Type} (N : Nat) (ks : (j : Nat) → ((impl_Space_firstWay_l0_ex.getD j (.ret, Sh.none)).2).T → Option R) (k : Nat) (x : impl_Space_firstWay_l0_sh.T) : Option R :=
  impl_Space_firstWay_l0 N (fun y0 => ks 0 (((), ()), (y0, ()))) k x.1.1 x.1.2.1 x.2.1 x.2.2.1 x.2.2.2.1
noncomputable def impl_Space_firstWay_l0_s (N : Nat) : LSum := ⟨impl_Space_firstWay_l0_sh, impl_Space_firstWay_l0_ex, fun x ks => impl_Space_firstWay_l0_again N ks N x⟩
theorem impl_Space_firstWay_l0_step (N : Nat) (R : Type) (k : Nat) (x : impl_Space_firstWay_l0_sh.T) (ks : (j : Nat) → ((impl_Space_firstWay_l0_ex.getD j (.ret, Sh.none)).2).T → Option R) : impl_Space_firstWay_l0_again N ks (k + 1) x = roundF (impl_Space_firstWay_G N) tab [impl_Space_firstWay_l0_0_s N] (loopAt impl_Space_firstWay_code 0) impl_Space_firstWay_l0_sh impl_Space_firstWay_l0_ex (fun y => impl_Space_firstWay_l0_again N ks k y) ks x := by kernel_rfl
theorem impl_Space_firstWay_l0_ok (N : Nat) : LoopOk Tryz.prog Tryz.f178.ntmps (impl_Space_firstWay_l0_s N) (loopAt impl_Space_firstWay_code 0) :=
  loop_ok (l := impl_Space_firstWay_l0_s N) progOk (impl_Space_firstWay_gok N) (draw_ok progOk (impl_Space_firstWay_gok N)) (fun R k x ks => impl_Space_firstWay_l0_again N ks k x) (fun _ _ _ => rfl) (fun R k x ks => impl_Space_firstWay_l0_step N R k x ks) (fun R x ks r h => ⟨N, h⟩) (lsOk_at (L := [impl_Space_firstWay_l0_0_s N]) ⟨impl_Space_firstWay_l0_0_ok N, trivial⟩) (by kernel_rfl) (by kernel_rfl)
noncomputable def impl_Space_firstWay (N : Nat) (x : ((List (List Int)) × (List (Int × Int)))) (i : Int) (j : Int) : Option (((List Int) × Bool × Unit) × (Unit)) :=
  ((impl_Space_roads N (x.1, x.2)).bind fun r =>
    ((impl_spread N r.1.1 j).bind fun r1 =>
      (chk (inb r1.1.1 i)
        (br (ilt (rdI r1.1.1 i) 0)
        (some (([], false, ()), ()))
        (impl_Space_firstWay_l0 N (fun o => some ((o, true, ()), ())) N i j r.1.1 r1.1.1 [i])))))
noncomputable def impl_Space_firstWay_S (N : Nat) : FSum := ⟨impl_Space_firstWay_ps, impl_Space_firstWay_rs, fun x => impl_Space_firstWay N x.1 x.2.1 x.2.2.1⟩
theorem impl_Space_firstWay_run (N : Nat) (x : argsT impl_Space_firstWay_ps) : impl_Space_firstWay N x.1 x.2.1 x.2.2.1 = funF (impl_Space_firstWay_G N) tab [impl_Space_firstWay_l0_s N] Tryz.f178 impl_Space_firstWay_ps impl_Space_firstWay_rs x := by kernel_rfl
theorem impl_Space_firstWay_pc (N : Nat) : PC Tryz.prog 178 (impl_Space_firstWay_S N) := by
  have e : impl_Space_firstWay_S N = ⟨impl_Space_firstWay_ps, impl_Space_firstWay_rs, funF (impl_Space_firstWay_G N) tab [impl_Space_firstWay_l0_s N] Tryz.f178 impl_Space_firstWay_ps impl_Space_firstWay_rs⟩ := congrArg (FSum.mk impl_Space_firstWay_ps impl_Space_firstWay_rs) (funext (impl_Space_firstWay_run N))
  rw [e]
  exact fun_ok (c := impl_Space_firstWay_code) progOk (impl_Space_firstWay_gok N) (draw_ok progOk (impl_Space_firstWay_gok N)) Tryz.call178 Tryz.func178 (by kernel_rfl) (lsOk_at (L := [impl_Space_firstWay_l0_s N]) ⟨impl_Space_firstWay_l0_ok N, trivial⟩) (by kernel_rfl) (by kernel_rfl) (by kernel_rfl) (by kernel_rfl) (by kernel_rfl)

/-! ### slices_Clone_LI_int -/
abbrev slices_Clone_LI_int_ps : List (PV.Mode × Ty) := [(.ro, LI)]
abbrev slices_Clone_LI_int_rs : List (Bool × Ty) := [(true, LI)]
noncomputable def slices_Clone_LI_int_G (N : Nat) : GTab := gOf []
theorem slices_Clone_LI_int_gok (N : Nat) : GOk Tryz.prog (slices_Clone_LI_int_G N) := gOf_ok trivial
noncomputable def slices_Clone_LI_int_code : Code := (Tryz.f242.body).getD .skip
noncomputable def slices_Clone_LI_int (N : Nat) (s : (List Int)) : Option (((List Int) × Unit) × (Unit)) :=
  (br (ieq (tLen s) 0)
    ((amb
      (some (([], ()), ()))
      ((chk (room (α := Int) (β := Int) [] s)
        (some (((tApp [] s), ()), ()))))))
    ((chk (room (α := Int) (β := Int) [] s)
      (some (((tApp [] s), ()), ())))))
noncomputable def slices_Clone_LI_int_S (N : Nat) : FSum := ⟨slices_Clone_LI_int_ps, slices_Clone_LI_int_rs, fun x => slices_Clone_LI_int N x.1⟩
theorem slices_Clone_LI_int_run (N : Nat) (x : argsT slices_Clone_LI_int_ps) : slices_Clone_LI_int N x.1 = funF (slices_Clone_LI_int_G N) tab [] Tryz.f242 slices_Clone_LI_int_ps slices_Clone_LI_int_rs x := by kernel_rfl
theorem slices_Clone_LI_int_pc (N : Nat) : PC Tryz.prog 242 (slices_Clone_LI_int_S N) := by
  have e : slices_Clone_LI_int_S N = ⟨slices_Clone_LI_int_ps, slices_Clone_LI_int_rs, funF (slices_Clone_LI_int_G N) tab [] Tryz.f242 slices_Clone_LI_int_ps slices_Clone_LI_int_rs⟩ := congrArg (FSum.mk slices_Clone_LI_int_ps slices_Clone_LI_int_rs) (funext (slices_Clone_LI_int_run N))
  rw [e]
  exact fun_ok (c := slices_Clone_LI_int_code) progOk (slices_Clone_LI_int_gok N) (draw_ok progOk (slices_Clone_LI_int_gok N)) Tryz.call242 Tryz.func242 (by kernel_rfl) (lsOk_at (L := []) trivial) (by kernel_rfl) (by kernel_rfl) (by kernel_rfl) (by kernel_rfl) (by kernel_rfl)

/-! ### impl_Space_walk -/
abbrev impl_Space_walk_ps : List (PV.Mode × Ty) := [(.ro, QLLILQII), (.ro, LI), (.ro, LI)]
abbrev impl_Space_walk_rs : List (Bool × Ty) := [(true, LLI), (true, .bool)]
noncomputable def impl_Space_walk_G (N : Nat) : GTab := gOf [(169, impl_Space_place_S N), (178, impl_Space_firstWay_S N), (242, slices_Clone_LI_int_S N)]
theorem impl_Space_walk_gok (N : Nat) : GOk Tryz.prog (impl_Space_walk_G N) := gOf_ok ⟨impl_Space_place_pc N, impl_Space_firstWay_pc N, slices_Clone_LI_int_pc N, trivial⟩
noncomputable def impl_Space_walk_code : Code := (Tryz.f152.body).getD .skip
noncomputable def impl_Space_walk_l0_sh : Sh := ⟨[(3, .one (.adr 0 0)), (13, .one (.ro .bool)), (14, .one (.ref 1)), (43, .one (.ref 2)), (44, .one (.ro I)), (45, .one (.ro I))], [.box [.ro LLI, .ro LQII], .sl 25 LI .deep, .sl 3 I .own]⟩
noncomputable def impl_Space_walk_l0_ex : List (Ex × Sh) := [(.exit 0, ⟨[(13, .one (.ro .bool)), (14, .one (.ref 0))], [.sl 25 LI .deep]⟩)]
noncomputable def impl_Space_walk_l0 {R : Type} (N : Nat) (k0 : Bool → (List (List Int)) → Option R) : Nat → Bool → Int → Int → (List (List Int)) → (List (Int × Int)) → (List (List Int)) → (List Int) → Option R
  | 0, _, _, _, _, _, _, _ => none
  | K + 1, ok, x1, x2, o, o1, o2, o3 =>
    (br (ilt x2 x1)
      ((chk (inb o3 x2)
        (chk (inb o (rdI o3 x2))
        ((slices_Clone_LI_int N (rdL o (rdI o3 x2))).bind fun r3 =>
        (chk (room o2 [r3.1.1])
          (impl_Space_walk_l0 N k0 K ok x1 (IntKind.i64.wrap (x2 + 1)) o o1 (tApp o2 [r3.1.1]) o3))))))
      (k0 ok o2))
noncomputable def impl_Space_walk_l0_again {R : Type} (N : Nat) (ks : (j : Nat) → ((impl_Space_walk_l0_ex.getD j (.ret, Sh.none)).2).T → Option R) (k : Nat) (x : impl_Space_walk_l0_sh.T) : Option R :=
  impl_Space_walk_l0 N (fun y0 y1 => ks 0 ((y0, (), ()), (y1, ()))) k x.1.2.1 x.1.2.2.2.2.1 x.1.2.2.2.2.2.1 x.2.1.1 x.2.1.2.1 x.2.2.1 x.2.2.2.1
noncomputable def impl_Space_walk_l0_s (N : Nat) : LSum := ⟨impl_Space_walk_l0_sh, impl_Space_walk_l0_ex, fun x ks => impl_Space_walk_l0_again N ks N x⟩
theorem impl_Space_walk_l0_step (N : Nat) (R : Type) (k : Nat) (x : impl_Space_walk_l0_sh.T) (ks : (j : Nat) → ((impl_Space_walk_l0_ex.getD j (.ret, Sh.none)).2).T → Option R) : impl_Space_walk_l0_again N ks (k + 1) x = roundF (impl_Space_walk_G N) tab [] (loopAt impl_Space_walk_code 0) impl_Space_walk_l0_sh impl_Space_walk_l0_ex (fun y => impl_Space_walk_l0_again N ks k y) ks x := by kernel_rfl
theorem impl_Space_walk_l0_ok (N : Nat) : LoopOk Tryz.prog Tryz.f152.ntmps (impl_Space_walk_l0_s N) (loopAt impl_Space_walk_code 0) :=
  loop_ok (l := impl_Space_walk_l0_s N) progOk (impl_Space_walk_gok N) (draw_ok progOk (impl_Space_walk_gok N)) (fun R k x ks => impl_Space_walk_l0_again N ks k x) (fun _ _ _ => rfl) (fun R k x ks => impl_Space_walk_l0_step N R k x ks) (fun R x ks r h => ⟨N, h⟩) (lsOk_at (L := []) trivial) (by kernel_rfl) (by kernel_rfl)
noncomputable def impl_Space_walk (N : Nat) (x : ((List (List Int)) × (List (Int × Int)))) (a : (List Int)) (b : (List Int)) : Option (((List (List Int)) × Bool × Unit) × (Unit)) :=
  ((impl_Space_place N (x.1, x.2) a).bind fun r =>
    ((impl_Space_place N (x.1, x.2) b).bind fun r1 =>
      (br (!r.1.2.1)
        (some (([], false, ()), ()))
        ((br (!r1.1.2.1)
          (some (([], false, ()), ()))
          (((impl_Space_firstWay N (x.1, x.2) r.1.1 r1.1.1).bind fun r2 =>
            impl_Space_walk_l0 N (fun ok o => some ((o, ok, ()), ())) N r2.1.2.1 (tLen r2.1.1) 0 x.1 x.2 [] r2.1.1)))))))
noncomputable def impl_Space_walk_S (N : Nat) : FSum := ⟨impl_Space_walk_ps, impl_Space_walk_rs, fun x => impl_Space_walk N x.1 x.2.1 x.2.2.1⟩
theorem impl_Space_walk_run (N : Nat) (x : argsT impl_Space_walk_ps) : impl_Space_walk N x.1 x.2.1 x.2.2.1 = funF (impl_Space_walk_G N) tab [impl_Space_walk_l0_s N] Tryz.f152 impl_Space_walk_ps impl_Space_walk_rs x := by kernel_rfl
theorem impl_Space_walk_pc (N : Nat) : PC Tryz.prog 152 (impl_Space_walk_S N) := by
  have e : impl_Space_walk_S N = ⟨impl_Space_walk_ps, impl_Space_walk_rs, funF (impl_Space_walk_G N) tab [impl_Space_walk_l0_s N] Tryz.f152 impl_Space_walk_ps impl_Space_walk_rs⟩ := congrArg (FSum.mk impl_Space_walk_ps impl_Space_walk_rs) (funext (impl_Space_walk_run N))
  rw [e]
  exact fun_ok (c := impl_Space_walk_code) progOk (impl_Space_walk_gok N) (draw_ok progOk (impl_Space_walk_gok N)) Tryz.call152 Tryz.func152 (by kernel_rfl) (lsOk_at (L := [impl_Space_walk_l0_s N]) ⟨impl_Space_walk_l0_ok N, trivial⟩) (by kernel_rfl) (by kernel_rfl) (by kernel_rfl) (by kernel_rfl) (by kernel_rfl)

/-! ### impl_Graph_passage -/
abbrev impl_Graph_passage_ps : List (PV.Mode × Ty) := [(.ro, QILQII), (.ro, I), (.ro, LI), (.ro, LI)]
abbrev impl_Graph_passage_rs : List (Bool × Ty) := [(true, I), (true, LLI), (true, .bool)]
noncomputable def impl_Graph_passage_G (N : Nat) : GTab := gOf [(204, impl_between_S N), (175, impl_Graph_threshold_S N), (152, impl_Space_walk_S N)]
theorem impl_Graph_passage_gok (N : Nat) : GOk Tryz.prog (impl_Graph_passage_G N) := gOf_ok ⟨impl_between_pc N, impl_Graph_threshold_pc N, impl_Space_walk_pc N, trivial⟩
noncomputable def impl_Graph_passage_code : Code := (Tryz.f116.body).getD .skip
noncomputable def impl_Graph_passage_l0_sh : Sh := ⟨[(1, .one (.ro I)), (2, .one (.ro LI)), (3, .one (.ro LI)), (4, .one (.adr 0 0)), (11, .one (.ro I)), (12, .one (.ro I))], [.box [.ro I, .ro LQII]]⟩
noncomputable def impl_Graph_passage_l0_ex : List (Ex × Sh) := [(.ret, ⟨[(8, .one (.ro I)), (9, .one (.ref 0)), (10, .one (.ro .bool))], [.sl 25 LI .deep]⟩), (.exit 0, ⟨[], []⟩)]
noncomputable def impl_Graph_passage_l0 {R : Type} (N : Nat) (k0 : Int → Bool → (List (List Int)) → Option R) (k1 : Unit → Option R) : Nat → Int → (List Int) → (List Int) → Int → Int → Int → (List (Int × Int)) → Option R
  | 0, _, _, _, _, _, _, _ => none
  | K + 1, kind1, a1, b1, kv, byv, o, o1 =>
    ((impl_between N kv 0 o).bind fun r =>
      (br r.1.1
        (((impl_Graph_threshold N (o, o1) kind1 kv).bind fun r1 =>
          ((impl_Space_walk N (r1.1.1.1, r1.1.1.2) a1 b1).bind fun r2 =>
            (br r2.1.2.1
              (k0 kv true r2.1.1)
              (impl_Graph_passage_l0 N k0 k1 K kind1 a1 b1 (IntKind.i64.wrap (kv + byv)) byv o o1)))))
        (k1 ())))
noncomputable def impl_Graph_passage_l0_again {R : Type} (N : Nat) (ks : (j : Nat) → ((impl_Graph_passage_l0_ex.getD j (.ret, Sh.none)).2).T → Option R) (k : Nat) (x : impl_Graph_passage_l0_sh.T) : Option R :=
  impl_Graph_passage_l0 N (fun y0 y1 y2 => ks 0 ((y0, (), y1, ()), (y2, ()))) (fun (_ : Unit) => ks 1 ((), ())) k x.1.1 x.1.2.1 x.1.2.2.1 x.1.2.2.2.2.1 x.1.2.2.2.2.2.1 x.2.1.1 x.2.1.2.1
noncomputable def impl_Graph_passage_l0_s (N : Nat) : LSum := ⟨impl_Graph_passage_l0_sh, impl_Graph_passage_l0_ex, fun x ks => impl_Graph_passage_l0_again N ks N x⟩
theorem impl_Graph_passage_l0_step (N : Nat) (R : Type) (k : Nat) (x : impl_Graph_passage_l0_sh.T) (ks : (j : Nat) → ((impl_Graph_passage_l0_ex.getD j (.ret, Sh.none)).2).T → Option R) : impl_Graph_passage_l0_again N ks (k + 1) x = roundF (impl_Graph_passage_G N) tab [] (loopAt impl_Graph_passage_code 0) impl_Graph_passage_l0_sh impl_Graph_passage_l0_ex (fun y => impl_Graph_passage_l0_again N ks k y) ks x := by kernel_rfl
theorem impl_Graph_passage_l0_ok (N : Nat) : LoopOk Tryz.prog Tryz.f116.ntmps (impl_Graph_passage_l0_s N) (loopAt impl_Graph_passage_code 0) :=
  loop_ok (l := impl_Graph_passage_l0_s N) progOk (impl_Graph_passage_gok N) (draw_ok progOk (impl_Graph_passage_gok N)) (fun R k x ks => impl_Graph_passage_l0_again N ks k x) (fun _ _ _ => rfl) (fun R k x ks => impl_Graph_passage_l0_step N R k x ks) (fun R x ks r h => ⟨N, h⟩) (lsOk_at (L := []) trivial) (by kernel_rfl) (by kernel_rfl)
noncomputable def impl_Graph_passage (N : Nat) (g : (Int × (List (Int × Int)))) (kind : Int) (a : (List Int)) (b : (List Int)) : Option ((Int × (List (List Int)) × Bool × Unit) × (Unit)) :=
  (br (ieq kind 2)
    (impl_Graph_passage_l0 N (fun x x1 o => some ((x, o, x1, ()), ())) (fun (_ : Unit) => some ((0, [], false, ()), ())) N kind a b (if (tLen b) < (tLen a) then (tLen b) else (tLen a)) (-1) g.1 g.2)
    (impl_Graph_passage_l0 N (fun x2 x3 o1 => some ((x2, o1, x3, ()), ())) (fun (_ : Unit) => some ((0, [], false, ()), ())) N kind a b (if (tLen b) > (tLen a) then (tLen b) else (tLen a)) 1 g.1 g.2))
noncomputable def impl_Graph_passage_S (N : Nat) : FSum := ⟨impl_Graph_passage_ps, impl_Graph_passage_rs, fun x => impl_Graph_passage N x.1 x.2.1 x.2.2.1 x.2.2.2.1⟩
theorem impl_Graph_passage_run (N : Nat) (x : argsT impl_Graph_passage_ps) : impl_Graph_passage N x.1 x.2.1 x.2.2.1 x.2.2.2.1 = funF (impl_Graph_passage_G N) tab [impl_Graph_passage_l0_s N] Tryz.f116 impl_Graph_passage_ps impl_Graph_passage_rs x := by kernel_rfl
theorem impl_Graph_passage_pc (N : Nat) : PC Tryz.prog 116 (impl_Graph_passage_S N) := by
  have e : impl_Graph_passage_S N = ⟨impl_Graph_passage_ps, impl_Graph_passage_rs, funF (impl_Graph_passage_G N) tab [impl_Graph_passage_l0_s N] Tryz.f116 impl_Graph_passage_ps impl_Graph_passage_rs⟩ := congrArg (FSum.mk impl_Graph_passage_ps impl_Graph_passage_rs) (funext (impl_Graph_passage_run N))
  rw [e]
  exact fun_ok (c := impl_Graph_passage_code) progOk (impl_Graph_passage_gok N) (draw_ok progOk (impl_Graph_passage_gok N)) Tryz.call116 Tryz.func116 (by kernel_rfl) (lsOk_at (L := [impl_Graph_passage_l0_s N]) ⟨impl_Graph_passage_l0_ok N, trivial⟩) (by kernel_rfl) (by kernel_rfl) (by kernel_rfl) (by kernel_rfl) (by kernel_rfl)

/-! ### impl_ThresholdWay -/
abbrev impl_ThresholdWay_ps : List (PV.Mode × Ty) := [(.ro, QILQII), (.ro, I), (.ro, LI), (.ro, LI)]
abbrev impl_ThresholdWay_rs : List (Bool × Ty) := [(true, LLI), (true, .bool)]
noncomputable def impl_ThresholdWay_G (N : Nat) : GTab := gOf [(115, impl_isOfKind_S N), (116, impl_Graph_passage_S N)]
theorem impl_ThresholdWay_gok (N : Nat) : GOk Tryz.prog (impl_ThresholdWay_G N) := gOf_ok ⟨impl_isOfKind_pc N, impl_Graph_passage_pc N, trivial⟩
noncomputable def impl_ThresholdWay_code : Code := (Tryz.f19.body).getD .skip
noncomputable def impl_ThresholdWay (N : Nat) (g : (Int × (List (Int × Int)))) (kind : Int) (a : (List Int)) (b : (List Int)) : Option (((List (List Int)) × Bool × Unit) × (Unit)) :=
  ((impl_isOfKind N (g.1, g.2) kind a).bind fun r =>
    (br (!r.1.1)
      (some (([], false, ()), ()))
      (((impl_isOfKind N (g.1, g.2) kind b).bind fun r1 =>
        (br (!r1.1.1)
          (some (([], false, ()), ()))
          (((impl_Graph_passage N (g.1, g.2) kind a b).bind fun r2 =>
            some ((r2.1.2.1, r2.1.2.2.1, ()), ()))))))))
noncomputable def impl_ThresholdWay_S (N : Nat) : FSum := ⟨impl_ThresholdWay_ps, impl_ThresholdWay_rs, fun x => impl_ThresholdWay N x.1 x.2.1 x.2.2.1 x.2.2.2.1⟩
theorem impl_ThresholdWay_run (N : Nat) (x : argsT impl_ThresholdWay_ps) : impl_ThresholdWay N x.1 x.2.1 x.2.2.1 x.2.2.2.1 = funF (impl_ThresholdWay_G N) tab [] Tryz.f19 impl_ThresholdWay_ps impl_ThresholdWay_rs x := by kernel_rfl
theorem impl_ThresholdWay_pc (N : Nat) : PC Tryz.prog 19 (impl_ThresholdWay_S N) := by
  have e : impl_ThresholdWay_S N = ⟨impl_ThresholdWay_ps, impl_ThresholdWay_rs, funF (impl_ThresholdWay_G N) tab [] Tryz.f19 impl_ThresholdWay_ps impl_ThresholdWay_rs⟩ := congrArg (FSum.mk impl_ThresholdWay_ps impl_ThresholdWay_rs) (funext (impl_ThresholdWay_run N))
  rw [e]
  exact fun_ok (c := impl_ThresholdWay_code) progOk (impl_ThresholdWay_gok N) (draw_ok progOk (impl_ThresholdWay_gok N)) Tryz.call19 Tryz.func19 (by kernel_rfl) (lsOk_at (L := []) trivial) (by kernel_rfl) (by kernel_rfl) (by kernel_rfl) (by kernel_rfl) (by kernel_rfl)

/-! ### laws_eqIntS -/
abbrev laws_eqIntS_ps : List (PV.Mode × Ty) := [(.ro, LI), (.ro, LI)]
abbrev laws_eqIntS_rs : List (Bool × Ty) := [(true, .bool)]
noncomputable def laws_eqIntS_G (N : Nat) : GTab := gOf []
theorem laws_eqIntS_gok (N : Nat) : GOk Tryz.prog (laws_eqIntS_G N) := gOf_ok trivial
noncomputable def laws_eqIntS_code : Code := (Tryz.f17.body).getD .skip
noncomputable def laws_eqIntS_l0_sh : Sh := ⟨[(0, .one (.ro LI)), (1, .one (.ro LI)), (5, .one (.ro I))], []⟩
noncomputable def laws_eqIntS_l0_ex : List (Ex × Sh) := [(.ret, ⟨[(4, .one (.ro .bool))], []⟩), (.exit 0, ⟨[], []⟩)]
noncomputable def laws_eqIntS_l0 {R : Type} (N : Nat) (k0 : Bool → Option R) (k1 : Unit → Option R) : Nat → (List Int) → (List Int) → Int → Option R
  | 0, _, _, _ => none
  | K + 1, a1, b1, i =>
    (br (ilt i (tLen a1))
      ((chk (inb a1 i)
        (chk (inb b1 i)
        (br (ine (rdI a1 i) (rdI b1 i))
        (k0 false)
        (laws_eqIntS_l0 N k0 k1 K a1 b1 (IntKind.i64.wrap (i + 1)))))))
      (k1 ()))
noncomputable def laws_eqIntS_l0_again {R : Type} (N : Nat) (ks : (j : Nat) → ((laws_eqIntS_l0_ex.getD j (.ret, Sh.none)).2).T → Option R) (k : Nat) (x : laws_eqIntS_l0_sh.T) : Option R :=
  laws_eqIntS_l0 N (fun y0 => ks 0 ((y0, ()), ())) (fun (_ : Unit) => ks 1 ((), ())) k x.1.1 x.1.2.1 x.1.2.2.1
noncomputable def laws_eqIntS_l0_s (N : Nat) : LSum := ⟨laws_eqIntS_l0_sh, laws_eqIntS_l0_ex, fun x ks => laws_eqIntS_l0_again N ks N x⟩
theorem laws_eqIntS_l0_step (N : Nat) (R : Type) (k : Nat) (x : laws_eqIntS_l0_sh.T) (ks : (j : Nat) → ((laws_eqIntS_l0_ex.getD j (.ret, Sh.none)).2).T → Option R) : laws_eqIntS_l0_again N ks (k + 1) x = roundF (laws_eqIntS_G N) tab [] (loopAt laws_eqIntS_code 0) laws_eqIntS_l0_sh laws_eqIntS_l0_ex (fun y => laws_eqIntS_l0_again N ks k y) ks x := by kernel_rfl
theorem laws_eqIntS_l0_ok (N : Nat) : LoopOk Tryz.prog Tryz.f17.ntmps (laws_eqIntS_l0_s N) (loopAt laws_eqIntS_code 0) :=
  loop_ok (l := laws_eqIntS_l0_s N) progOk (laws_eqIntS_gok N) (draw_ok progOk (laws_eqIntS_gok N)) (fun R k x ks => laws_eqIntS_l0_again N ks k x) (fun _ _ _ => rfl) (fun R k x ks => laws_eqIntS_l0_step N R k x ks) (fun R x ks r h => ⟨N, h⟩) (lsOk_at (L := []) trivial) (by kernel_rfl) (by kernel_rfl)
noncomputable def laws_eqIntS (N : Nat) (a : (List Int)) (b : (List Int)) : Option ((Bool × Unit) × (Unit)) :=
  (br (ine (tLen a) (tLen b))
    (some ((false, ()), ()))
    (laws_eqIntS_l0 N (fun x => some ((x, ()), ())) (fun (_ : Unit) => some ((true, ()), ())) N a b 0))
noncomputable def laws_eqIntS_S (N : Nat) : FSum := ⟨laws_eqIntS_ps, laws_eqIntS_rs, fun x => laws_eqIntS N x.1 x.2.1⟩
theorem laws_eqIntS_run (N : Nat) (x : argsT laws_eqIntS_ps) : laws_eqIntS N x.1 x.2.1 = funF (laws_eqIntS_G N) tab [laws_eqIntS_l0_s N] Tryz.f17 laws_eqIntS_ps laws_eqIntS_rs x := by kernel_rfl
theorem laws_eqIntS_pc (N : Nat) : PC Tryz.prog 17 (laws_eqIntS_S N) := by
  have e : laws_eqIntS_S N = ⟨laws_eqIntS_ps, laws_eqIntS_rs, funF (laws_eqIntS_G N) tab [laws_eqIntS_l0_s N] Tryz.f17 laws_eqIntS_ps laws_eqIntS_rs⟩ := congrArg (FSum.mk laws_eqIntS_ps laws_eqIntS_rs) (funext (laws_eqIntS_run N))
  rw [e]
  exact fun_ok (c := laws_eqIntS_code) progOk (laws_eqIntS_gok N) (draw_ok progOk (laws_eqIntS_gok N)) Tryz.call17 Tryz.func17 (by kernel_rfl) (lsOk_at (L := [laws_eqIntS_l0_s N]) ⟨laws_eqIntS_l0_ok N, trivial⟩) (by kernel_rfl) (by kernel_rfl) (by kernel_rfl) (by kernel_rfl) (by kernel_rfl)

/-! ### laws_eqIntSS -/
abbrev laws_eqIntSS_ps : List (PV.Mode × Ty) := [(.ro, LLI), (.ro, LLI)]
abbrev laws_eqIntSS_rs : List (Bool × Ty) := [(true, .bool)]
noncomputable def laws_eqIntSS_G (N : Nat) : GTab := gOf [(17, laws_eqIntS_S N)]
theorem laws_eqIntSS_gok (N : Nat) : GOk Tryz.prog (laws_eqIntSS_G N) := gOf_ok ⟨laws_eqIntS_pc N, trivial⟩
noncomputable def laws_eqIntSS_code : Code := (Tryz.f20.body).getD .skip
noncomputable def laws_eqIntSS_l0_sh : Sh := ⟨[(0, .one (.ro LLI)), (1, .one (.ro LLI)), (5, .one (.ro I))], []⟩
noncomputable def laws_eqIntSS_l0_ex : List (Ex × Sh) := [(.ret, ⟨[(4, .one (.ro .bool))], []⟩), (.exit 0, ⟨[], []⟩)]
noncomputable def laws_eqIntSS_l0 {R : Type} (N : Nat) (k0 : Bool → Option R) (k1 : Unit → Option R) : Nat → (List (List Int)) → (List (List Int)) → Int → Option R
  | 0, _, _, _ => none
  | K + 1, a1, b1, i =>
    (br (ilt i (tLen a1))
      ((chk (inb a1 i)
        (chk (inb b1 i)
        ((laws_eqIntS N (rdL a1 i) (rdL b1 i)).bind fun r =>
        (br (!r.1.1)
          (k0 false)
          (laws_eqIntSS_l0 N k0 k1 K a1 b1 (IntKind.i64.wrap (i + 1))))))))
      (k1 ()))
noncomputable def laws_eqIntSS_l0_again {R : Type} (N : Nat) (ks : (j : Nat) → ((laws_eqIntSS_l0_ex.getD j (.ret, Sh.none)).2).T → Option R) (k : Nat) (x : laws_eqIntSS_l0_sh.T) : Option R :=
  laws_eqIntSS_l0 N (fun y0 => ks 0 ((y0, ()), ())) (fun (_ : Unit) => ks 1 ((), ())) k x.1.1 x.1.2.1 x.1.2.2.1
noncomputable def laws_eqIntSS_l0_s (N : Nat) : LSum := ⟨laws_eqIntSS_l0_sh, laws_eqIntSS_l0_ex, fun x ks => laws_eqIntSS_l0_again N ks N x⟩
theorem laws_eqIntSS_l0_step (N : Nat) (R : Type) (k : Nat) (x : laws_eqIntSS_l0_sh.T) (ks : (j : Nat) → ((laws_eqIntSS_l0_ex.getD j (.ret, Sh.none)).2).T → Option R) : laws_eqIntSS_l0_again N ks (k + 1) x = roundF (laws_eqIntSS_G N) tab [] (loopAt laws_eqIntSS_code 0) laws_eqIntSS_l0_sh laws_eqIntSS_l0_ex (fun y => laws_eqIntSS_l0_again N ks k y) ks x := by kernel_rfl
theorem laws_eqIntSS_l0_ok (N : Nat) : LoopOk Tryz.prog Tryz.f20.ntmps (laws_eqIntSS_l0_s N) (loopAt laws_eqIntSS_code 0) :=
  loop_ok (l := laws_eqIntSS_l0_s N) progOk (laws_eqIntSS_gok N) (draw_ok progOk (laws_eqIntSS_gok N)) (fun R k x ks => laws_eqIntSS_l0_again N ks k x) (fun _ _ _ => rfl) (fun R k x ks => laws_eqIntSS_l0_step N R k x ks) (fun R x ks r h => ⟨N, h⟩) (lsOk_at (L := []) trivial) (by kernel_rfl) (by kernel_rfl)
noncomputable def laws_eqIntSS (N : Nat) (a : (List (List Int))) (b : (List (List Int))) : Option ((Bool × Unit) × (Unit)) :=
  (br (ine (tLen a) (tLen b))
    (some ((false, ()), ()))
    (laws_eqIntSS_l0 N (fun x => some ((x, ()), ())) (fun (_ : Unit) => some ((true, ()), ())) N a b 0))
noncomputable def laws_eqIntSS_S (N : Nat) : FSum := ⟨laws_eqIntSS_ps, laws_eqIntSS_rs, fun x => laws_eqIntSS N x.1 x.2.1⟩
theorem laws_eqIntSS_run (N : Nat) (x : argsT laws_eqIntSS_ps) : laws_eqIntSS N x.1 x.2.1 = funF (laws_eqIntSS_G N) tab [laws_eqIntSS_l0_s N] Tryz.f20 laws_eqIntSS_ps laws_eqIntSS_rs x := by kernel_rfl
theorem laws_eqIntSS_pc (N : Nat) : PC Tryz.prog 20 (laws_eqIntSS_S N) := by
  have e : laws_eqIntSS_S N = ⟨laws_eqIntSS_ps, laws_eqIntSS_rs, funF (laws_eqIntSS_G N) tab [laws_eqIntSS_l0_s N] Tryz.f20 laws_eqIntSS_ps laws_eqIntSS_rs⟩ := congrArg (FSum.mk laws_eqIntSS_ps laws_eqIntSS_rs) (funext (laws_eqIntSS_run N))
  rw [e]
  exact fun_ok (c := laws_eqIntSS_code) progOk (laws_eqIntSS_gok N) (draw_ok progOk (laws_eqIntSS_gok N)) Tryz.call20 Tryz.func20 (by kernel_rfl) (lsOk_at (L := [laws_eqIntSS_l0_s N]) ⟨laws_eqIntSS_l0_ok N, trivial⟩) (by kernel_rfl) (by kernel_rfl) (by kernel_rfl) (by kernel_rfl) (by kernel_rfl)

/-! ### laws_eqIntA2 -/
abbrev laws_eqIntA2_ps : List (PV.Mode × Ty) := [(.ro, QII), (.ro, QII)]
abbrev laws_eqIntA2_rs : List (Bool × Ty) := [(true, .bool)]
noncomputable def laws_eqIntA2_G (N : Nat) : GTab := gOf []
theorem laws_eqIntA2_gok (N : Nat) : GOk Tryz.prog (laws_eqIntA2_G N) := gOf_ok trivial
noncomputable def laws_eqIntA2_code : Code := (Tryz.f225.body).getD .skip
noncomputable def laws_eqIntA2_l0_sh : Sh := ⟨[(2, .one (.adr 0 0)), (3, .one (.adr 1 0)), (5, .one (.num .i64 0))], [.box [.ro I, .ro I], .box [.ro I, .ro I]]⟩
noncomputable def laws_eqIntA2_l0_ex : List (Ex × Sh) := [(.ret, ⟨[(4, .one (.ro .bool))], []⟩), (.exit 0, ⟨[], []⟩)]
noncomputable def laws_eqIntA2_l0 {R : Type} (N : Nat) (k0 : Bool → Option R) (k1 : Unit → Option R) (_ : Nat) (o4 : Int) (o5 : Int) (o6 : Int) (o7 : Int) : Option R :=
  (br (ine o4 o6)
    (k0 false)
    ((br (ine o5 o7)
      (k0 false)
      (k1 ()))))
noncomputable def laws_eqIntA2_l0_again {R : Type} (N : Nat) (ks : (j : Nat) → ((laws_eqIntA2_l0_ex.getD j (.ret, Sh.none)).2).T → Option R) (x : laws_eqIntA2_l0_sh.T) : Option R :=
  laws_eqIntA2_l0 N (fun y0 => ks 0 ((y0, ()), ())) (fun (_ : Unit) => ks 1 ((), ())) N x.2.1.1 x.2.1.2.1 x.2.2.1.1 x.2.2.1.2.1
noncomputable def laws_eqIntA2_l0_s (N : Nat) : LSum := ⟨laws_eqIntA2_l0_sh, laws_eqIntA2_l0_ex, fun x ks => laws_eqIntA2_l0_again N ks x⟩
theorem laws_eqIntA2_l0_unr (N : Nat) (R : Type) (x : laws_eqIntA2_l0_sh.T) (ks : (j : Nat) → ((laws_eqIntA2_l0_ex.getD j (.ret, Sh.none)).2).T → Option R) : laws_eqIntA2_l0_again N ks x = unrF (laws_eqIntA2_G N) tab (loopAt laws_eqIntA2_code 0) laws_eqIntA2_l0_ex ks 3 (fill laws_eqIntA2_l0_sh x) := by kernel_rfl
theorem laws_eqIntA2_l0_ok (N : Nat) : LoopOk Tryz.prog Tryz.f225.ntmps (laws_eqIntA2_l0_s N) (loopAt laws_eqIntA2_code 0) :=
  unroll_ok (l := laws_eqIntA2_l0_s N) progOk (laws_eqIntA2_gok N) (draw_ok progOk (laws_eqIntA2_gok N)) (fun R x ks r h => ⟨3, (laws_eqIntA2_l0_unr N R x ks).symm.trans h⟩) (by kernel_rfl) (by kernel_rfl)
noncomputable def laws_eqIntA2 (N : Nat) (a : (Int × Int)) (b : (Int × Int)) : Option ((Bool × Unit) × (Unit)) :=
  laws_eqIntA2_l0 N (fun x => some ((x, ()), ())) (fun (_ : Unit) => some ((true, ()), ())) N a.1 a.2 b.1 b.2
noncomputable def laws_eqIntA2_S (N : Nat) : FSum := ⟨laws_eqIntA2_ps, laws_eqIntA2_rs, fun x => laws_eqIntA2 N x.1 x.2.1⟩
theorem laws_eqIntA2_run (N : Nat) (x : argsT laws_eqIntA2_ps) : laws_eqIntA2 N x.1 x.2.1 = funF (laws_eqIntA2_G N) tab [laws_eqIntA2_l0_s N] Tryz.f225 laws_eqIntA2_ps laws_eqIntA2_rs x := by kernel_rfl
theorem laws_eqIntA2_pc (N : Nat) : PC Tryz.prog 225 (laws_eqIntA2_S N) := by
  have e : laws_eqIntA2_S N = ⟨laws_eqIntA2_ps, laws_eqIntA2_rs, funF (laws_eqIntA2_G N) tab [laws_eqIntA2_l0_s N] Tryz.f225 laws_eqIntA2_ps laws_eqIntA2_rs⟩ := congrArg (FSum.mk laws_eqIntA2_ps laws_eqIntA2_rs) (funext (laws_eqIntA2_run N))
  rw [e]
  exact fun_ok (c := laws_eqIntA2_code) progOk (laws_eqIntA2_gok N) (draw_ok progOk (laws_eqIntA2_gok N)) Tryz.call225 Tryz.func225 (by kernel_rfl) (lsOk_at (L := [laws_eqIntA2_l0_s N]) ⟨laws_eqIntA2_l0_ok N, trivial⟩) (by kernel_rfl) (by kernel_rfl) (by kernel_rfl) (by kernel_rfl) (by kernel_rfl)

/-! ### laws_eqIntA2S -/
abbrev laws_eqIntA2S_ps : List (PV.Mode × Ty) := [(.ro, LQII), (.ro, LQII)]
abbrev laws_eqIntA2S_rs : List (Bool × Ty) := [(true, .bool)]
noncomputable def laws_eqIntA2S_G (N : Nat) : GTab := gOf [(225, laws_eqIntA2_S N)]
theorem laws_eqIntA2S_gok (N : Nat) : GOk Tryz.prog (laws_eqIntA2S_G N) := gOf_ok ⟨laws_eqIntA2_pc N, trivial⟩
noncomputable def laws_eqIntA2S_code : Code := (Tryz.f117.body).getD .skip
noncomputable def laws_eqIntA2S_l0_sh : Sh := ⟨[(0, .one (.ro LQII)), (1, .one (.ro LQII)), (5, .one (.ro I))], []⟩
noncomputable def laws_eqIntA2S_l0_ex : List (Ex × Sh) := [(.ret, ⟨[(4, .one (.ro .bool))], []⟩), (.exit 0, ⟨[], []⟩)]
noncomputable def laws_eqIntA2S_l0 {R : Type} (N : Nat) (k0 : Bool → Option R) (k1 : Unit → Option R) : Nat → (List (Int × Int)) → (List (Int × Int)) → Int → Option R
  | 0, _, _, _ => none
  | K + 1, a1, b1, i =>
    (br (ilt i (tLen a1))
      ((chk (inb a1 i)
        (chk (inb b1 i)
        ((laws_eqIntA2 N (rdP a1 i) (rdP b1 i)).bind fun r =>
        (br (!r.1.1)
          (k0 false)
          (laws_eqIntA2S_l0 N k0 k1 K a1 b1 (IntKind.i64.wrap (i + 1))))))))
      (k1 ()))
noncomputable def laws_eqIntA2S_l0_again {R : Type} (N : Nat) (ks : (j : Nat) → ((laws_eqIntA2S_l0_ex.getD j (.ret, Sh.none)).2).T → Option R) (k : Nat) (x : laws_eqIntA2S_l0_sh.T) : Option R :=
  laws_eqIntA2S_l0 N (fun y0 => ks 0 ((y0, ()), ())) (fun (_ : Unit) => ks 1 ((), ())) k x.1.1 x.1.2.1 x.1.2.2.1
noncomputable def laws_eqIntA2S_l0_s (N : Nat) : LSum := ⟨laws_eqIntA2S_l0_sh, laws_eqIntA2S_l0_ex, fun x ks => laws_eqIntA2S_l0_again N ks N x⟩
theorem laws_eqIntA2S_l0_step (N : Nat) (R : Type) (k : Nat) (x : laws_eqIntA2S_l0_sh.T) (ks : (j : Nat) → ((laws_eqIntA2S_l0_ex.getD j (.ret, Sh.none)).2).T → Option R) : laws_eqIntA2S_l0_again N ks (k + 1) x = roundF (laws_eqIntA2S_G N) tab [] (loopAt laws_eqIntA2S_code 0) laws_eqIntA2S_l0_sh laws_eqIntA2S_l0_ex (fun y => laws_eqIntA2S_l0_again N ks k y) ks x := by kernel_rfl
theorem laws_eqIntA2S_l0_ok (N : Nat) : LoopOk Tryz.prog Tryz.f117.ntmps (laws_eqIntA2S_l0_s N) (loopAt laws_eqIntA2S_code 0) :=
  loop_ok (l := laws_eqIntA2S_l0_s N) progOk (laws_eqIntA2S_gok N) (draw_ok progOk (laws_eqIntA2S_gok N)) (fun R k x ks => laws_eqIntA2S_l0_again N ks k x) (fun _ _ _ => rfl) (fun R k x ks => laws_eqIntA2S_l0_step N R k x ks) (fun R x ks r h => ⟨N, h⟩) (lsOk_at (L := []) trivial) (by kernel_rfl) (by kernel_rfl)
noncomputable def laws_eqIntA2S (N : Nat) (a : (List (Int × Int))) (b : (List (Int × Int))) : Option ((Bool × Unit) × (Unit)) :=
  (br (ine (tLen a) (tLen b))
    (some ((false, ()), ()))
    (laws_eqIntA2S_l0 N (fun x => some ((x, ()), ())) (fun (_ : Unit) => some ((true, ()), ())) N a b 0))
noncomputable def laws_eqIntA2S_S (N : Nat) : FSum := ⟨laws_eqIntA2S_ps, laws_eqIntA2S_rs, fun x => laws_eqIntA2S N x.1 x.2.1⟩
theorem laws_eqIntA2S_run (N : Nat) (x : argsT laws_eqIntA2S_ps) : laws_eqIntA2S N x.1 x.2.1 = funF (laws_eqIntA2S_G N) tab [laws_eqIntA2S_l0_s N] Tryz.f117 laws_eqIntA2S_ps laws_eqIntA2S_rs x := by kernel_rfl
theorem laws_eqIntA2S_pc (N : Nat) : PC Tryz.prog 117 (laws_eqIntA2S_S N) := by
  have e : laws_eqIntA2S_S N = ⟨laws_eqIntA2S_ps, laws_eqIntA2S_rs, funF (laws_eqIntA2S_G N) tab [laws_eqIntA2S_l0_s N] Tryz.f117 laws_eqIntA2S_ps laws_eqIntA2S_rs⟩ := congrArg (FSum.mk laws_eqIntA2S_ps laws_eqIntA2S_rs) (funext (laws_eqIntA2S_run N))
  rw [e]
  exact fun_ok (c := laws_eqIntA2S_code) progOk (laws_eqIntA2S_gok N) (draw_ok progOk (laws_eqIntA2S_gok N)) Tryz.call117 Tryz.func117 (by kernel_rfl) (lsOk_at (L := [laws_eqIntA2S_l0_s N]) ⟨laws_eqIntA2S_l0_ok N, trivial⟩) (by kernel_rfl) (by kernel_rfl) (by kernel_rfl) (by kernel_rfl) (by kernel_rfl)

/-! ### laws_eqGraph -/
abbrev laws_eqGraph_ps : List (PV.Mode × Ty) := [(.ro, QILQII), (.ro, QILQII)]
abbrev laws_eqGraph_rs : List (Bool × Ty) := [(true, .bool)]
noncomputable def laws_eqGraph_G (N : Nat) : GTab := gOf [(117, laws_eqIntA2S_S N)]
theorem laws_eqGraph_gok (N : Nat) : GOk Tryz.prog (laws_eqGraph_G N) := gOf_ok ⟨laws_eqIntA2S_pc N, trivial⟩
noncomputable def laws_eqGraph_code : Code := (Tryz.f16.body).getD .skip
noncomputable def laws_eqGraph (N : Nat) (a : (Int × (List (Int × Int)))) (b : (Int × (List (Int × Int)))) : Option ((Bool × Unit) × (Unit)) :=
  (br (ine a.1 b.1)
    (some ((false, ()), ()))
    (((laws_eqIntA2S N a.2 b.2).bind fun r =>
      (br (!r.1.1)
        (some ((false, ()), ()))
        (some ((true, ()), ()))))))
noncomputable def laws_eqGraph_S (N : Nat) : FSum := ⟨laws_eqGraph_ps, laws_eqGraph_rs, fun x => laws_eqGraph N x.1 x.2.1⟩
theorem laws_eqGraph_run (N : Nat) (x : argsT laws_eqGraph_ps) : laws_eqGraph N x.1 x.2.1 = funF (laws_eqGraph_G N) tab [] Tryz.f16 laws_eqGraph_ps laws_eqGraph_rs x := by kernel_rfl
theorem laws_eqGraph_pc (N : Nat) : PC Tryz.prog 16 (laws_eqGraph_S N) := by
  have e : laws_eqGraph_S N = ⟨laws_eqGraph_ps, laws_eqGraph_rs, funF (laws_eqGraph_G N) tab [] Tryz.f16 laws_eqGraph_ps laws_eqGraph_rs⟩ := congrArg (FSum.mk laws_eqGraph_ps laws_eqGraph_rs) (funext (laws_eqGraph_run N))
  rw [e]
  exact fun_ok (c := laws_eqGraph_code) progOk (laws_eqGraph_gok N) (draw_ok progOk (laws_eqGraph_gok N)) Tryz.call16 Tryz.func16 (by kernel_rfl) (lsOk_at (L := []) trivial) (by kernel_rfl) (by kernel_rfl) (by kernel_rfl) (by kernel_rfl) (by kernel_rfl)

/-! ### laws_markIntA2S -/
abbrev laws_markIntA2S_ps : List (PV.Mode × Ty) := [(.mut, LQII), (.ro, I)]
abbrev laws_markIntA2S_rs : List (Bool × Ty) := [(true, I)]
noncomputable def laws_markIntA2S_G (N : Nat) : GTab := gOf []
theorem laws_markIntA2S_gok (N : Nat) : GOk Tryz.prog (laws_markIntA2S_G N) := gOf_ok trivial
noncomputable def laws_markIntA2S_code : Code := (Tryz.f118.body).getD .skip
noncomputable def laws_markIntA2S_l0_0_sh : Sh := ⟨[(0, .one (.ref 0)), (1, .one (.ro I)), (5, .one (.ro I)), (6, .one (.num .i64 0))], [.sl 123 QII .own]⟩
noncomputable def laws_markIntA2S_l0_0_ex : List (Ex × Sh) := [(.exit 2, ⟨[(0, .one (.ref 0)), (1, .one (.ro I)), (5, .one (.ro I))], [.sl 123 QII .own]⟩)]
noncomputable def laws_markIntA2S_l0_0 {R : Type} (N : Nat) (k0 : Int → Int → (List (Int × Int)) → Option R) (_ : Nat) (kv3 : Int) (i2 : Int) (o2 : (List (Int × Int))) : Option R :=
  (chk (inb o2 i2)
    (chk (inb (tSet o2 i2 (kv3, (rdP o2 i2).2)) i2)
    (k0 (IntKind.i64.wrap ((IntKind.i64.wrap (kv3 + 1)) + 1)) i2 (tSet (tSet o2 i2 (kv3, (rdP o2 i2).2)) i2 ((rdP (tSet o2 i2 (kv3, (rdP o2 i2).2)) i2).1, (IntKind.i64.wrap (kv3 + 1)))))))
noncomputable def laws_markIntA2S_l0_0_again {R : Type} (N : Nat) (ks : (j : Nat) → ((laws_markIntA2S_l0_0_ex.getD j (.ret, Sh.none)).2).T → Option R) (x : laws_markIntA2S_l0_0_sh.T) : Option R :=
  laws_markIntA2S_l0_0 N (fun y0 y1 y2 => ks 0 (((), y0, y1, ()), (y2, ()))) N x.1.2.1 x.1.2.2.1 x.2.1
noncomputable def laws_markIntA2S_l0_0_s (N : Nat) : LSum := ⟨laws_markIntA2S_l0_0_sh, laws_markIntA2S_l0_0_ex, fun x ks => laws_markIntA2S_l0_0_again N ks x⟩
theorem laws_markIntA2S_l0_0_unr (N : Nat) (R : Type) (x : laws_markIntA2S_l0_0_sh.T) (ks : (j : Nat) → ((laws_markIntA2S_l0_0_ex.getD j (.ret, Sh.none)).2).T → Option R) : laws_markIntA2S_l0_0_again N ks x = unrF (laws_markIntA2S_G N) tab (loopAt (loopAt laws_markIntA2S_code 0) 0) laws_markIntA2S_l0_0_ex ks 3 (fill laws_markIntA2S_l0_0_sh x) := by kernel_rfl
theorem laws_markIntA2S_l0_0_ok (N : Nat) : LoopOk Tryz.prog Tryz.f118.ntmps (laws_markIntA2S_l0_0_s N) (loopAt (loopAt laws_markIntA2S_code 0) 0) :=
  unroll_ok (l := laws_markIntA2S_l0_0_s N) progOk (laws_markIntA2S_gok N) (draw_ok progOk (laws_markIntA2S_gok N)) (fun R x ks r h => ⟨3, (laws_markIntA2S_l0_0_unr N R x ks).symm.trans h⟩) (by kernel_rfl) (by kernel_rfl)
noncomputable def laws_markIntA2S_l0_sh : Sh := ⟨[(0, .one (.ref 0)), (1, .one (.ro I)), (5, .one (.ro I))], [.sl 123 QII .own]⟩
noncomputable def laws_markIntA2S_l0_ex : List (Ex × Sh) := [(.exit 0, ⟨[(0, .one (.ref 0)), (1, .one (.ro I))], [.sl 123 QII .own]⟩)]
noncomputable def laws_markIntA2S_l0 {R : Type} (N : Nat) (k0 : Int → (List (Int × Int)) → Option R) : Nat → Int → Int → (List (Int × Int)) → Option R
  | 0, _, _, _ => none
  | K + 1, kv1, i, o =>
    (br (ilt i (tLen o))
      (laws_markIntA2S_l0_0 N (fun kv2 i1 o1 => laws_markIntA2S_l0 N k0 K kv2 (IntKind.i64.wrap (i1 + 1)) o1) N kv1 i o)
      (k0 kv1 o))
noncomputable def laws_markIntA2S_l0_again {R : Type} (N : Nat) (ks : (j : Nat) → ((laws_markIntA2S_l0_ex.getD j (.ret, Sh.none)).2).T → Option R) (k : Nat) (x : laws_markIntA2S_l0_sh.T) : Option R :=
  laws_markIntA2S_l0 N (fun y0 y1 => ks 0 (((), y0, ()), (y1, ()))) k x.1.2.1 x.1.2.2.1 x.2.1
noncomputable def laws_markIntA2S_l0_s (N : Nat) : LSum := ⟨laws_markIntA2S_l0_sh, laws_markIntA2S_l0_ex, fun x ks => laws_markIntA2S_l0_again N ks N x⟩
theorem laws_markIntA2S_l0_step (N : Nat) (R : Type) (k : Nat) (x : laws_markIntA2S_l0_sh.T) (ks : (j : Nat) → ((laws_markIntA2S_l0_ex.getD j (.ret, Sh.none)).2).T → Option R) : laws_markIntA2S_l0_again N ks (k + 1) x = roundF (laws_markIntA2S_G N) tab [laws_markIntA2S_l0_0_s N] (loopAt laws_markIntA2S_code 0) laws_markIntA2S_l0_sh laws_markIntA2S_l0_ex (fun y => laws_markIntA2S_l0_again N ks k y) ks x := by kernel_rfl
theorem laws_markIntA2S_l0_ok (N : Nat) : LoopOk Tryz.prog Tryz.f118.ntmps (laws_markIntA2S_l0_s N) (loopAt laws_markIntA2S_code 0) :=
  loop_ok (l := laws_markIntA2S_l0_s N) progOk (laws_markIntA2S_gok N) (draw_ok progOk (laws_markIntA2S_gok N)) (fun R k x ks => laws_markIntA2S_l0_again N ks k x) (fun _ _ _ => rfl) (fun R k x ks => laws_markIntA2S_l0_step N R k x ks) (fun R x ks r h => ⟨N, h⟩) (lsOk_at (L := [laws_markIntA2S_l0_0_s N]) ⟨laws_markIntA2S_l0_0_ok N, trivial⟩) (by kernel_rfl) (by kernel_rfl)
noncomputable def laws_markIntA2S (N : Nat) (a : (List (Int × Int))) (kv : Int) : Option ((Int × Unit) × ((List (Int × Int)) × Unit)) :=
  laws_markIntA2S_l0 N (fun kv1 o => some ((kv1, ()), (o, ()))) N kv 0 a
noncomputable def laws_markIntA2S_S (N : Nat) : FSum := ⟨laws_markIntA2S_ps, laws_markIntA2S_rs, fun x => laws_markIntA2S N x.1 x.2.1⟩
theorem laws_markIntA2S_run (N : Nat) (x : argsT laws_markIntA2S_ps) : laws_markIntA2S N x.1 x.2.1 = funF (laws_markIntA2S_G N) tab [laws_markIntA2S_l0_s N] Tryz.f118 laws_markIntA2S_ps laws_markIntA2S_rs x := by kernel_rfl
theorem laws_markIntA2S_pc (N : Nat) : PC Tryz.prog 118 (laws_markIntA2S_S N) := by
  have e : laws_markIntA2S_S N = ⟨laws_markIntA2S_ps, laws_markIntA2S_rs, funF (laws_markIntA2S_G N) tab [laws_markIntA2S_l0_s N] Tryz.f118 laws_markIntA2S_ps laws_markIntA2S_rs⟩ := congrArg (FSum.mk laws_markIntA2S_ps laws_markIntA2S_rs) (funext (laws_markIntA2S_run N))
  rw [e]
  exact fun_ok (c := laws_markIntA2S_code) progOk (laws_markIntA2S_gok N) (draw_ok progOk (laws_markIntA2S_gok N)) Tryz.call118 Tryz.func118 (by kernel_rfl) (lsOk_at (L := [laws_markIntA2S_l0_s N]) ⟨laws_markIntA2S_l0_ok N, trivial⟩) (by kernel_rfl) (by kernel_rfl) (by kernel_rfl) (by kernel_rfl) (by kernel_rfl)

/-! ### laws_markGraph -/
abbrev laws_markGraph_ps : List (PV.Mode × Ty) := [(.mut, QILQII), (.ro, I)]
abbrev laws_markGraph_rs : List (Bool × Ty) := [(true, I)]
noncomputable def laws_markGraph_G (N : Nat) : GTab := gOf [(118, laws_markIntA2S_S N)]
theorem laws_markGraph_gok (N : Nat) : GOk Tryz.prog (laws_markGraph_G N) := gOf_ok ⟨laws_markIntA2S_pc N, trivial⟩
noncomputable def laws_markGraph_code : Code := (Tryz.f21.body).getD .skip
noncomputable def laws_markGraph (N : Nat) (a : (Int × (List (Int × Int)))) (kv : Int) : Option ((Int × Unit) × ((Int × (List (Int × Int))) × Unit)) :=
  ((laws_markIntA2S N a.2 kv).bind fun r =>
    some ((r.1.1, ()), ((a.1, r.2.1), ())))
noncomputable def laws_markGraph_S (N : Nat) : FSum := ⟨laws_markGraph_ps, laws_markGraph_rs, fun x => laws_markGraph N x.1 x.2.1⟩
theorem laws_markGraph_run (N : Nat) (x : argsT laws_markGraph_ps) : laws_markGraph N x.1 x.2.1 = funF (laws_markGraph_G N) tab [] Tryz.f21 laws_markGraph_ps laws_markGraph_rs x := by kernel_rfl
theorem laws_markGraph_pc (N : Nat) : PC Tryz.prog 21 (laws_markGraph_S N) := by
  have e : laws_markGraph_S N = ⟨laws_markGraph_ps, laws_markGraph_rs, funF (laws_markGraph_G N) tab [] Tryz.f21 laws_markGraph_ps laws_markGraph_rs⟩ := congrArg (FSum.mk laws_markGraph_ps laws_markGraph_rs) (funext (laws_markGraph_run N))
  rw [e]
  exact fun_ok (c := laws_markGraph_code) progOk (laws_markGraph_gok N) (draw_ok progOk (laws_markGraph_gok N)) Tryz.call21 Tryz.func21 (by kernel_rfl) (lsOk_at (L := []) trivial) (by kernel_rfl) (by kernel_rfl) (by kernel_rfl) (by kernel_rfl) (by kernel_rfl)

/-! ### laws_markIntS -/
abbrev laws_markIntS_ps : List (PV.Mode × Ty) := [(.mut, LI), (.ro, I)]
abbrev laws_markIntS_rs : List (Bool × Ty) := [(true, I)]
noncomputable def laws_markIntS_G (N : Nat) : GTab := gOf []
theorem laws_markIntS_gok (N : Nat) : GOk Tryz.prog (laws_markIntS_G N) := gOf_ok trivial
noncomputable def laws_markIntS_code : Code := (Tryz.f22.body).getD .skip
noncomputable def laws_markIntS_l0_sh : Sh := ⟨[(0, .one (.ref 0)), (1, .one (.ro I)), (5, .one (.ro I))], [.sl 3 I .own]⟩
noncomputable def laws_markIntS_l0_ex : List (Ex × Sh) := [(.exit 0, ⟨[(0, .one (.ref 0)), (1, .one (.ro I))], [.sl 3 I .own]⟩)]
noncomputable def laws_markIntS_l0 {R : Type} (N : Nat) (k0 : Int → (List Int) → Option R) : Nat → Int → Int → (List Int) → Option R
  | 0, _, _, _ => none
  | K + 1, kv1, i, o =>
    (br (ilt i (tLen o))
      ((chk (inb o i)
        (laws_markIntS_l0 N k0 K (IntKind.i64.wrap (kv1 + 1)) (IntKind.i64.wrap (i + 1)) (tSet o i kv1))))
      (k0 kv1 o))
noncomputable def laws_markIntS_l0_again {R : Type} (N : Nat) (ks : (j : Nat) → ((laws_markIntS_l0_ex.getD j (.ret, Sh.none)).2).T → Option R) (k : Nat) (x : laws_markIntS_l0_sh.T) : Option R :=
  laws_markIntS_l0 N (fun y0 y1 => ks 0 (((), y0, ()), (y1, ()))) k x.1.2.1 x.1.2.2.1 x.2.1
noncomputable def laws_markIntS_l0_s (N : Nat) : LSum := ⟨laws_markIntS_l0_sh, laws_markIntS_l0_ex, fun x ks => laws_markIntS_l0_again N ks N x⟩
theorem laws_markIntS_l0_step (N : Nat) (R : Type) (k : Nat) (x : laws_markIntS_l0_sh.T) (ks : (j : Nat) → ((laws_markIntS_l0_ex.getD j (.ret, Sh.none)).2).T → Option R) : laws_markIntS_l0_again N ks (k + 1) x = roundF (laws_markIntS_G N) tab [] (loopAt laws_markIntS_code 0) laws_markIntS_l0_sh laws_markIntS_l0_ex (fun y => laws_markIntS_l0_again N ks k y) ks x := by kernel_rfl
theorem laws_markIntS_l0_ok (N : Nat) : LoopOk Tryz.prog Tryz.f22.ntmps (laws_markIntS_l0_s N) (loopAt laws_markIntS_code 0) :=
  loop_ok (l := laws_markIntS_l0_s N) progOk (laws_markIntS_gok N) (draw_ok progOk (laws_markIntS_gok N)) (fun R k x ks => laws_markIntS_l0_again N ks k x) (fun _ _ _ => rfl) (fun R k x ks => laws_markIntS_l0_step N R k x ks) (fun R x ks r h => ⟨N, h⟩) (lsOk_at (L := []) trivial) (by kernel_rfl) (by kernel_rfl)
noncomputable def laws_markIntS (N : Nat) (a : (List Int)) (kv : Int) : Option ((Int × Unit) × ((List Int) × Unit)) :=
  laws_markIntS_l0 N (fun kv1 o => some ((kv1, ()), (o, ()))) N kv 0 a
noncomputable def laws_markIntS_S (N : Nat) : FSum := ⟨laws_markIntS_ps, laws_markIntS_rs, fun x => laws_markIntS N x.1 x.2.1⟩
theorem laws_markIntS_run (N : Nat) (x : argsT laws_markIntS_ps) : laws_markIntS N x.1 x.2.1 = funF (laws_markIntS_G N) tab [laws_markIntS_l0_s N] Tryz.f22 laws_markIntS_ps laws_markIntS_rs x := by kernel_rfl
theorem laws_markIntS_pc (N : Nat) : PC Tryz.prog 22 (laws_markIntS_S N) := by
  have e : laws_markIntS_S N = ⟨laws_markIntS_ps, laws_markIntS_rs, funF (laws_markIntS_G N) tab [laws_markIntS_l0_s N] Tryz.f22 laws_markIntS_ps laws_markIntS_rs⟩ := congrArg (FSum.mk laws_markIntS_ps laws_markIntS_rs) (funext (laws_markIntS_run N))
  rw [e]
  exact fun_ok (c := laws_markIntS_code) progOk (laws_markIntS_gok N) (draw_ok progOk (laws_markIntS_gok N)) Tryz.call22 Tryz.func22 (by kernel_rfl) (lsOk_at (L := [laws_markIntS_l0_s N]) ⟨laws_markIntS_l0_ok N, trivial⟩) (by kernel_rfl) (by kernel_rfl) (by kernel_rfl) (by kernel_rfl) (by kernel_rfl)

/-! ### laws_markIntSS -/
abbrev laws_markIntSS_ps : List (PV.Mode × Ty) := [(.mut, LLI), (.ro, I)]
abbrev laws_markIntSS_rs : List (Bool × Ty) := [(true, I)]
noncomputable def laws_markIntSS_G (N : Nat) : GTab := gOf [(22, laws_markIntS_S N)]
theorem laws_markIntSS_gok (N : Nat) : GOk Tryz.prog (laws_markIntSS_G N) := gOf_ok ⟨laws_markIntS_pc N, trivial⟩
noncomputable def laws_markIntSS_code : Code := (Tryz.f23.body).getD .skip
noncomputable def laws_markIntSS_l0_sh : Sh := ⟨[(0, .one (.ref 0)), (1, .one (.ro I)), (5, .one (.ro I))], [.sl 25 LI .deep]⟩
noncomputable def laws_markIntSS_l0_ex : List (Ex × Sh) := [(.exit 0, ⟨[(0, .one (.ref 0)), (1, .one (.ro I))], [.sl 25 LI .deep]⟩)]
noncomputable def laws_markIntSS_l0 {R : Type} (N : Nat) (k0 : Int → (List (List Int)) → Option R) : Nat → Int → Int → (List (List Int)) → Option R
  | 0, _, _, _ => none
  | K + 1, kv1, i, o =>
    (br (ilt i (tLen o))
      ((chk (inb o i)
        ((laws_markIntS N (rdL o i) kv1).bind fun r =>
        laws_markIntSS_l0 N k0 K r.1.1 (IntKind.i64.wrap (i + 1)) (tSet o i r.2.1))))
      (k0 kv1 o))
noncomputable def laws_markIntSS_l0_again {R : Type} (N : Nat) (ks : (j : Nat) → ((laws_markIntSS_l0_ex.getD j (.ret, Sh.none)).2).T → Option R) (k : Nat) (x : laws_markIntSS_l0_sh.T) : Option R :=
  laws_markIntSS_l0 N (fun y0 y1 => ks 0 (((), y0, ()), (y1, ()))) k x.1.2.1 x.1.2.2.1 x.2.1
noncomputable def laws_markIntSS_l0_s (N : Nat) : LSum := ⟨laws_markIntSS_l0_sh, laws_markIntSS_l0_ex, fun x ks => laws_markIntSS_l0_again N ks N x⟩
theorem laws_markIntSS_l0_step (N : Nat) (R : Type) (k : Nat) (x : laws_markIntSS_l0_sh.T) (ks : (j : Nat) → ((laws_markIntSS_l0_ex.getD j (.ret, Sh.none)).2).T → Option R) : laws_markIntSS_l0_again N ks (k + 1) x = roundF (laws_markIntSS_G N) tab [] (loopAt laws_markIntSS_code 0) laws_markIntSS_l0_sh laws_markIntSS_l0_ex (fun y => laws_markIntSS_l0_again N ks k y) ks x := by kernel_rfl
theorem laws_markIntSS_l0_ok (N : Nat) : LoopOk Tryz.prog Tryz.f23.ntmps (laws_markIntSS_l0_s N) (loopAt laws_markIntSS_code 0) :=
  loop_ok (l := laws_markIntSS_l0_s N) progOk (laws_markIntSS_gok N) (draw_ok progOk (laws_markIntSS_gok N)) (fun R k x ks => laws_markIntSS_l0_again N ks k x) (fun _ _ _ => rfl) (fun R k x ks => laws_markIntSS_l0_step N R k x ks) (fun R x ks r h => ⟨N, h⟩) (lsOk_at (L := []) trivial) (by kernel_rfl) (by kernel_rfl)
noncomputable def laws_markIntSS (N : Nat) (a : (List (List Int))) (kv : Int) : Option ((Int × Unit) × ((List (List Int)) × Unit)) :=
  laws_markIntSS_l0 N (fun kv1 o => some ((kv1, ()), (o, ()))) N kv 0 a
noncomputable def laws_markIntSS_S (N : Nat) : FSum := ⟨laws_markIntSS_ps, laws_markIntSS_rs, fun x => laws_markIntSS N x.1 x.2.1⟩
theorem laws_markIntSS_run (N : Nat) (x : argsT laws_markIntSS_ps) : laws_markIntSS N x.1 x.2.1 = funF (laws_markIntSS_G N) tab [laws_markIntSS_l0_s N] Tryz.f23 laws_markIntSS_ps laws_markIntSS_rs x := by kernel_rfl
theorem laws_markIntSS_pc (N : Nat) : PC Tryz.prog 23 (laws_markIntSS_S N) := by
  have e : laws_markIntSS_S N = ⟨laws_markIntSS_ps, laws_markIntSS_rs, funF (laws_markIntSS_G N) tab [laws_markIntSS_l0_s N] Tryz.f23 laws_markIntSS_ps laws_markIntSS_rs⟩ := congrArg (FSum.mk laws_markIntSS_ps laws_markIntSS_rs) (funext (laws_markIntSS_run N))
  rw [e]
  exact fun_ok (c := laws_markIntSS_code) progOk (laws_markIntSS_gok N) (draw_ok progOk (laws_markIntSS_gok N)) Tryz.call23 Tryz.func23 (by kernel_rfl) (lsOk_at (L := [laws_markIntSS_l0_s N]) ⟨laws_markIntSS_l0_ok N, trivial⟩) (by kernel_rfl) (by kernel_rfl) (by kernel_rfl) (by kernel_rfl) (by kernel_rfl)
end Go.Proofs.YtbnjcjpnpidhmaaGreat
