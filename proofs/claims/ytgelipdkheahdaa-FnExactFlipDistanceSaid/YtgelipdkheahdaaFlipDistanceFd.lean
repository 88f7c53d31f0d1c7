/- Functions of the program as functions on data. -/
import Derived.Test.YtgelipdkheahdaaFlipDistanceFc
set_option linter.all false
namespace Go.Proofs.Ytgelipdkheahdaa
open Go Go.PV
/-! ### impl_Space_firstWay -/
abbrev impl_Space_firstWay_ps : List (PV.Mode × Ty) := [(.ro, QLLILQII), (.ro, I), (.ro, I)]
abbrev impl_Space_firstWay_rs : List (Bool × Ty) := [(true, LI), (true, .bool)]
noncomputable def impl_Space_firstWay_G (N : Nat) : GTab := gOf [(61, impl_Space_roads_S N), (187, impl_spread_S N)]
theorem impl_Space_firstWay_gok (N : Nat) : GOk Try.prog (impl_Space_firstWay_G N) := gOf_ok ⟨impl_Space_roads_pc N, impl_spread_pc N, trivial⟩
noncomputable def impl_Space_firstWay_code : Code := (Try.f151.body).getD .skip
noncomputable def impl_Space_firstWay_l0_0_sh : Sh := ⟨[(1, .one (.ro I)), (2, .one (.ro I)), (8, .one (.ref 0)), (9, .one (.ref 1)), (10, .one (.ref 2)), (31, .one (.el 0)), (32, .one (.ro I)), (33, .one (.ro I))], [.sl 43 LI .deep, .sl 3 I .own, .sl 3 I .own]⟩
noncomputable def impl_Space_firstWay_l0_0_ex : List (Ex × Sh) := [(.exit 2, ⟨[(1, .one (.ro I)), (2, .one (.ro I)), (8, .one (.ref 0)), (9, .one (.ref 1)), (10, .one (.ref 2))], [.sl 43 LI .deep, .sl 3 I .own, .sl 3 I .own]⟩)]
noncomputable def impl_Space_firstWay_l0_0 {R : Type} (N : Nat) (k0 : Int → Int → (List (List Int)) → (List Int) → (List Int) → Option R) : Nat → Int → Int → Int → Int → Int → (List (List Int)) → (List Int) → (List Int) → Option R
  | 0, _, _, _, _, _, _, _, _ => none
  | K + 1, i2, j2, x1, x2, x3, o3, o4, o5 =>
    (br (ilt x3 x2)
      ((chk (inb (rdL o3 x1) x3)
        (chk (inb o4 (rdI (rdL o3 x1) x3))
        (chk (inb o4 i2)
        (br (ieq (rdI o4 (rdI (rdL o3 x1) x3)) (IntKind.i64.wrap ((rdI o4 i2) - 1)))
        (k0 (rdI (rdL o3 x1) x3) j2 o3 o4 o5)
        (impl_Space_firstWay_l0_0 N k0 K i2 j2 x1 x2 (IntKind.i64.wrap (x3 + 1)) o3 o4 o5))))))
      (k0 i2 j2 o3 o4 o5))
noncomputable def impl_Space_firstWay_l0_0_again {R : Type} (N : Nat) (ks : (j : Nat) → ((impl_Space_firstWay_l0_0_ex.getD j (.ret, Sh.none)).2).T → Option R) (k : Nat) (x : impl_Space_firstWay_l0_0_sh.T) : Option R :=
  impl_Space_firstWay_l0_0 N (fun y0 y1 y2 y3 y4 => ks 0 ((y0, y1, (), (), (), ()), (y2, y3, y4, ()))) k x.1.1 x.1.2.1 x.1.2.2.2.2.2.1 x.1.2.2.2.2.2.2.1 x.1.2.2.2.2.2.2.2.1 x.2.1 x.2.2.1 x.2.2.2.1
noncomputable def impl_Space_firstWay_l0_0_s (N : Nat) : LSum := ⟨impl_Space_firstWay_l0_0_sh, impl_Space_firstWay_l0_0_ex, fun x ks => impl_Space_firstWay_l0_0_again N ks N x⟩
theorem impl_Space_firstWay_l0_0_step (N : Nat) (R : Type) (k : Nat) (x : impl_Space_firstWay_l0_0_sh.T) (ks : (j : Nat) → ((impl_Space_firstWay_l0_0_ex.getD j (.ret, Sh.none)).2).T → Option R) : impl_Space_firstWay_l0_0_again N ks (k + 1) x = roundF (impl_Space_firstWay_G N) tab [] (loopAt (loopAt impl_Space_firstWay_code 0) 0) impl_Space_firstWay_l0_0_sh impl_Space_firstWay_l0_0_ex (fun y => impl_Space_firstWay_l0_0_again N ks k y) ks x := by kernel_rfl
theorem impl_Space_firstWay_l0_0_ok (N : Nat) : LoopOk Try.prog Try.f151.ntmps (impl_Space_firstWay_l0_0_s N) (loopAt (loopAt impl_Space_firstWay_code 0) 0) :=
  loop_ok (l := impl_Space_firstWay_l0_0_s N) progOk (impl_Space_firstWay_gok N) (draw_ok progOk (impl_Space_firstWay_gok N)) (fun R k x ks => impl_Space_firstWay_l0_0_again N ks k x) (fun _ _ _ => rfl) (fun R k x ks => impl_Space_firstWay_l0_0_step N R k x ks) (fun R x ks r h => ⟨N, h⟩) (lsOk_at (L := []) trivial) (by kernel_rfl) (by kernel_rfl)
noncomputable def impl_Space_firstWay_l0_sh : Sh := ⟨[(1, .one (.ro I)), (2, .one (.ro I)), (8, .one (.ref 0)), (9, .one (.ref 1)), (10, .one (.ref 2))], [.sl 43 LI .deep, .sl 3 I .own, .sl 3 I .own]⟩
noncomputable def impl_Space_firstWay_l0_ex : List (Ex × Sh) := [(.exit 0, ⟨[(10, .one (.ref 0))], [.sl 3 I .own]⟩)]
noncomputable def impl_Space_firstWay_l0 {R : Type} (N : Nat) (k0 : (List Int) → Option R) : Nat → Int → Int → (List (List Int)) → (List Int) → (List Int) → Option R
  | 0, _, _, _, _, _ => none
  | K + 1, i1, j1, o, o1, o2 =>
    (br (ine i1 j1)
      ((chk (inb o i1)
        (impl_Space_firstWay_l0_0 N (fun i2 j2 o3 o4 o5 => (chk (room o5 [i2])
        (impl_Space_firstWay_l0 N k0 K i2 j2 o3 o4 (tApp o5 [i2])))) N i1 j1 i1 (tLen (rdL o i1)) 0 o o1 o2)))
      (k0 o2))
noncomputable def impl_Space_firstWay_l0_again {R : Type} (N : Nat) (ks : (j : Nat) → ((impl_Space_firstWay_l0_ex.getD j (.ret, Sh.none)).2).T → Option R) (k : Nat) (x : impl_Space_firstWay_l0_sh.T) : Option R :=
  impl_Space_firstWay_l0 N (fun y0 => ks 0 (((), ()), (y0, ()))) k x.1.1 x.1.2.1 x.2.1 x.2.2.1 x.2.2.2.1
noncomputable def impl_Space_firstWay_l0_s (N : Nat) : LSum := ⟨impl_Space_firstWay_l0_sh, impl_Space_firstWay_l0_ex, fun x ks => impl_Space_firstWay_l0_again N ks N x⟩
theorem impl_Space_firstWay_l0_step (N : Nat) (R : Type) (k : Nat) (x : impl_Space_firstWay_l0_sh.T) (ks : (j : Nat) → ((impl_Space_firstWay_l0_ex.getD j (.ret, Sh.none)).2).T → Option R) : impl_Space_firstWay_l0_again N ks (k + 1) x = roundF (impl_Space_firstWay_G N) tab [impl_Space_firstWay_l0_0_s N] (loopAt impl_Space_firstWay_code 0) impl_Space_firstWay_l0_sh impl_Space_firstWay_l0_ex (fun y => impl_Space_firstWay_l0_again N ks k y) ks x := by kernel_rfl
theorem impl_Space_firstWay_l0_ok (N : Nat) : LoopOk Try.prog Try.f151.ntmps (impl_Space_firstWay_l0_s N) (loopAt impl_Space_firstWay_code 0) :=
  loop_ok (l := impl_Space_firstWay_l0_s N) progOk (impl_Space_firstWay_gok N) (draw_ok progOk (impl_Space_firstWay_gok N)) (fun R k x ks => impl_Space_firstWay_l0_again N ks k x) (fun _ _ _ => rfl) (fun R k x ks => impl_Space_firstWay_l0_step N R k x ks) (fun R x ks r h => ⟨N, h⟩) (lsOk_at (L := [impl_Space_firstWay_l0_0_s N]) ⟨impl_Space_firstWay_l0_0_ok N, trivial⟩) (by kernel_rfl) (by kernel_rfl)
noncomputable def impl_Space_firstWay (N : Nat) (x : ((List (List Int)) × (List (Int × Int)))) (i : Int) (j : Int) : Option (((List Int) × Bool × Unit) × (Unit)) :=
  ((impl_Space_roads N (x.1, x.2)).bind fun r =>
    ((impl_spread N r.1.1 j).bind fun r1 =>
      (chk (inb r1.1.1 i)
        (br (ilt (rdI r1.1.1 i) 0)
        (some (([], false, ()), ()))
        (impl_Space_firstWay_l0 N (fun o => some ((o, true, ()), ())) N i j r.1.1 r1.1.1 [i])))))
noncomputable def impl_Space_firstWay_S (N : Nat) : FSum := ⟨impl_Space_firstWay_ps, impl_Space_firstWay_rs, fun x => impl_Space_firstWay N x.1 x.2.1 x.2.2.1⟩
theorem impl_Space_firstWay_run (N : Nat) (x : argsT impl_Space_firstWay_ps) : impl_Space_firstWay N x.1 x.2.1 x.2.2.1 = funF (impl_Space_firstWay_G N) tab [impl_Space_firstWay_l0_s N] Try.f151 impl_Space_firstWay_ps impl_Space_firstWay_rs x := by kernel_rfl
theorem impl_Space_firstWay_pc (N : Nat) : PC Try.prog 151 (impl_Space_firstWay_S N) := by
  have e : impl_Space_firstWay_S N = ⟨impl_Space_firstWay_ps, impl_Space_firstWay_rs, funF (impl_Space_firstWay_G N) tab [impl_Space_firstWay_l0_s N] Try.f151 impl_Space_firstWay_ps impl_Space_firstWay_rs⟩ := congrArg (FSum.mk impl_Space_firstWay_ps impl_Space_firstWay_rs) (funext (impl_Space_firstWay_run N))
  rw [e]
  exact fun_ok (c := impl_Space_firstWay_code) progOk (impl_Space_firstWay_gok N) (draw_ok progOk (impl_Space_firstWay_gok N)) Try.call151 Try.func151 (by kernel_rfl) (lsOk_at (L := [impl_Space_firstWay_l0_s N]) ⟨impl_Space_firstWay_l0_ok N, trivial⟩) (by kernel_rfl) (by kernel_rfl) (by kernel_rfl) (by kernel_rfl) (by kernel_rfl)

/-! ### slices_Clone_LI_int -/
abbrev slices_Clone_LI_int_ps : List (PV.Mode × Ty) := [(.ro, LI)]
abbrev slices_Clone_LI_int_rs : List (Bool × Ty) := [(true, LI)]
noncomputable def slices_Clone_LI_int_G (N : Nat) : GTab := gOf []
theorem slices_Clone_LI_int_gok (N : Nat) : GOk Try.prog (slices_Clone_LI_int_G N) := gOf_ok trivial
noncomputable def slices_Clone_LI_int_code : Code := (Try.f152.body).getD .skip
noncomputable def slices_Clone_LI_int (N : Nat) (s : (List Int)) : Option (((List Int) × Unit) × (Unit)) :=
  (br (ieq (tLen s) 0)
    ((amb
      (some (([], ()), ()))
      ((chk (room (α := Int) (β := Int) [] s)
        (some (((tApp [] s), ()), ()))))))
    ((chk (room (α := Int) (β := Int) [] s)
      (some (((tApp [] s), ()), ())))))
noncomputable def slices_Clone_LI_int_S (N : Nat) : FSum := ⟨slices_Clone_LI_int_ps, slices_Clone_LI_int_rs, fun x => slices_Clone_LI_int N x.1⟩
theorem slices_Clone_LI_int_run (N : Nat) (x : argsT slices_Clone_LI_int_ps) : slices_Clone_LI_int N x.1 = funF (slices_Clone_LI_int_G N) tab [] Try.f152 slices_Clone_LI_int_ps slices_Clone_LI_int_rs x := by kernel_rfl
theorem slices_Clone_LI_int_pc (N : Nat) : PC Try.prog 152 (slices_Clone_LI_int_S N) := by
  have e : slices_Clone_LI_int_S N = ⟨slices_Clone_LI_int_ps, slices_Clone_LI_int_rs, funF (slices_Clone_LI_int_G N) tab [] Try.f152 slices_Clone_LI_int_ps slices_Clone_LI_int_rs⟩ := congrArg (FSum.mk slices_Clone_LI_int_ps slices_Clone_LI_int_rs) (funext (slices_Clone_LI_int_run N))
  rw [e]
  exact fun_ok (c := slices_Clone_LI_int_code) progOk (slices_Clone_LI_int_gok N) (draw_ok progOk (slices_Clone_LI_int_gok N)) Try.call152 Try.func152 (by kernel_rfl) (lsOk_at (L := []) trivial) (by kernel_rfl) (by kernel_rfl) (by kernel_rfl) (by kernel_rfl) (by kernel_rfl)

/-! ### impl_Space_walk -/
abbrev impl_Space_walk_ps : List (PV.Mode × Ty) := [(.ro, QLLILQII), (.ro, LI), (.ro, LI)]
abbrev impl_Space_walk_rs : List (Bool × Ty) := [(true, LLI), (true, .bool)]
noncomputable def impl_Space_walk_G (N : Nat) : GTab := gOf [(150, impl_Space_place_S N), (151, impl_Space_firstWay_S N), (152, slices_Clone_LI_int_S N)]
theorem impl_Space_walk_gok (N : Nat) : GOk Try.prog (impl_Space_walk_G N) := gOf_ok ⟨impl_Space_place_pc N, impl_Space_firstWay_pc N, slices_Clone_LI_int_pc N, trivial⟩
noncomputable def impl_Space_walk_code : Code := (Try.f114.body).getD .skip
noncomputable def impl_Space_walk_l0_sh : Sh := ⟨[(3, .one (.adr 0 0)), (13, .one (.ro .bool)), (14, .one (.ref 1)), (43, .one (.ref 2)), (44, .one (.ro I)), (45, .one (.ro I))], [.box [.ro LLI, .ro LQII], .sl 43 LI .deep, .sl 3 I .own]⟩
noncomputable def impl_Space_walk_l0_ex : List (Ex × Sh) := [(.exit 0, ⟨[(13, .one (.ro .bool)), (14, .one (.ref 0))], [.sl 43 LI .deep]⟩)]
noncomputable def impl_Space_walk_l0 {R : Type} (N : Nat) (k0 : Bool → (List (List Int)) → Option R) : Nat → Bool → Int → Int → (List (List Int)) → (List (Int × Int)) → (List (List Int)) → (List Int) → Option R
  | 0, _, _, _, _, _, _, _ => none
  | K + 1, ok, x1, x2, o, o1, o2, o3 =>
    (br (ilt x2 x1)
      ((chk (inb o3 x2)
        (chk (inb o (rdI o3 x2))
        ((slices_Clone_LI_int N (rdL o (rdI o3 x2))).bind fun r3 =>
        (chk (room o2 [r3.1.1])
          (impl_Space_walk_l0 N k0 K ok x1 (IntKind.i64.wrap (x2 + 1)) o o1 (tApp o2 [r3.1.1]) o3))))))
      (k0 ok o2))
noncomputable def impl_Space_walk_l0_again {R : Type} (N : Nat) (ks : (j : Nat) → ((impl_Space_walk_l0_ex.getD j (.ret, Sh.none)).2).T → Option R) (k : Nat) (x : impl_Space_walk_l0_sh.T) : Option R :=
  impl_Space_walk_l0 N (fun y0 y1 => ks 0 ((y0, (), ()), (y1, ()))) k x.1.2.1 x.1.2.2.2.2.1 x.1.2.2.2.2.2.1 x.2.1.1 x.2.1.2.1 x.2.2.1 x.2.2.2.1
noncomputable def impl_Space_walk_l0_s (N : Nat) : LSum := ⟨impl_Space_walk_l0_sh, impl_Space_walk_l0_ex, fun x ks => impl_Space_walk_l0_again N ks N x⟩
theorem impl_Space_walk_l0_step (N : Nat) (R : Type) (k : Nat) (x : impl_Space_walk_l0_sh.T) (ks : (j : Nat) → ((impl_Space_walk_l0_ex.getD j (.ret, Sh.none)).2).T → Option R) : impl_Space_walk_l0_again N ks (k + 1) x = roundF (impl_Space_walk_G N) tab [] (loopAt impl_Space_walk_code 0) impl_Space_walk_l0_sh impl_Space_walk_l0_ex (fun y => impl_Space_walk_l0_again N ks k y) ks x := by kernel_rfl
theorem impl_Space_walk_l0_ok (N : Nat) : LoopOk Try.prog Try.f114.ntmps (impl_Space_walk_l0_s N) (loopAt impl_Space_walk_code 0) :=
  loop_ok (l := impl_Space_walk_l0_s N) progOk (impl_Space_walk_gok N) (draw_ok progOk (impl_Space_walk_gok N)) (fun R k x ks => impl_Space_walk_l0_again N ks k x) (fun _ _ _ => rfl) (fun R k x ks => impl_Space_walk_l0_step N R k x ks) (fun R x ks r h => ⟨N, h⟩) (lsOk_at (L := []) trivial) (by kernel_rfl) (by kernel_rfl)
noncomputable def impl_Space_walk (N : Nat) (x : ((List (List Int)) × (List (Int × Int)))) (a : (List Int)) (b : (List Int)) : Option (((List (List Int)) × Bool × Unit) × (Unit)) :=
  ((impl_Space_place N (x.1, x.2) a).bind fun r =>
    ((impl_Space_place N (x.1, x.2) b).bind fun r1 =>
      (br (!r.1.2.1)
        (some (([], false, ()), ()))
        ((br (!r1.1.2.1)
          (some (([], false, ()), ()))
          (((impl_Space_firstWay N (x.1, x.2) r.1.1 r1.1.1).bind fun r2 =>
            impl_Space_walk_l0 N (fun ok o => some ((o, ok, ()), ())) N r2.1.2.1 (tLen r2.1.1) 0 x.1 x.2 [] r2.1.1)))))))
noncomputable def impl_Space_walk_S (N : Nat) : FSum := ⟨impl_Space_walk_ps, impl_Space_walk_rs, fun x => impl_Space_walk N x.1 x.2.1 x.2.2.1⟩
theorem impl_Space_walk_run (N : Nat) (x : argsT impl_Space_walk_ps) : impl_Space_walk N x.1 x.2.1 x.2.2.1 = funF (impl_Space_walk_G N) tab [impl_Space_walk_l0_s N] Try.f114 impl_Space_walk_ps impl_Space_walk_rs x := by kernel_rfl
theorem impl_Space_walk_pc (N : Nat) : PC Try.prog 114 (impl_Space_walk_S N) := by
  have e : impl_Space_walk_S N = ⟨impl_Space_walk_ps, impl_Space_walk_rs, funF (impl_Space_walk_G N) tab [impl_Space_walk_l0_s N] Try.f114 impl_Space_walk_ps impl_Space_walk_rs⟩ := congrArg (FSum.mk impl_Space_walk_ps impl_Space_walk_rs) (funext (impl_Space_walk_run N))
  rw [e]
  exact fun_ok (c := impl_Space_walk_code) progOk (impl_Space_walk_gok N) (draw_ok progOk (impl_Space_walk_gok N)) Try.call114 Try.func114 (by kernel_rfl) (lsOk_at (L := [impl_Space_walk_l0_s N]) ⟨impl_Space_walk_l0_ok N, trivial⟩) (by kernel_rfl) (by kernel_rfl) (by kernel_rfl) (by kernel_rfl) (by kernel_rfl)

/-! ### impl_FlipWay -/
abbrev impl_FlipWay_ps : List (PV.Mode × Ty) := [(.ro, QILLI), (.ro, LI), (.ro, LI)]
abbrev impl_FlipWay_rs : List (Bool × Ty) := [(true, LI), (true, .bool)]
noncomputable def impl_FlipWay_G (N : Nat) : GTab := gOf [(112, impl_isSolution_S N), (113, impl_Formula_flips_S N), (114, impl_Space_walk_S N), (115, impl_places_S N)]
theorem impl_FlipWay_gok (N : Nat) : GOk Try.prog (impl_FlipWay_G N) := gOf_ok ⟨impl_isSolution_pc N, impl_Formula_flips_pc N, impl_Space_walk_pc N, impl_places_pc N, trivial⟩
noncomputable def impl_FlipWay_code : Code := (Try.f66.body).getD .skip
noncomputable def impl_FlipWay_l0_sh : Sh := ⟨[(8, .one (.ref 0)), (10, .one (.ref 1)), (11, .one (.ro I))], [.sl 43 LI .deep, .sl 3 I .own]⟩
noncomputable def impl_FlipWay_l0_ex : List (Ex × Sh) := [(.exit 0, ⟨[(10, .one (.ref 0))], [.sl 3 I .own]⟩)]
noncomputable def impl_FlipWay_l0 {R : Type} (N : Nat) (k0 : (List Int) → Option R) : Nat → Int → (List (List Int)) → (List Int) → Option R
  | 0, _, _, _ => none
  | K + 1, i, o, o1 =>
    (br (ilt i (tLen o))
      ((chk (inb o (IntKind.i64.wrap (i - 1)))
        (chk (inb o i)
        ((impl_places N (rdL o (IntKind.i64.wrap (i - 1))) (rdL o i)).bind fun r4 =>
        (chk (inb r4.1.1 0)
          (chk (room o1 [(rdI r4.1.1 0)])
          (impl_FlipWay_l0 N k0 K (IntKind.i64.wrap (i + 1)) o (tApp o1 [(rdI r4.1.1 0)]))))))))
      (k0 o1))
noncomputable def impl_FlipWay_l0_again {R : Type} (N : Nat) (ks : (j : Nat) → ((impl_FlipWay_l0_ex.getD j (.ret, Sh.none)).2).T → Option R) (k : Nat) (x : impl_FlipWay_l0_sh.T) : Option R :=
  impl_FlipWay_l0 N (fun y0 => ks 0 (((), ()), (y0, ()))) k x.1.2.2.1 x.2.1 x.2.2.1
noncomputable def impl_FlipWay_l0_s (N : Nat) : LSum := ⟨impl_FlipWay_l0_sh, impl_FlipWay_l0_ex, fun x ks => impl_FlipWay_l0_again N ks N x⟩
theorem impl_FlipWay_l0_step (N : Nat) (R : Type) (k : Nat) (x : impl_FlipWay_l0_sh.T) (ks : (j : Nat) → ((impl_FlipWay_l0_ex.getD j (.ret, Sh.none)).2).T → Option R) : impl_FlipWay_l0_again N ks (k + 1) x = roundF (impl_FlipWay_G N) tab [] (loopAt impl_FlipWay_code 0) impl_FlipWay_l0_sh impl_FlipWay_l0_ex (fun y => impl_FlipWay_l0_again N ks k y) ks x := by kernel_rfl
theorem impl_FlipWay_l0_ok (N : Nat) : LoopOk Try.prog Try.f66.ntmps (impl_FlipWay_l0_s N) (loopAt impl_FlipWay_code 0) :=
  loop_ok (l := impl_FlipWay_l0_s N) progOk (impl_FlipWay_gok N) (draw_ok progOk (impl_FlipWay_gok N)) (fun R k x ks => impl_FlipWay_l0_again N ks k x) (fun _ _ _ => rfl) (fun R k x ks => impl_FlipWay_l0_step N R k x ks) (fun R x ks r h => ⟨N, h⟩) (lsOk_at (L := []) trivial) (by kernel_rfl) (by kernel_rfl)
noncomputable def impl_FlipWay (N : Nat) (f : (Int × (List (List Int)))) (a : (List Int)) (b : (List Int)) : Option (((List Int) × Bool × Unit) × (Unit)) :=
  ((impl_isSolution N (f.1, f.2) a).bind fun r =>
    (br (!r.1.1)
      (some (([], false, ()), ()))
      (((impl_isSolution N (f.1, f.2) b).bind fun r1 =>
        (br (!r1.1.1)
          (some (([], false, ()), ()))
          (((impl_Formula_flips N (f.1, f.2)).bind fun r2 =>
            ((impl_Space_walk N (r2.1.1.1, r2.1.1.2) a b).bind fun r3 =>
              (br (!r3.1.2.1)
                (some (([], false, ()), ()))
                (impl_FlipWay_l0 N (fun o => some ((o, true, ()), ())) N 1 r3.1.1 []))))))))))
noncomputable def impl_FlipWay_S (N : Nat) : FSum := ⟨impl_FlipWay_ps, impl_FlipWay_rs, fun x => impl_FlipWay N x.1 x.2.1 x.2.2.1⟩
theorem impl_FlipWay_run (N : Nat) (x : argsT impl_FlipWay_ps) : impl_FlipWay N x.1 x.2.1 x.2.2.1 = funF (impl_FlipWay_G N) tab [impl_FlipWay_l0_s N] Try.f66 impl_FlipWay_ps impl_FlipWay_rs x := by kernel_rfl
theorem impl_FlipWay_pc (N : Nat) : PC Try.prog 66 (impl_FlipWay_S N) := by
  have e : impl_FlipWay_S N = ⟨impl_FlipWay_ps, impl_FlipWay_rs, funF (impl_FlipWay_G N) tab [impl_FlipWay_l0_s N] Try.f66 impl_FlipWay_ps impl_FlipWay_rs⟩ := congrArg (FSum.mk impl_FlipWay_ps impl_FlipWay_rs) (funext (impl_FlipWay_run N))
  rw [e]
  exact fun_ok (c := impl_FlipWay_code) progOk (impl_FlipWay_gok N) (draw_ok progOk (impl_FlipWay_gok N)) Try.call66 Try.func66 (by kernel_rfl) (lsOk_at (L := [impl_FlipWay_l0_s N]) ⟨impl_FlipWay_l0_ok N, trivial⟩) (by kernel_rfl) (by kernel_rfl) (by kernel_rfl) (by kernel_rfl) (by kernel_rfl)

/-! ### impl_FlipDistance -/
abbrev impl_FlipDistance_ps : List (PV.Mode × Ty) := [(.ro, QILLI), (.ro, LI), (.ro, LI)]
abbrev impl_FlipDistance_rs : List (Bool × Ty) := [(true, I), (true, .bool)]
noncomputable def impl_FlipDistance_G (N : Nat) : GTab := gOf [(66, impl_FlipWay_S N)]
theorem impl_FlipDistance_gok (N : Nat) : GOk Try.prog (impl_FlipDistance_G N) := gOf_ok ⟨impl_FlipWay_pc N, trivial⟩
noncomputable def impl_FlipDistance_code : Code := (Try.f30.body).getD .skip
noncomputable def impl_FlipDistance (N : Nat) (f : (Int × (List (List Int)))) (a : (List Int)) (b : (List Int)) : Option ((Int × Bool × Unit) × (Unit)) :=
  ((impl_FlipWay N (f.1, f.2) a b).bind fun r =>
    some (((tLen r.1.1), r.1.2.1, ()), ()))
noncomputable def impl_FlipDistance_S (N : Nat) : FSum := ⟨impl_FlipDistance_ps, impl_FlipDistance_rs, fun x => impl_FlipDistance N x.1 x.2.1 x.2.2.1⟩
theorem impl_FlipDistance_run (N : Nat) (x : argsT impl_FlipDistance_ps) : impl_FlipDistance N x.1 x.2.1 x.2.2.1 = funF (impl_FlipDistance_G N) tab [] Try.f30 impl_FlipDistance_ps impl_FlipDistance_rs x := by kernel_rfl
theorem impl_FlipDistance_pc (N : Nat) : PC Try.prog 30 (impl_FlipDistance_S N) := by
  have e : impl_FlipDistance_S N = ⟨impl_FlipDistance_ps, impl_FlipDistance_rs, funF (impl_FlipDistance_G N) tab [] Try.f30 impl_FlipDistance_ps impl_FlipDistance_rs⟩ := congrArg (FSum.mk impl_FlipDistance_ps impl_FlipDistance_rs) (funext (impl_FlipDistance_run N))
  rw [e]
  exact fun_ok (c := impl_FlipDistance_code) progOk (impl_FlipDistance_gok N) (draw_ok progOk (impl_FlipDistance_gok N)) Try.call30 Try.func30 (by kernel_rfl) (lsOk_at (L := []) trivial) (by kernel_rfl) (by kernel_rfl) (by kernel_rfl) (by kernel_rfl) (by kernel_rfl)

/-! ### laws_eqIntS -/
abbrev laws_eqIntS_ps : List (PV.Mode × Ty) := [(.ro, LI), (.ro, LI)]
abbrev laws_eqIntS_rs : List (Bool × Ty) := [(true, .bool)]
noncomputable def laws_eqIntS_G (N : Nat) : GTab := gOf []
theorem laws_eqIntS_gok (N : Nat) : GOk Try.prog (laws_eqIntS_G N) := gOf_ok trivial
noncomputable def laws_eqIntS_code : Code := (Try.f32.body).getD .skip
noncomputable def laws_eqIntS_l0_sh : Sh := ⟨[(0, .one (.ro LI)), (1, .one (.ro LI)), (5, .one (.ro I))], []⟩
noncomputable def laws_eqIntS_l0_ex : List (Ex × Sh) := [(.ret, ⟨[(4, .one (.ro .bool))], []⟩), (.exit 0, ⟨[], []⟩)]
noncomputable def laws_eqIntS_l0 {R : Type} (N : Nat) (k0 : Bool → Option R) (k1 : Unit → Option R) : Nat → (List Int) → (List Int) → Int → Option R
  | 0, _, _, _ => none
  | K + 1, a1, b1, i =>
    (br (ilt i (tLen a1))
      ((chk (inb a1 i)
        (chk (inb b1 i)
        (br (ine (rdI a1 i) (rdI b1 i))
        (k0 false)
        (laws_eqIntS_l0 N k0 k1 K a1 b1 (IntKind.i64.wrap (i + 1)))))))
      (k1 ()))
noncomputable def laws_eqIntS_l0_again {R : Type} (N : Nat) (ks : (j : Nat) → ((laws_eqIntS_l0_ex.getD j (.ret, Sh.none)).2).T → Option R) (k : Nat) (x : laws_eqIntS_l0_sh.T) : Option R :=
  laws_eqIntS_l0 N (fun y0 => ks 0 ((y0, ()), ())) (fun (_ : Unit) => ks 1 ((), ())) k x.1.1 x.1.2.1 x.1.2.2.1
noncomputable def laws_eqIntS_l0_s (N : Nat) : LSum := ⟨laws_eqIntS_l0_sh, laws_eqIntS_l0_ex, fun x ks => laws_eqIntS_l0_again N ks N x⟩
theorem laws_eqIntS_l0_step (N : Nat) (R : Type) (k : Nat) (x : laws_eqIntS_l0_sh.T) (ks : (j : Nat) → ((laws_eqIntS_l0_ex.getD j (.ret, Sh.none)).2).T → Option R) : laws_eqIntS_l0_again N ks (k + 1) x = roundF (laws_eqIntS_G N) tab [] (loopAt laws_eqIntS_code 0) laws_eqIntS_l0_sh laws_eqIntS_l0_ex (fun y => laws_eqIntS_l0_again N ks k y) ks x := by kernel_rfl
theorem laws_eqIntS_l0_ok (N : Nat) : LoopOk Try.prog Try.f32.ntmps (laws_eqIntS_l0_s N) (loopAt laws_eqIntS_code 0) :=
  loop_ok (l := laws_eqIntS_l0_s N) progOk (laws_eqIntS_gok N) (draw_ok progOk (laws_eqIntS_gok N)) (fun R k x ks => laws_eqIntS_l0_again N ks k x) (fun _ _ _ => rfl) (fun R k x ks => laws_eqIntS_l0_step N R k x ks) (fun R x ks r h => ⟨N, h⟩) (lsOk_at (L := []) trivial) (by kernel_rfl) (by kernel_rfl)
noncomputable def laws_eqIntS (N : Nat) (a : (List Int)) (b : (List Int)) : Option ((Bool × Unit) × (Unit)) :=
  (br (ine (tLen a) (tLen b))
    (some ((false, ()), ()))
    (laws_eqIntS_l0 N (fun x => some ((x, ()), ())) (fun (_ : Unit) => some ((true, ()), ())) N a b 0))
noncomputable def laws_eqIntS_S (N : Nat) : FSum := ⟨laws_eqIntS_ps, laws_eqIntS_rs, fun x => laws_eqIntS N x.1 x.2.1⟩
theorem laws_eqIntS_run (N : Nat) (x : argsT laws_eqIntS_ps) : laws_eqIntS N x.1 x.2.1 = funF (laws_eqIntS_G N) tab [laws_eqIntS_l0_s N] Try.f32 laws_eqIntS_ps laws_eqIntS_rs x := by kernel_rfl
theorem laws_eqIntS_pc (N : Nat) : PC Try.prog 32 (laws_eqIntS_S N) := by
  have e : laws_eqIntS_S N = ⟨laws_eqIntS_ps, laws_eqIntS_rs, funF (laws_eqIntS_G N) tab [laws_eqIntS_l0_s N] Try.f32 laws_eqIntS_ps laws_eqIntS_rs⟩ := congrArg (FSum.mk laws_eqIntS_ps laws_eqIntS_rs) (funext (laws_eqIntS_run N))
  rw [e]
  exact fun_ok (c := laws_eqIntS_code) progOk (laws_eqIntS_gok N) (draw_ok progOk (laws_eqIntS_gok N)) Try.call32 Try.func32 (by kernel_rfl) (lsOk_at (L := [laws_eqIntS_l0_s N]) ⟨laws_eqIntS_l0_ok N, trivial⟩) (by kernel_rfl) (by kernel_rfl) (by kernel_rfl) (by kernel_rfl) (by kernel_rfl)

/-! ### laws_eqIntSS -/
abbrev laws_eqIntSS_ps : List (PV.Mode × Ty) := [(.ro, LLI), (.ro, LLI)]
abbrev laws_eqIntSS_rs : List (Bool × Ty) := [(true, .bool)]
noncomputable def laws_eqIntSS_G (N : Nat) : GTab := gOf [(32, laws_eqIntS_S N)]
theorem laws_eqIntSS_gok (N : Nat) : GOk Try.prog (laws_eqIntSS_G N) := gOf_ok ⟨laws_eqIntS_pc N, trivial⟩
noncomputable def laws_eqIntSS_code : Code := (Try.f49.body).getD .skip
noncomputable def laws_eqIntSS_l0_sh : Sh := ⟨[(0, .one (.ro LLI)), (1, .one (.ro LLI)), (5, .one (.ro I))], []⟩
noncomputable def laws_eqIntSS_l0_ex : List (Ex × Sh) := [(.ret, ⟨[(4, .one (.ro .bool))], []⟩), (.exit 0, ⟨[], []⟩)]
noncomputable def laws_eqIntSS_l0 {R : Type} (N : Nat) (k0 : Bool → Option R) (k1 : Unit → Option R) : Nat → (List (List Int)) → (List (List Int)) → Int → Option R
  | 0, _, _, _ => none
  | K + 1, a1, b1, i =>
    (br (ilt i (tLen a1))
      ((chk (inb a1 i)
        (chk (inb b1 i)
        ((laws_eqIntS N (rdL a1 i) (rdL b1 i)).bind fun r =>
        (br (!r.1.1)
          (k0 false)
          (laws_eqIntSS_l0 N k0 k1 K a1 b1 (IntKind.i64.wrap (i + 1))))))))
      (k1 ()))
noncomputable def laws_eqIntSS_l0_again {R : Type} (N : Nat) (ks : (j : Nat) → ((laws_eqIntSS_l0_ex.getD j (.ret, Sh.none)).2).T → Option R) (k : Nat) (x : laws_eqIntSS_l0_sh.T) : Option R :=
  laws_eqIntSS_l0 N (fun y0 => ks 0 ((y0, ()), ())) (fun (_ : Unit) => ks 1 ((), ())) k x.1.1 x.1.2.1 x.1.2.2.1
noncomputable def laws_eqIntSS_l0_s (N : Nat) : LSum := ⟨laws_eqIntSS_l0_sh, laws_eqIntSS_l0_ex, fun x ks => laws_eqIntSS_l0_again N ks N x⟩
theorem laws_eqIntSS_l0_step (N : Nat) (R : Type) (k : Nat) (x : laws_eqIntSS_l0_sh.T) (ks : (j : Nat) → ((laws_eqIntSS_l0_ex.getD j (.ret, Sh.none)).2).T → Option R) : laws_eqIntSS_l0_again N ks (k + 1) x = roundF (laws_eqIntSS_G N) tab [] (loopAt laws_eqIntSS_code 0) laws_eqIntSS_l0_sh laws_eqIntSS_l0_ex (fun y => laws_eqIntSS_l0_again N ks k y) ks x := by kernel_rfl
theorem laws_eqIntSS_l0_ok (N : Nat) : LoopOk Try.prog Try.f49.ntmps (laws_eqIntSS_l0_s N) (loopAt laws_eqIntSS_code 0) :=
  loop_ok (l := laws_eqIntSS_l0_s N) progOk (laws_eqIntSS_gok N) (draw_ok progOk (laws_eqIntSS_gok N)) (fun R k x ks => laws_eqIntSS_l0_again N ks k x) (fun _ _ _ => rfl) (fun R k x ks => laws_eqIntSS_l0_step N R k x ks) (fun R x ks r h => ⟨N, h⟩) (lsOk_at (L := []) trivial) (by kernel_rfl) (by kernel_rfl)
noncomputable def laws_eqIntSS (N : Nat) (a : (List (List Int))) (b : (List (List Int))) : Option ((Bool × Unit) × (Unit)) :=
  (br (ine (tLen a) (tLen b))
    (some ((false, ()), ()))
    (laws_eqIntSS_l0 N (fun x => some ((x, ()), ())) (fun (_ : Unit) => some ((true, ()), ())) N a b 0))
noncomputable def laws_eqIntSS_S (N : Nat) : FSum := ⟨laws_eqIntSS_ps, laws_eqIntSS_rs, fun x => laws_eqIntSS N x.1 x.2.1⟩
theorem laws_eqIntSS_run (N : Nat) (x : argsT laws_eqIntSS_ps) : laws_eqIntSS N x.1 x.2.1 = funF (laws_eqIntSS_G N) tab [laws_eqIntSS_l0_s N] Try.f49 laws_eqIntSS_ps laws_eqIntSS_rs x := by kernel_rfl
theorem laws_eqIntSS_pc (N : Nat) : PC Try.prog 49 (laws_eqIntSS_S N) := by
  have e : laws_eqIntSS_S N = ⟨laws_eqIntSS_ps, laws_eqIntSS_rs, funF (laws_eqIntSS_G N) tab [laws_eqIntSS_l0_s N] Try.f49 laws_eqIntSS_ps laws_eqIntSS_rs⟩ := congrArg (FSum.mk laws_eqIntSS_ps laws_eqIntSS_rs) (funext (laws_eqIntSS_run N))
  rw [e]
  exact fun_ok (c := laws_eqIntSS_code) progOk (laws_eqIntSS_gok N) (draw_ok progOk (laws_eqIntSS_gok N)) Try.call49 Try.func49 (by kernel_rfl) (lsOk_at (L := [laws_eqIntSS_l0_s N]) ⟨laws_eqIntSS_l0_ok N, trivial⟩) (by kernel_rfl) (by kernel_rfl) (by kernel_rfl) (by kernel_rfl) (by kernel_rfl)

/-! ### laws_eqFormula -/
abbrev laws_eqFormula_ps : List (PV.Mode × Ty) := [(.ro, QILLI), (.ro, QILLI)]
abbrev laws_eqFormula_rs : List (Bool × Ty) := [(true, .bool)]
noncomputable def laws_eqFormula_G (N : Nat) : GTab := gOf [(49, laws_eqIntSS_S N)]
theorem laws_eqFormula_gok (N : Nat) : GOk Try.prog (laws_eqFormula_G N) := gOf_ok ⟨laws_eqIntSS_pc N, trivial⟩
noncomputable def laws_eqFormula_code : Code := (Try.f31.body).getD .skip
noncomputable def laws_eqFormula (N : Nat) (a : (Int × (List (List Int)))) (b : (Int × (List (List Int)))) : Option ((Bool × Unit) × (Unit)) :=
  (br (ine a.1 b.1)
    (some ((false, ()), ()))
    (((laws_eqIntSS N a.2 b.2).bind fun r =>
      (br (!r.1.1)
        (some ((false, ()), ()))
        (some ((true, ()), ()))))))
noncomputable def laws_eqFormula_S (N : Nat) : FSum := ⟨laws_eqFormula_ps, laws_eqFormula_rs, fun x => laws_eqFormula N x.1 x.2.1⟩
theorem laws_eqFormula_run (N : Nat) (x : argsT laws_eqFormula_ps) : laws_eqFormula N x.1 x.2.1 = funF (laws_eqFormula_G N) tab [] Try.f31 laws_eqFormula_ps laws_eqFormula_rs x := by kernel_rfl
theorem laws_eqFormula_pc (N : Nat) : PC Try.prog 31 (laws_eqFormula_S N) := by
  have e : laws_eqFormula_S N = ⟨laws_eqFormula_ps, laws_eqFormula_rs, funF (laws_eqFormula_G N) tab [] Try.f31 laws_eqFormula_ps laws_eqFormula_rs⟩ := congrArg (FSum.mk laws_eqFormula_ps laws_eqFormula_rs) (funext (laws_eqFormula_run N))
  rw [e]
  exact fun_ok (c := laws_eqFormula_code) progOk (laws_eqFormula_gok N) (draw_ok progOk (laws_eqFormula_gok N)) Try.call31 Try.func31 (by kernel_rfl) (lsOk_at (L := []) trivial) (by kernel_rfl) (by kernel_rfl) (by kernel_rfl) (by kernel_rfl) (by kernel_rfl)

/-! ### laws_FnExactFlipDistance -/
abbrev laws_FnExactFlipDistance_ps : List (PV.Mode × Ty) := [(.ro, QILLI), (.ro, LI), (.ro, LI)]
abbrev laws_FnExactFlipDistance_rs : List (Bool × Ty) := [(true, .bool)]
noncomputable def laws_FnExactFlipDistance_G (N : Nat) : GTab := gOf [(26, laws_szFormula_S N), (28, laws_toFormula_S N), (29, laws_toIntS_S N), (27, spec_FlipDistance_S N), (30, impl_FlipDistance_S N), (31, laws_eqFormula_S N), (32, laws_eqIntS_S N)]
theorem laws_FnExactFlipDistance_gok (N : Nat) : GOk Try.prog (laws_FnExactFlipDistance_G N) := gOf_ok ⟨laws_szFormula_pc N, laws_toFormula_pc N, laws_toIntS_pc N, spec_FlipDistance_pc N, impl_FlipDistance_pc N, laws_eqFormula_pc N, laws_eqIntS_pc N, trivial⟩
noncomputable def laws_FnExactFlipDistance_code : Code := (Try.f8.body).getD .skip
noncomputable def laws_FnExactFlipDistance (N : Nat) (c : (Int × (List (List Int)))) (c1 : (List Int)) (c2 : (List Int)) : Option ((Bool × Unit) × (Unit)) :=
  (br (ilt 1048576 (tLen c1))
    (some ((true, ()), ()))
    ((br (ilt 1048576 (tLen c2))
      (some ((true, ()), ()))
      (((laws_szFormula N (c.1, c.2) 1048576).bind fun r =>
        (br (ilt r.1.1 0)
          (some ((true, ()), ()))
          (((laws_toFormula N (c.1, c.2)).bind fun r1 =>
            ((laws_toIntS N c1).bind fun r2 =>
              ((laws_toIntS N c2).bind fun r3 =>
                ((spec_FlipDistance N (r1.1.1.1, r1.1.1.2) r2.1.1 r3.1.1).bind fun r4 =>
                  ((laws_toFormula N (c.1, c.2)).bind fun r5 =>
                    ((laws_toIntS N c1).bind fun r6 =>
                      ((laws_toIntS N c2).bind fun r7 =>
                        ((impl_FlipDistance N (r5.1.1.1, r5.1.1.2) r6.1.1 r7.1.1).bind fun r8 =>
                          (br (ine r8.1.1 r4.1.1)
                            (some ((false, ()), ()))
                            ((br (!(r8.1.2.1 == r4.1.2.1))
                              (some ((false, ()), ()))
                              (((laws_toFormula N (c.1, c.2)).bind fun r9 =>
                                ((laws_eqFormula N (r5.1.1.1, r5.1.1.2) (r9.1.1.1, r9.1.1.2)).bind fun r10 =>
                                  (br (!r10.1.1)
                                    (some ((false, ()), ()))
                                    (((laws_toIntS N c1).bind fun r11 =>
                                      ((laws_eqIntS N r6.1.1 r11.1.1).bind fun r12 =>
                                        (br (!r12.1.1)
                                          (some ((false, ()), ()))
                                          (((laws_toIntS N c2).bind fun r13 =>
                                            ((laws_eqIntS N r7.1.1 r13.1.1).bind fun r14 =>
                                              (br (!r14.1.1)
                                                (some ((false, ()), ()))
                                                (some ((true, ()), ()))))))))))))))))))))))))))))))))
noncomputable def laws_FnExactFlipDistance_S (N : Nat) : FSum := ⟨laws_FnExactFlipDistance_ps, laws_FnExactFlipDistance_rs, fun x => laws_FnExactFlipDistance N x.1 x.2.1 x.2.2.1⟩
theorem laws_FnExactFlipDistance_run (N : Nat) (x : argsT laws_FnExactFlipDistance_ps) : laws_FnExactFlipDistance N x.1 x.2.1 x.2.2.1 = funF (laws_FnExactFlipDistance_G N) tab [] Try.f8 laws_FnExactFlipDistance_ps laws_FnExactFlipDistance_rs x := by kernel_rfl
theorem laws_FnExactFlipDistance_pc (N : Nat) : PC Try.prog 8 (laws_FnExactFlipDistance_S N) := by
  have e : laws_FnExactFlipDistance_S N = ⟨laws_FnExactFlipDistance_ps, laws_FnExactFlipDistance_rs, funF (laws_FnExactFlipDistance_G N) tab [] Try.f8 laws_FnExactFlipDistance_ps laws_FnExactFlipDistance_rs⟩ := congrArg (FSum.mk laws_FnExactFlipDistance_ps laws_FnExactFlipDistance_rs) (funext (laws_FnExactFlipDistance_run N))
  rw [e]
  exact fun_ok (c := laws_FnExactFlipDistance_code) progOk (laws_FnExactFlipDistance_gok N) (draw_ok progOk (laws_FnExactFlipDistance_gok N)) Try.call8 Try.func8 (by kernel_rfl) (lsOk_at (L := []) trivial) (by kernel_rfl) (by kernel_rfl) (by kernel_rfl) (by kernel_rfl) (by kernel_rfl)
end Go.Proofs.Ytgelipdkheahdaa
