/- Functions of the program as functions on data. -/
import Derived.Test.YtaodifjegdpifaaGreatHornFb
set_option linter.all false
namespace Go.Proofs.YtaodifjegdpifaaGreat
open Go Go.PV
/-! ### impl_Space_firstWay -/
abbrev impl_Space_firstWay_ps : List (PV.Mode × Ty) := [(.ro, QLLILQII), (.ro, I), (.ro, I)]
abbrev impl_Space_firstWay_rs : List (Bool × Ty) := [(true, LI), (true, .bool)]
noncomputable def impl_Space_firstWay_G (N : Nat) : GTab := gOf [(74, impl_Space_roads_S N), (75, impl_spread_S N)]
theorem impl_Space_firstWay_gok (N : Nat) : GOk Tryz.prog (impl_Space_firstWay_G N) := gOf_ok ⟨impl_Space_roads_pc N, impl_spread_pc N, trivial⟩
noncomputable def impl_Space_firstWay_code : Code := (Tryz.f62.body).getD .skip
noncomputable def impl_Space_firstWay_l0_0_sh : Sh := ⟨[(1, .one (.ro I)), (2, .one (.ro I)), (8, .one (.ref 0)), (9, .one (.ref 1)), (10, .one (.ref 2)), (31, .one (.el 0)), (32, .one (.ro I)), (33, .one (.ro I))], [.sl 27 LI .deep, .sl 3 I .own, .sl 3 I .own]⟩
noncomputable def impl_Space_firstWay_l0_0_ex : List (Ex × Sh) := [(.exit 2, ⟨[(1, .one (.ro I)), (2, .one (.ro I)), (8, .one (.ref 0)), (9, .one (.ref 1)), (10, .one (.ref 2))], [.sl 27 LI .deep, .sl 3 I .own, .sl 3 I .own]⟩)]
noncomputable def impl_Space_firstWay_l0_0 {R : Type} (N : Nat) (k0 : Int → Int → (List (List Int)) → (List Int) → (List Int) → Option R) : Nat → Int → Int → Int → Int → Int → (List (List Int)) → (List Int) → (List Int) → Option R
  | 0, _, _, _, _, _, _, _, _ => none
  | K + 1, i2, j2, x1, x2, x3, o3, o4, o5 =>
    (br (ilt x3 x2)
      ((chk (inb (rdL o3 x1) x3)
        (chk (inb o4 (rdI (rdL o3 x1) x3))
        (chk (inb o4 i2)
        (br (ieq (rdI o4 (rdI (rdL o3 x1) x3)) (IntKind.i64.wrap ((rdI o4 i2) - 1)))
        (k0 (rdI (rdL o3 x1) x3) j2 o3 o4 o5)
        (impl_Space_firstWay_l0_0 N k0 K i2 j2 x1 x2 (IntKind.i64.wrap (x3 + 1)) o3 o4 o5))))))
      (k0 i2 j2 o3 o4 o5))
noncomputable def impl_Space_firstWay_l0_0_again {R : Type} (N : Nat) (ks : (j : Nat) → ((impl_Space_firstWay_l0_0_ex.getD j (.ret, Sh.none)).2).T → Option R) (k : Nat) (x : impl_Space_firstWay_l0_0_sh.T) : Option R :=
  impl_Space_firstWay_l0_0 N (fun y0 y1 y2 y3 y4 => ks 0 ((y0, y1, (), (), (), ()), (y2, y3, y4, ()))) k x.1.1 x.1.2.1 x.1.2.2.2.2.2.1 x.1.2.2.2.2.2.2.1 x.1.2.2.2.2.2.2.2.1 x.2.1 x.2.2.1 x.2.2.2.1
noncomputable def impl_Space_firstWay_l0_0_s (N : Nat) : LSum := ⟨impl_Space_firstWay_l0_0_sh, impl_Space_firstWay_l0_0_ex, fun x ks => impl_Space_firstWay_l0_0_again N ks N x⟩
theorem impl_Space_firstWay_l0_0_step (N : Nat) (R : Type) (k : Nat) (x : impl_Space_firstWay_l0_0_sh.T) (ks : (j : Nat) → ((impl_Space_firstWay_l0_0_ex.getD j (.ret, Sh.none)).2).T → Option R) : impl_Space_firstWay_l0_0_again N ks (k + 1) x = roundF (impl_Space_firstWay_G N) tab [] (loopAt (loopAt impl_Space_firstWay_code 0) 0) impl_Space_firstWay_l0_0_sh impl_Space_firstWay_l0_0_ex (fun y => impl_Space_firstWay_l0_0_again N ks k y) ks x := by kernel_rfl
theorem impl_Space_firstWay_l0_0_ok (N : Nat) : LoopOk Tryz.prog Tryz.f62.ntmps (impl_Space_firstWay_l0_0_s N) (loopAt (loopAt impl_Space_firstWay_code 0) 0) :=
  loop_ok (l := impl_Space_firstWay_l0_0_s N) progOk (impl_Space_firstWay_gok N) (draw_ok progOk (impl_Space_firstWay_gok N)) (fun R k x ks => impl_Space_firstWay_l0_0_again N ks k x) (fun _ _ _ => rfl) (fun R k x ks => impl_Space_firstWay_l0_0_step N R k x ks) (fun R x ks r h => ⟨N, h⟩) (lsOk_at (L := []) trivial) (by kernel_rfl) (by kernel_rfl)
noncomputable def impl_Space_firstWay_l0_sh : Sh := ⟨[(1, .one (.ro I)), (2, .one (.ro I)), (8, .one (.ref 0)), (9, .one (.ref 1)), (10, .one (.ref 2))], [.sl 27 LI .deep, .sl 3 I .own, .sl 3 I .own]⟩
noncomputable def impl_Space_firstWay_l0_ex : List (Ex × Sh) := [(.exit 0, ⟨[(10, .one (.ref 0))], [.sl 3 I .own]⟩)]
noncomputable def impl_Space_firstWay_l0 {R : Type} (N : Nat) (k0 : (List Int) → Option R) : Nat → Int → Int → (List (List Int)) → (List Int) → (List Int) → Option R
  | 0, _, _, _, _, _ => none
  | K + 1, i1, j1, o, o1, o2 =>
    (br (ine i1 j1)
      ((chk (inb o i1)
        (impl_Space_firstWay_l0_0 N (fun i2 j2 o3 o4 o5 => (chk (room o5 [i2])
        (impl_Space_firstWay_l0 N k0 K i2 j2 o3 o4 (tApp o5 [i2])))) N i1 j1 i1 (tLen (rdL o i1)) 0 o o1 o2)))
      (k0 o2))
noncomputable def impl_Space_firstWay_l0_again {R : Type} (N : Nat) (ks : (j : Nat) → ((impl_Space_firstWay_l0_ex.getD j (.ret, Sh.none)).2).T → Option R) (k : Nat) (x : impl_Space_firstWay_l0_sh.T) : Option R :=
  impl_Space_firstWay_l0 N (fun y0 => ks 0 (((), ()), (y0, ()))) k x.1.1 x.1.2.1 x.2.1 x.2.2.1 x.2.2.2.1
noncomputable def impl_Space_firstWay_l0_s (N : Nat) : LSum := ⟨impl_Space_firstWay_l0_sh, impl_Space_firstWay_l0_ex, fun x ks => impl_Space_firstWay_l0_again N ks N x⟩
theorem impl_Space_firstWay_l0_step (N : Nat) (R : Type) (k : Nat) (x : impl_Space_firstWay_l0_sh.T) (ks : (j : Nat) → ((impl_Space_firstWay_l0_ex.getD j (.ret, Sh.none)).2).T → Option R) : impl_Space_firstWay_l0_again N ks (k + 1) x = roundF (impl_Space_firstWay_G N) tab [impl_Space_firstWay_l0_0_s N] (loopAt impl_Space_firstWay_code 0) impl_Space_firstWay_l0_sh impl_Space_firstWay_l0_ex (fun y => impl_Space_firstWay_l0_again N ks k y) ks x := by kernel_rfl
theorem impl_Space_firstWay_l0_ok (N : Nat) : LoopOk Tryz.prog Tryz.f62.ntmps (impl_Space_firstWay_l0_s N) (loopAt impl_Space_firstWay_code 0) :=
  loop_ok (l := impl_Space_firstWay_l0_s N) progOk (impl_Space_firstWay_gok N) (draw_ok progOk (impl_Space_firstWay_gok N)) (fun R k x ks => impl_Space_firstWay_l0_again N ks k x) (fun _ _ _ => rfl) (fun R k x ks => impl_Space_firstWay_l0_step N R k x ks) (fun R x ks r h => ⟨N, h⟩) (lsOk_at (L := [impl_Space_firstWay_l0_0_s N]) ⟨impl_Space_firstWay_l0_0_ok N, trivial⟩) (by kernel_rfl) (by kernel_rfl)
noncomputable def impl_Space_firstWay (N : Nat) (x : ((List (List Int)) × (List (Int × Int)))) (i : Int) (j : Int) : Option (((List Int) × Bool × Unit) × (Unit)) :=
  ((impl_Space_roads N (x.1, x.2)).bind fun r =>
    ((impl_spread N r.1.1 j).bind fun r1 =>
      (chk (inb r1.1.1 i)
        (br (ilt (rdI r1.1.1 i) 0)
        (some (([], false, ()), ()))
        (impl_Space_firstWay_l0 N (fun o => some ((o, true, ()), ())) N i j r.1.1 r1.1.1 [i])))))
noncomputable def impl_Space_firstWay_S (N : Nat) : FSum := ⟨impl_Space_firstWay_ps, impl_Space_firstWay_rs, fun x => impl_Space_firstWay N x.1 x.2.1 x.2.2.1⟩
theorem impl_Space_firstWay_run (N : Nat) (x : argsT impl_Space_firstWay_ps) : impl_Space_firstWay N x.1 x.2.1 x.2.2.1 = funF (impl_Space_firstWay_G N) tab [impl_Space_firstWay_l0_s N] Tryz.f62 impl_Space_firstWay_ps impl_Space_firstWay_rs x := by kernel_rfl
theorem impl_Space_firstWay_pc (N : Nat) : PC Tryz.prog 62 (impl_Space_firstWay_S N) := by
  have e : impl_Space_firstWay_S N = ⟨impl_Space_firstWay_ps, impl_Space_firstWay_rs, funF (impl_Space_firstWay_G N) tab [impl_Space_firstWay_l0_s N] Tryz.f62 impl_Space_firstWay_ps impl_Space_firstWay_rs⟩ := congrArg (FSum.mk impl_Space_firstWay_ps impl_Space_firstWay_rs) (funext (impl_Space_firstWay_run N))
  rw [e]
  exact fun_ok (c := impl_Space_firstWay_code) progOk (impl_Space_firstWay_gok N) (draw_ok progOk (impl_Space_firstWay_gok N)) Tryz.call62 Tryz.func62 (by kernel_rfl) (lsOk_at (L := [impl_Space_firstWay_l0_s N]) ⟨impl_Space_firstWay_l0_ok N, trivial⟩) (by kernel_rfl) (by kernel_rfl) (by kernel_rfl) (by kernel_rfl) (by kernel_rfl)

/-! ### slices_Clone_LI_int -/
abbrev slices_Clone_LI_int_ps : List (PV.Mode × Ty) := [(.ro, LI)]
abbrev slices_Clone_LI_int_rs : List (Bool × Ty) := [(true, LI)]
noncomputable def slices_Clone_LI_int_G (N : Nat) : GTab := gOf []
theorem slices_Clone_LI_int_gok (N : Nat) : GOk Tryz.prog (slices_Clone_LI_int_G N) := gOf_ok trivial
noncomputable def slices_Clone_LI_int_code : Code := (Tryz.f45.body).getD .skip
noncomputable def slices_Clone_LI_int (N : Nat) (s : (List Int)) : Option (((List Int) × Unit) × (Unit)) :=
  (br (ieq (tLen s) 0)
    ((amb
      (some (([], ()), ()))
      ((chk (room (α := Int) (β := Int) [] s)
        (some (((tApp [] s), ()), ()))))))
    ((chk (room (α := Int) (β := Int) [] s)
      (some (((tApp [] s), ()), ())))))
noncomputable def slices_Clone_LI_int_S (N : Nat) : FSum := ⟨slices_Clone_LI_int_ps, slices_Clone_LI_int_rs, fun x => slices_Clone_LI_int N x.1⟩
theorem slices_Clone_LI_int_run (N : Nat) (x : argsT slices_Clone_LI_int_ps) : slices_Clone_LI_int N x.1 = funF (slices_Clone_LI_int_G N) tab [] Tryz.f45 slices_Clone_LI_int_ps slices_Clone_LI_int_rs x := by kernel_rfl
theorem slices_Clone_LI_int_pc (N : Nat) : PC Tryz.prog 45 (slices_Clone_LI_int_S N) := by
  have e : slices_Clone_LI_int_S N = ⟨slices_Clone_LI_int_ps, slices_Clone_LI_int_rs, funF (slices_Clone_LI_int_G N) tab [] Tryz.f45 slices_Clone_LI_int_ps slices_Clone_LI_int_rs⟩ := congrArg (FSum.mk slices_Clone_LI_int_ps slices_Clone_LI_int_rs) (funext (slices_Clone_LI_int_run N))
  rw [e]
  exact fun_ok (c := slices_Clone_LI_int_code) progOk (slices_Clone_LI_int_gok N) (draw_ok progOk (slices_Clone_LI_int_gok N)) Tryz.call45 Tryz.func45 (by kernel_rfl) (lsOk_at (L := []) trivial) (by kernel_rfl) (by kernel_rfl) (by kernel_rfl) (by kernel_rfl) (by kernel_rfl)

/-! ### impl_Space_walk -/
abbrev impl_Space_walk_ps : List (PV.Mode × Ty) := [(.ro, QLLILQII), (.ro, LI), (.ro, LI)]
abbrev impl_Space_walk_rs : List (Bool × Ty) := [(true, LLI), (true, .bool)]
noncomputable def impl_Space_walk_G (N : Nat) : GTab := gOf [(61, impl_Space_place_S N), (62, impl_Space_firstWay_S N), (45, slices_Clone_LI_int_S N)]
theorem impl_Space_walk_gok (N : Nat) : GOk Tryz.prog (impl_Space_walk_G N) := gOf_ok ⟨impl_Space_place_pc N, impl_Space_firstWay_pc N, slices_Clone_LI_int_pc N, trivial⟩
noncomputable def impl_Space_walk_code : Code := (Tryz.f38.body).getD .skip
noncomputable def impl_Space_walk_l0_sh : Sh := ⟨[(3, .one (.adr 0 0)), (13, .one (.ro .bool)), (14, .one (.ref 1)), (43, .one (.ref 2)), (44, .one (.ro I)), (45, .one (.ro I))], [.box [.ro LLI, .ro LQII], .sl 27 LI .deep, .sl 3 I .own]⟩
noncomputable def impl_Space_walk_l0_ex : List (Ex × Sh) := [(.exit 0, ⟨[(13, .one (.ro .bool)), (14, .one (.ref 0))], [.sl 27 LI .deep]⟩)]
noncomputable def impl_Space_walk_l0 {R : Type} (N : Nat) (k0 : Bool → (List (List Int)) → Option R) : Nat → Bool → Int → Int → (List (List Int)) → (List (Int × Int)) → (List (List Int)) → (List Int) → Option R
  | 0, _, _, _, _, _, _, _ => none
  | K + 1, ok, x1, x2, o, o1, o2, o3 =>
    (br (ilt x2 x1)
      ((chk (inb o3 x2)
        (chk (inb o (rdI o3 x2))
        ((slices_Clone_LI_int N (rdL o (rdI o3 x2))).bind fun r3 =>
        (chk (room o2 [r3.1.1])
          (impl_Space_walk_l0 N k0 K ok x1 (IntKind.i64.wrap (x2 + 1)) o o1 (tApp o2 [r3.1.1]) o3))))))
      (k0 ok o2))
noncomputable def impl_Space_walk_l0_again {R : Type} (N : Nat) (ks : (j : Nat) → ((impl_Space_walk_l0_ex.getD j (.ret, Sh.none)).2).T → Option R) (k : Nat) (x : impl_Space_walk_l0_sh.T) : Option R :=
  impl_Space_walk_l0 N (fun y0 y1 => ks 0 ((y0, (), ()), (y1, ()))) k x.1.2.1 x.1.2.2.2.2.1 x.1.2.2.2.2.2.1 x.2.1.1 x.2.1.2.1 x.2.2.1 x.2.2.2.1
noncomputable def impl_Space_walk_l0_s (N : Nat) : LSum := ⟨impl_Space_walk_l0_sh, impl_Space_walk_l0_ex, fun x ks => impl_Space_walk_l0_again N ks N x⟩
theorem impl_Space_walk_l0_step (N : Nat) (R : Type) (k : Nat) (x : impl_Space_walk_l0_sh.T) (ks : (j : Nat) → ((impl_Space_walk_l0_ex.getD j (.ret, Sh.none)).2).T → Option R) : impl_Space_walk_l0_again N ks (k + 1) x = roundF (impl_Space_walk_G N) tab [] (loopAt impl_Space_walk_code 0) impl_Space_walk_l0_sh impl_Space_walk_l0_ex (fun y => impl_Space_walk_l0_again N ks k y) ks x := by kernel_rfl
theorem impl_Space_walk_l0_ok (N : Nat) : LoopOk Tryz.prog Tryz.f38.ntmps (impl_Space_walk_l0_s N) (loopAt impl_Space_walk_code 0) :=
  loop_ok (l := impl_Space_walk_l0_s N) progOk (impl_Space_walk_gok N) (draw_ok progOk (impl_Space_walk_gok N)) (fun R k x ks => impl_Space_walk_l0_again N ks k x) (fun _ _ _ => rfl) (fun R k x ks => impl_Space_walk_l0_step N R k x ks) (fun R x ks r h => ⟨N, h⟩) (lsOk_at (L := []) trivial) (by kernel_rfl) (by kernel_rfl)
noncomputable def impl_Space_walk (N : Nat) (x : ((List (List Int)) × (List (Int × Int)))) (a : (List Int)) (b : (List Int)) : Option (((List (List Int)) × Bool × Unit) × (Unit)) :=
  ((impl_Space_place N (x.1, x.2) a).bind fun r =>
    ((impl_Space_place N (x.1, x.2) b).bind fun r1 =>
      (br (!r.1.2.1)
        (some (([], false, ()), ()))
        ((br (!r1.1.2.1)
          (some (([], false, ()), ()))
          (((impl_Space_firstWay N (x.1, x.2) r.1.1 r1.1.1).bind fun r2 =>
            impl_Space_walk_l0 N (fun ok o => some ((o, ok, ()), ())) N r2.1.2.1 (tLen r2.1.1) 0 x.1 x.2 [] r2.1.1)))))))
noncomputable def impl_Space_walk_S (N : Nat) : FSum := ⟨impl_Space_walk_ps, impl_Space_walk_rs, fun x => impl_Space_walk N x.1 x.2.1 x.2.2.1⟩
theorem impl_Space_walk_run (N : Nat) (x : argsT impl_Space_walk_ps) : impl_Space_walk N x.1 x.2.1 x.2.2.1 = funF (impl_Space_walk_G N) tab [impl_Space_walk_l0_s N] Tryz.f38 impl_Space_walk_ps impl_Space_walk_rs x := by kernel_rfl
theorem impl_Space_walk_pc (N : Nat) : PC Tryz.prog 38 (impl_Space_walk_S N) := by
  have e : impl_Space_walk_S N = ⟨impl_Space_walk_ps, impl_Space_walk_rs, funF (impl_Space_walk_G N) tab [impl_Space_walk_l0_s N] Tryz.f38 impl_Space_walk_ps impl_Space_walk_rs⟩ := congrArg (FSum.mk impl_Space_walk_ps impl_Space_walk_rs) (funext (impl_Space_walk_run N))
  rw [e]
  exact fun_ok (c := impl_Space_walk_code) progOk (impl_Space_walk_gok N) (draw_ok progOk (impl_Space_walk_gok N)) Tryz.call38 Tryz.func38 (by kernel_rfl) (lsOk_at (L := [impl_Space_walk_l0_s N]) ⟨impl_Space_walk_l0_ok N, trivial⟩) (by kernel_rfl) (by kernel_rfl) (by kernel_rfl) (by kernel_rfl) (by kernel_rfl)

/-! ### impl_FlipWay -/
abbrev impl_FlipWay_ps : List (PV.Mode × Ty) := [(.ro, QILLI), (.ro, LI), (.ro, LI)]
abbrev impl_FlipWay_rs : List (Bool × Ty) := [(true, LI), (true, .bool)]
noncomputable def impl_FlipWay_G (N : Nat) : GTab := gOf [(23, impl_isSolution_S N), (37, impl_Formula_flips_S N), (38, impl_Space_walk_S N), (39, impl_places_S N)]
theorem impl_FlipWay_gok (N : Nat) : GOk Tryz.prog (impl_FlipWay_G N) := gOf_ok ⟨impl_isSolution_pc N, impl_Formula_flips_pc N, impl_Space_walk_pc N, impl_places_pc N, trivial⟩
noncomputable def impl_FlipWay_code : Code := (Tryz.f18.body).getD .skip
noncomputable def impl_FlipWay_l0_sh : Sh := ⟨[(8, .one (.ref 0)), (10, .one (.ref 1)), (11, .one (.ro I))], [.sl 27 LI .deep, .sl 3 I .own]⟩
noncomputable def impl_FlipWay_l0_ex : List (Ex × Sh) := [(.exit 0, ⟨[(10, .one (.ref 0))], [.sl 3 I .own]⟩)]
noncomputable def impl_FlipWay_l0 {R : Type} (N : Nat) (k0 : (List Int) → Option R) : Nat → Int → (List (List Int)) → (List Int) → Option R
  | 0, _, _, _ => none
  | K + 1, i, o, o1 =>
    (br (ilt i (tLen o))
      ((chk (inb o (IntKind.i64.wrap (i - 1)))
        (chk (inb o i)
        ((impl_places N (rdL o (IntKind.i64.wrap (i - 1))) (rdL o i)).bind fun r4 =>
        (chk (inb r4.1.1 0)
          (chk (room o1 [(rdI r4.1.1 0)])
          (impl_FlipWay_l0 N k0 K (IntKind.i64.wrap (i + 1)) o (tApp o1 [(rdI r4.1.1 0)]))))))))
      (k0 o1))
noncomputable def impl_FlipWay_l0_again {R : Type} (N : Nat) (ks : (j : Nat) → ((impl_FlipWay_l0_ex.getD j (.ret, Sh.none)).2).T → Option R) (k : Nat) (x : impl_FlipWay_l0_sh.T) : Option R :=
  impl_FlipWay_l0 N (fun y0 => ks 0 (((), ()), (y0, ()))) k x.1.2.2.1 x.2.1 x.2.2.1
noncomputable def impl_FlipWay_l0_s (N : Nat) : LSum := ⟨impl_FlipWay_l0_sh, impl_FlipWay_l0_ex, fun x ks => impl_FlipWay_l0_again N ks N x⟩
theorem impl_FlipWay_l0_step (N : Nat) (R : Type) (k : Nat) (x : impl_FlipWay_l0_sh.T) (ks : (j : Nat) → ((impl_FlipWay_l0_ex.getD j (.ret, Sh.none)).2).T → Option R) : impl_FlipWay_l0_again N ks (k + 1) x = roundF (impl_FlipWay_G N) tab [] (loopAt impl_FlipWay_code 0) impl_FlipWay_l0_sh impl_FlipWay_l0_ex (fun y => impl_FlipWay_l0_again N ks k y) ks x := by kernel_rfl
theorem impl_FlipWay_l0_ok (N : Nat) : LoopOk Tryz.prog Tryz.f18.ntmps (impl_FlipWay_l0_s N) (loopAt impl_FlipWay_code 0) :=
  loop_ok (l := impl_FlipWay_l0_s N) progOk (impl_FlipWay_gok N) (draw_ok progOk (impl_FlipWay_gok N)) (fun R k x ks => impl_FlipWay_l0_again N ks k x) (fun _ _ _ => rfl) (fun R k x ks => impl_FlipWay_l0_step N R k x ks) (fun R x ks r h => ⟨N, h⟩) (lsOk_at (L := []) trivial) (by kernel_rfl) (by kernel_rfl)
noncomputable def impl_FlipWay (N : Nat) (f : (Int × (List (List Int)))) (a : (List Int)) (b : (List Int)) : Option (((List Int) × Bool × Unit) × (Unit)) :=
  ((impl_isSolution N (f.1, f.2) a).bind fun r =>
    (br (!r.1.1)
      (some (([], false, ()), ()))
      (((impl_isSolution N (f.1, f.2) b).bind fun r1 =>
        (br (!r1.1.1)
          (some (([], false, ()), ()))
          (((impl_Formula_flips N (f.1, f.2)).bind fun r2 =>
            ((impl_Space_walk N (r2.1.1.1, r2.1.1.2) a b).bind fun r3 =>
              (br (!r3.1.2.1)
                (some (([], false, ()), ()))
                (impl_FlipWay_l0 N (fun o => some ((o, true, ()), ())) N 1 r3.1.1 []))))))))))
noncomputable def impl_FlipWay_S (N : Nat) : FSum := ⟨impl_FlipWay_ps, impl_FlipWay_rs, fun x => impl_FlipWay N x.1 x.2.1 x.2.2.1⟩
theorem impl_FlipWay_run (N : Nat) (x : argsT impl_FlipWay_ps) : impl_FlipWay N x.1 x.2.1 x.2.2.1 = funF (impl_FlipWay_G N) tab [impl_FlipWay_l0_s N] Tryz.f18 impl_FlipWay_ps impl_FlipWay_rs x := by kernel_rfl
theorem impl_FlipWay_pc (N : Nat) : PC Tryz.prog 18 (impl_FlipWay_S N) := by
  have e : impl_FlipWay_S N = ⟨impl_FlipWay_ps, impl_FlipWay_rs, funF (impl_FlipWay_G N) tab [impl_FlipWay_l0_s N] Tryz.f18 impl_FlipWay_ps impl_FlipWay_rs⟩ := congrArg (FSum.mk impl_FlipWay_ps impl_FlipWay_rs) (funext (impl_FlipWay_run N))
  rw [e]
  exact fun_ok (c := impl_FlipWay_code) progOk (impl_FlipWay_gok N) (draw_ok progOk (impl_FlipWay_gok N)) Tryz.call18 Tryz.func18 (by kernel_rfl) (lsOk_at (L := [impl_FlipWay_l0_s N]) ⟨impl_FlipWay_l0_ok N, trivial⟩) (by kernel_rfl) (by kernel_rfl) (by kernel_rfl) (by kernel_rfl) (by kernel_rfl)

/-! ### impl_FlipDistance -/
abbrev impl_FlipDistance_ps : List (PV.Mode × Ty) := [(.ro, QILLI), (.ro, LI), (.ro, LI)]
abbrev impl_FlipDistance_rs : List (Bool × Ty) := [(true, I), (true, .bool)]
noncomputable def impl_FlipDistance_G (N : Nat) : GTab := gOf [(18, impl_FlipWay_S N)]
theorem impl_FlipDistance_gok (N : Nat) : GOk Tryz.prog (impl_FlipDistance_G N) := gOf_ok ⟨impl_FlipWay_pc N, trivial⟩
noncomputable def impl_FlipDistance_code : Code := (Tryz.f6.body).getD .skip
noncomputable def impl_FlipDistance (N : Nat) (f : (Int × (List (List Int)))) (a : (List Int)) (b : (List Int)) : Option ((Int × Bool × Unit) × (Unit)) :=
  ((impl_FlipWay N (f.1, f.2) a b).bind fun r =>
    some (((tLen r.1.1), r.1.2.1, ()), ()))
noncomputable def impl_FlipDistance_S (N : Nat) : FSum := ⟨impl_FlipDistance_ps, impl_FlipDistance_rs, fun x => impl_FlipDistance N x.1 x.2.1 x.2.2.1⟩
theorem impl_FlipDistance_run (N : Nat) (x : argsT impl_FlipDistance_ps) : impl_FlipDistance N x.1 x.2.1 x.2.2.1 = funF (impl_FlipDistance_G N) tab [] Tryz.f6 impl_FlipDistance_ps impl_FlipDistance_rs x := by kernel_rfl
theorem impl_FlipDistance_pc (N : Nat) : PC Tryz.prog 6 (impl_FlipDistance_S N) := by
  have e : impl_FlipDistance_S N = ⟨impl_FlipDistance_ps, impl_FlipDistance_rs, funF (impl_FlipDistance_G N) tab [] Tryz.f6 impl_FlipDistance_ps impl_FlipDistance_rs⟩ := congrArg (FSum.mk impl_FlipDistance_ps impl_FlipDistance_rs) (funext (impl_FlipDistance_run N))
  rw [e]
  exact fun_ok (c := impl_FlipDistance_code) progOk (impl_FlipDistance_gok N) (draw_ok progOk (impl_FlipDistance_gok N)) Tryz.call6 Tryz.func6 (by kernel_rfl) (lsOk_at (L := []) trivial) (by kernel_rfl) (by kernel_rfl) (by kernel_rfl) (by kernel_rfl) (by kernel_rfl)

/-! ### spec_l6Bits -/
abbrev spec_l6Bits_ps : List (PV.Mode × Ty) := [(.ro, I), (.ro, LI)]
abbrev spec_l6Bits_rs : List (Bool × Ty) := [(true, .bool)]
noncomputable def spec_l6Bits_G (N : Nat) : GTab := gOf [(55, spec_l1In_S N)]
theorem spec_l6Bits_gok (N : Nat) : GOk Tryz.prog (spec_l6Bits_G N) := gOf_ok ⟨spec_l1In_pc N, trivial⟩
noncomputable def spec_l6Bits_code : Code := (Tryz.f40.body).getD .skip
noncomputable def spec_l6Bits_l0_sh : Sh := ⟨[(0, .one (.ro I)), (1, .one (.ro LI)), (5, .one (.ro I))], []⟩
noncomputable def spec_l6Bits_l0_ex : List (Ex × Sh) := [(.ret, ⟨[(4, .one (.ro .bool))], []⟩), (.exit 0, ⟨[(0, .one (.ro I)), (1, .one (.ro LI))], []⟩)]
noncomputable def spec_l6Bits_l0 {R : Type} (N : Nat) (k0 : Bool → Option R) (k1 : Int → (List Int) → Option R) : Nat → Int → (List Int) → Int → Option R
  | 0, _, _, _ => none
  | K + 1, vars1, bits1, i =>
    (br (ilt i (tLen bits1))
      ((chk (inb bits1 i)
        ((spec_l1In N (rdI bits1 i) 0 1).bind fun r =>
        (br (!r.1.1)
          (k0 false)
          (spec_l6Bits_l0 N k0 k1 K vars1 bits1 (IntKind.i64.wrap (i + 1)))))))
      (k1 vars1 bits1))
noncomputable def spec_l6Bits_l0_again {R : Type} (N : Nat) (ks : (j : Nat) → ((spec_l6Bits_l0_ex.getD j (.ret, Sh.none)).2).T → Option R) (k : Nat) (x : spec_l6Bits_l0_sh.T) : Option R :=
  spec_l6Bits_l0 N (fun y0 => ks 0 ((y0, ()), ())) (fun y0 y1 => ks 1 ((y0, y1, ()), ())) k x.1.1 x.1.2.1 x.1.2.2.1
noncomputable def spec_l6Bits_l0_s (N : Nat) : LSum := ⟨spec_l6Bits_l0_sh, spec_l6Bits_l0_ex, fun x ks => spec_l6Bits_l0_again N ks N x⟩
theorem spec_l6Bits_l0_step (N : Nat) (R : Type) (k : Nat) (x : spec_l6Bits_l0_sh.T) (ks : (j : Nat) → ((spec_l6Bits_l0_ex.getD j (.ret, Sh.none)).2).T → Option R) : spec_l6Bits_l0_again N ks (k + 1) x = roundF (spec_l6Bits_G N) tab [] (loopAt spec_l6Bits_code 0) spec_l6Bits_l0_sh spec_l6Bits_l0_ex (fun y => spec_l6Bits_l0_again N ks k y) ks x := by kernel_rfl
theorem spec_l6Bits_l0_ok (N : Nat) : LoopOk Tryz.prog Tryz.f40.ntmps (spec_l6Bits_l0_s N) (loopAt spec_l6Bits_code 0) :=
  loop_ok (l := spec_l6Bits_l0_s N) progOk (spec_l6Bits_gok N) (draw_ok progOk (spec_l6Bits_gok N)) (fun R k x ks => spec_l6Bits_l0_again N ks k x) (fun _ _ _ => rfl) (fun R k x ks => spec_l6Bits_l0_step N R k x ks) (fun R x ks r h => ⟨N, h⟩) (lsOk_at (L := []) trivial) (by kernel_rfl) (by kernel_rfl)
noncomputable def spec_l6Bits (N : Nat) (vars : Int) (bits : (List Int)) : Option ((Bool × Unit) × (Unit)) :=
  spec_l6Bits_l0 N (fun x => some ((x, ()), ())) (fun vars1 bits1 => some (((ieq (tLen bits1) vars1), ()), ())) N vars bits 0
noncomputable def spec_l6Bits_S (N : Nat) : FSum := ⟨spec_l6Bits_ps, spec_l6Bits_rs, fun x => spec_l6Bits N x.1 x.2.1⟩
theorem spec_l6Bits_run (N : Nat) (x : argsT spec_l6Bits_ps) : spec_l6Bits N x.1 x.2.1 = funF (spec_l6Bits_G N) tab [spec_l6Bits_l0_s N] Tryz.f40 spec_l6Bits_ps spec_l6Bits_rs x := by kernel_rfl
theorem spec_l6Bits_pc (N : Nat) : PC Tryz.prog 40 (spec_l6Bits_S N) := by
  have e : spec_l6Bits_S N = ⟨spec_l6Bits_ps, spec_l6Bits_rs, funF (spec_l6Bits_G N) tab [spec_l6Bits_l0_s N] Tryz.f40 spec_l6Bits_ps spec_l6Bits_rs⟩ := congrArg (FSum.mk spec_l6Bits_ps spec_l6Bits_rs) (funext (spec_l6Bits_run N))
  rw [e]
  exact fun_ok (c := spec_l6Bits_code) progOk (spec_l6Bits_gok N) (draw_ok progOk (spec_l6Bits_gok N)) Tryz.call40 Tryz.func40 (by kernel_rfl) (lsOk_at (L := [spec_l6Bits_l0_s N]) ⟨spec_l6Bits_l0_ok N, trivial⟩) (by kernel_rfl) (by kernel_rfl) (by kernel_rfl) (by kernel_rfl) (by kernel_rfl)

/-! ### spec_l6Two -/
abbrev spec_l6Two_ps : List (PV.Mode × Ty) := [(.ro, QILLI), (.ro, LI), (.ro, LI)]
abbrev spec_l6Two_rs : List (Bool × Ty) := [(true, .bool)]
noncomputable def spec_l6Two_G (N : Nat) : GTab := gOf [(34, spec_l6Good_S N), (40, spec_l6Bits_S N), (26, spec_l6Solves_S N)]
theorem spec_l6Two_gok (N : Nat) : GOk Tryz.prog (spec_l6Two_G N) := gOf_ok ⟨spec_l6Good_pc N, spec_l6Bits_pc N, spec_l6Solves_pc N, trivial⟩
noncomputable def spec_l6Two_code : Code := (Tryz.f19.body).getD .skip
noncomputable def spec_l6Two (N : Nat) (f : (Int × (List (List Int)))) (a : (List Int)) (b : (List Int)) : Option ((Bool × Unit) × (Unit)) :=
  ((spec_l6Good N (f.1, f.2)).bind fun r =>
    (br r.1.1
      (((spec_l6Bits N f.1 a).bind fun r1 =>
        (br r1.1.1
          (((spec_l6Bits N f.1 b).bind fun r2 =>
            (br r2.1.1
              (((spec_l6Solves N (f.1, f.2) a).bind fun r3 =>
                (br r3.1.1
                  (((spec_l6Solves N (f.1, f.2) b).bind fun r4 =>
                    some ((r4.1.1, ()), ())))
                  (some ((false, ()), ())))))
              (some ((false, ()), ())))))
          (some ((false, ()), ())))))
      (some ((false, ()), ()))))
noncomputable def spec_l6Two_S (N : Nat) : FSum := ⟨spec_l6Two_ps, spec_l6Two_rs, fun x => spec_l6Two N x.1 x.2.1 x.2.2.1⟩
theorem spec_l6Two_run (N : Nat) (x : argsT spec_l6Two_ps) : spec_l6Two N x.1 x.2.1 x.2.2.1 = funF (spec_l6Two_G N) tab [] Tryz.f19 spec_l6Two_ps spec_l6Two_rs x := by kernel_rfl
theorem spec_l6Two_pc (N : Nat) : PC Tryz.prog 19 (spec_l6Two_S N) := by
  have e : spec_l6Two_S N = ⟨spec_l6Two_ps, spec_l6Two_rs, funF (spec_l6Two_G N) tab [] Tryz.f19 spec_l6Two_ps spec_l6Two_rs⟩ := congrArg (FSum.mk spec_l6Two_ps spec_l6Two_rs) (funext (spec_l6Two_run N))
  rw [e]
  exact fun_ok (c := spec_l6Two_code) progOk (spec_l6Two_gok N) (draw_ok progOk (spec_l6Two_gok N)) Tryz.call19 Tryz.func19 (by kernel_rfl) (lsOk_at (L := []) trivial) (by kernel_rfl) (by kernel_rfl) (by kernel_rfl) (by kernel_rfl) (by kernel_rfl)

/-! ### spec_l6Apart -/
abbrev spec_l6Apart_ps : List (PV.Mode × Ty) := [(.ro, LI), (.ro, LI)]
abbrev spec_l6Apart_rs : List (Bool × Ty) := [(true, I)]
noncomputable def spec_l6Apart_G (N : Nat) : GTab := gOf []
theorem spec_l6Apart_gok (N : Nat) : GOk Tryz.prog (spec_l6Apart_G N) := gOf_ok trivial
noncomputable def spec_l6Apart_code : Code := (Tryz.f63.body).getD .skip
noncomputable def spec_l6Apart_l0_sh : Sh := ⟨[(0, .one (.ro LI)), (1, .one (.ro LI)), (5, .one (.ro I)), (6, .one (.ro I))], []⟩
noncomputable def spec_l6Apart_l0_ex : List (Ex × Sh) := [(.exit 0, ⟨[(5, .one (.ro I))], []⟩)]
noncomputable def spec_l6Apart_l0 {R : Type} (N : Nat) (k0 : Int → Option R) : Nat → (List Int) → (List Int) → Int → Int → Option R
  | 0, _, _, _, _ => none
  | K + 1, a1, b1, count, i =>
    (br (ilt i (tLen a1))
      ((chk (inb a1 i)
        (chk (inb b1 i)
        (br (ine (rdI a1 i) (rdI b1 i))
        (spec_l6Apart_l0 N k0 K a1 b1 (IntKind.i64.wrap (count + 1)) (IntKind.i64.wrap (i + 1)))
        (spec_l6Apart_l0 N k0 K a1 b1 count (IntKind.i64.wrap (i + 1)))))))
      (k0 count))
noncomputable def spec_l6Apart_l0_again {R : Type} (N : Nat) (ks : (j : Nat) → ((spec_l6Apart_l0_ex.getD j (.ret, Sh.none)).2).T → Option R) (k : Nat) (x : spec_l6Apart_l0_sh.T) : Option R :=
  spec_l6Apart_l0 N (fun y0 => ks 0 ((y0, ()), ())) k x.1.1 x.1.2.1 x.1.2.2.1 x.1.2.2.2.1
noncomputable def spec_l6Apart_l0_s (N : Nat) : LSum := ⟨spec_l6Apart_l0_sh, spec_l6Apart_l0_ex, fun x ks => spec_l6Apart_l0_again N ks N x⟩
theorem spec_l6Apart_l0_step (N : Nat) (R : Type) (k : Nat) (x : spec_l6Apart_l0_sh.T) (ks : (j : Nat) → ((spec_l6Apart_l0_ex.getD j (.ret, Sh.none)).2).T → Option R) : spec_l6Apart_l0_again N ks (k + 1) x = roundF (spec_l6Apart_G N) tab [] (loopAt spec_l6Apart_code 0) spec_l6Apart_l0_sh spec_l6Apart_l0_ex (fun y => spec_l6Apart_l0_again N ks k y) ks x := by kernel_rfl
theorem spec_l6Apart_l0_ok (N : Nat) : LoopOk Tryz.prog Tryz.f63.ntmps (spec_l6Apart_l0_s N) (loopAt spec_l6Apart_code 0) :=
  loop_ok (l := spec_l6Apart_l0_s N) progOk (spec_l6Apart_gok N) (draw_ok progOk (spec_l6Apart_gok N)) (fun R k x ks => spec_l6Apart_l0_again N ks k x) (fun _ _ _ => rfl) (fun R k x ks => spec_l6Apart_l0_step N R k x ks) (fun R x ks r h => ⟨N, h⟩) (lsOk_at (L := []) trivial) (by kernel_rfl) (by kernel_rfl)
noncomputable def spec_l6Apart (N : Nat) (a : (List Int)) (b : (List Int)) : Option ((Int × Unit) × (Unit)) :=
  spec_l6Apart_l0 N (fun count => some ((count, ()), ())) N a b 0 0
noncomputable def spec_l6Apart_S (N : Nat) : FSum := ⟨spec_l6Apart_ps, spec_l6Apart_rs, fun x => spec_l6Apart N x.1 x.2.1⟩
theorem spec_l6Apart_run (N : Nat) (x : argsT spec_l6Apart_ps) : spec_l6Apart N x.1 x.2.1 = funF (spec_l6Apart_G N) tab [spec_l6Apart_l0_s N] Tryz.f63 spec_l6Apart_ps spec_l6Apart_rs x := by kernel_rfl
theorem spec_l6Apart_pc (N : Nat) : PC Tryz.prog 63 (spec_l6Apart_S N) := by
  have e : spec_l6Apart_S N = ⟨spec_l6Apart_ps, spec_l6Apart_rs, funF (spec_l6Apart_G N) tab [spec_l6Apart_l0_s N] Tryz.f63 spec_l6Apart_ps spec_l6Apart_rs⟩ := congrArg (FSum.mk spec_l6Apart_ps spec_l6Apart_rs) (funext (spec_l6Apart_run N))
  rw [e]
  exact fun_ok (c := spec_l6Apart_code) progOk (spec_l6Apart_gok N) (draw_ok progOk (spec_l6Apart_gok N)) Tryz.call63 Tryz.func63 (by kernel_rfl) (lsOk_at (L := [spec_l6Apart_l0_s N]) ⟨spec_l6Apart_l0_ok N, trivial⟩) (by kernel_rfl) (by kernel_rfl) (by kernel_rfl) (by kernel_rfl) (by kernel_rfl)

/-! ### spec_l6Space -/
abbrev spec_l6Space_ps : List (PV.Mode × Ty) := [(.ro, LLI)]
abbrev spec_l6Space_rs : List (Bool × Ty) := [(false, QLLILQII)]
noncomputable def spec_l6Space_G (N : Nat) : GTab := gOf [(63, spec_l6Apart_S N)]
theorem spec_l6Space_gok (N : Nat) : GOk Tryz.prog (spec_l6Space_G N) := gOf_ok ⟨spec_l6Apart_pc N, trivial⟩
noncomputable def spec_l6Space_code : Code := (Tryz.f41.body).getD .skip
noncomputable def spec_l6Space_l0_0_sh : Sh := ⟨[(0, .one (.ro LLI)), (2, .one (.adr 0 0)), (3, .one (.adr 1 0)), (4, .one (.ro I)), (5, .one (.ro I))], [.box [.nilsl, .nilsl], .box [.ro LLI, .ref 2], .sl 84 QII .own]⟩
noncomputable def spec_l6Space_l0_0_ex : List (Ex × Sh) := [(.exit 2, ⟨[(0, .one (.ro LLI)), (2, .one (.adr 0 0)), (3, .one (.adr 1 0)), (4, .one (.ro I))], [.box [.nilsl, .nilsl], .box [.ro LLI, .ref 2], .sl 84 QII .own]⟩)]
noncomputable def spec_l6Space_l0_0 {R : Type} (N : Nat) (k0 : (List (List Int)) → Int → (List (List Int)) → (List (Int × Int)) → Option R) : Nat → (List (List Int)) → Int → Int → (List (List Int)) → (List (Int × Int)) → Option R
  | 0, _, _, _, _, _ => none
  | K + 1, states2, i1, j, o2, o3 =>
    (br (ilt j (tLen states2))
      ((chk (inb states2 i1)
        (chk (inb states2 j)
        ((spec_l6Apart N (rdL states2 i1) (rdL states2 j)).bind fun r =>
        (br (ieq r.1.1 1)
          ((chk (room o3 [(i1, j)])
            (spec_l6Space_l0_0 N k0 K states2 i1 (IntKind.i64.wrap (j + 1)) o2 (tApp o3 [(i1, j)]))))
          (spec_l6Space_l0_0 N k0 K states2 i1 (IntKind.i64.wrap (j + 1)) o2 o3))))))
      (k0 states2 i1 o2 o3))
noncomputable def spec_l6Space_l0_0_again {R : Type} (N : Nat) (ks : (j : Nat) → ((spec_l6Space_l0_0_ex.getD j (.ret, Sh.none)).2).T → Option R) (k : Nat) (x : spec_l6Space_l0_0_sh.T) : Option R :=
  spec_l6Space_l0_0 N (fun y0 y1 y2 y3 => ks 0 ((y0, (), (), y1, ()), (((), (), ()), (y2, (), ()), y3, ()))) k x.1.1 x.1.2.2.2.1 x.1.2.2.2.2.1 x.2.2.1.1 x.2.2.2.1
noncomputable def spec_l6Space_l0_0_s (N : Nat) : LSum := ⟨spec_l6Space_l0_0_sh, spec_l6Space_l0_0_ex, fun x ks => spec_l6Space_l0_0_again N ks N x⟩
theorem spec_l6Space_l0_0_step (N : Nat) (R : Type) (k : Nat) (x : spec_l6Space_l0_0_sh.T) (ks : (j : Nat) → ((spec_l6Space_l0_0_ex.getD j (.ret, Sh.none)).2).T → Option R) : spec_l6Space_l0_0_again N ks (k + 1) x = roundF (spec_l6Space_G N) tab [] (loopAt (loopAt spec_l6Space_code 0) 0) spec_l6Space_l0_0_sh spec_l6Space_l0_0_ex (fun y => spec_l6Space_l0_0_again N ks k y) ks x := by kernel_rfl
theorem spec_l6Space_l0_0_ok (N : Nat) : LoopOk Tryz.prog Tryz.f41.ntmps (spec_l6Space_l0_0_s N) (loopAt (loopAt spec_l6Space_code 0) 0) :=
  loop_ok (l := spec_l6Space_l0_0_s N) progOk (spec_l6Space_gok N) (draw_ok progOk (spec_l6Space_gok N)) (fun R k x ks => spec_l6Space_l0_0_again N ks k x) (fun _ _ _ => rfl) (fun R k x ks => spec_l6Space_l0_0_step N R k x ks) (fun R x ks r h => ⟨N, h⟩) (lsOk_at (L := []) trivial) (by kernel_rfl) (by kernel_rfl)
noncomputable def spec_l6Space_l0_sh : Sh := ⟨[(0, .one (.ro LLI)), (2, .one (.adr 0 0)), (3, .one (.adr 1 0)), (4, .one (.ro I))], [.box [.nilsl, .nilsl], .box [.ro LLI, .ref 2], .sl 84 QII .own]⟩
noncomputable def spec_l6Space_l0_ex : List (Ex × Sh) := [(.exit 0, ⟨[(2, .one (.adr 0 0)), (3, .one (.adr 1 0))], [.box [.nilsl, .nilsl], .box [.ro LLI, .ref 2], .sl 84 QII .own]⟩)]
noncomputable def spec_l6Space_l0 {R : Type} (N : Nat) (k0 : (List (List Int)) → (List (Int × Int)) → Option R) : Nat → (List (List Int)) → Int → (List (List Int)) → (List (Int × Int)) → Option R
  | 0, _, _, _, _ => none
  | K + 1, states1, i, o, o1 =>
    (br (ilt i (tLen states1))
      (spec_l6Space_l0_0 N (fun states2 i1 o2 o3 => spec_l6Space_l0 N k0 K states2 (IntKind.i64.wrap (i1 + 1)) o2 o3) N states1 i (IntKind.i64.wrap (i + 1)) o o1)
      (k0 o o1))
noncomputable def spec_l6Space_l0_again {R : Type} (N : Nat) (ks : (j : Nat) → ((spec_l6Space_l0_ex.getD j (.ret, Sh.none)).2).T → Option R) (k : Nat) (x : spec_l6Space_l0_sh.T) : Option R :=
  spec_l6Space_l0 N (fun y0 y1 => ks 0 (((), (), ()), (((), (), ()), (y0, (), ()), y1, ()))) k x.1.1 x.1.2.2.2.1 x.2.2.1.1 x.2.2.2.1
noncomputable def spec_l6Space_l0_s (N : Nat) : LSum := ⟨spec_l6Space_l0_sh, spec_l6Space_l0_ex, fun x ks => spec_l6Space_l0_again N ks N x⟩
theorem spec_l6Space_l0_step (N : Nat) (R : Type) (k : Nat) (x : spec_l6Space_l0_sh.T) (ks : (j : Nat) → ((spec_l6Space_l0_ex.getD j (.ret, Sh.none)).2).T → Option R) : spec_l6Space_l0_again N ks (k + 1) x = roundF (spec_l6Space_G N) tab [spec_l6Space_l0_0_s N] (loopAt spec_l6Space_code 0) spec_l6Space_l0_sh spec_l6Space_l0_ex (fun y => spec_l6Space_l0_again N ks k y) ks x := by kernel_rfl
theorem spec_l6Space_l0_ok (N : Nat) : LoopOk Tryz.prog Tryz.f41.ntmps (spec_l6Space_l0_s N) (loopAt spec_l6Space_code 0) :=
  loop_ok (l := spec_l6Space_l0_s N) progOk (spec_l6Space_gok N) (draw_ok progOk (spec_l6Space_gok N)) (fun R k x ks => spec_l6Space_l0_again N ks k x) (fun _ _ _ => rfl) (fun R k x ks => spec_l6Space_l0_step N R k x ks) (fun R x ks r h => ⟨N, h⟩) (lsOk_at (L := [spec_l6Space_l0_0_s N]) ⟨spec_l6Space_l0_0_ok N, trivial⟩) (by kernel_rfl) (by kernel_rfl)
noncomputable def spec_l6Space (N : Nat) (states : (List (List Int))) : Option ((((List (List Int)) × (List (Int × Int))) × Unit) × (Unit)) :=
  spec_l6Space_l0 N (fun o o1 => some (((o, o1), ()), ())) N states 0 states []
noncomputable def spec_l6Space_S (N : Nat) : FSum := ⟨spec_l6Space_ps, spec_l6Space_rs, fun x => spec_l6Space N x.1⟩
theorem spec_l6Space_run (N : Nat) (x : argsT spec_l6Space_ps) : spec_l6Space N x.1 = funF (spec_l6Space_G N) tab [spec_l6Space_l0_s N] Tryz.f41 spec_l6Space_ps spec_l6Space_rs x := by kernel_rfl
theorem spec_l6Space_pc (N : Nat) : PC Tryz.prog 41 (spec_l6Space_S N) := by
  have e : spec_l6Space_S N = ⟨spec_l6Space_ps, spec_l6Space_rs, funF (spec_l6Space_G N) tab [spec_l6Space_l0_s N] Tryz.f41 spec_l6Space_ps spec_l6Space_rs⟩ := congrArg (FSum.mk spec_l6Space_ps spec_l6Space_rs) (funext (spec_l6Space_run N))
  rw [e]
  exact fun_ok (c := spec_l6Space_code) progOk (spec_l6Space_gok N) (draw_ok progOk (spec_l6Space_gok N)) Tryz.call41 Tryz.func41 (by kernel_rfl) (lsOk_at (L := [spec_l6Space_l0_s N]) ⟨spec_l6Space_l0_ok N, trivial⟩) (by kernel_rfl) (by kernel_rfl) (by kernel_rfl) (by kernel_rfl) (by kernel_rfl)

/-! ### spec_l1Same -/
abbrev spec_l1Same_ps : List (PV.Mode × Ty) := [(.ro, LI), (.ro, LI)]
abbrev spec_l1Same_rs : List (Bool × Ty) := [(true, .bool)]
noncomputable def spec_l1Same_G (N : Nat) : GTab := gOf []
theorem spec_l1Same_gok (N : Nat) : GOk Tryz.prog (spec_l1Same_G N) := gOf_ok trivial
noncomputable def spec_l1Same_code : Code := (Tryz.f66.body).getD .skip
noncomputable def spec_l1Same_l0_sh : Sh := ⟨[(0, .one (.ro LI)), (1, .one (.ro LI)), (5, .one (.ro I))], []⟩
noncomputable def spec_l1Same_l0_ex : List (Ex × Sh) := [(.ret, ⟨[(4, .one (.ro .bool))], []⟩), (.exit 0, ⟨[], []⟩)]
noncomputable def spec_l1Same_l0 {R : Type} (N : Nat) (k0 : Bool → Option R) (k1 : Unit → Option R) : Nat → (List Int) → (List Int) → Int → Option R
  | 0, _, _, _ => none
  | K + 1, a1, b1, i =>
    (br (ilt i (tLen a1))
      ((chk (inb a1 i)
        (chk (inb b1 i)
        (br (ine (rdI a1 i) (rdI b1 i))
        (k0 false)
        (spec_l1Same_l0 N k0 k1 K a1 b1 (IntKind.i64.wrap (i + 1)))))))
      (k1 ()))
noncomputable def spec_l1Same_l0_again {R : Type} (N : Nat) (ks : (j : Nat) → ((spec_l1Same_l0_ex.getD j (.ret, Sh.none)).2).T → Option R) (k : Nat) (x : spec_l1Same_l0_sh.T) : Option R :=
  spec_l1Same_l0 N (fun y0 => ks 0 ((y0, ()), ())) (fun (_ : Unit) => ks 1 ((), ())) k x.1.1 x.1.2.1 x.1.2.2.1
noncomputable def spec_l1Same_l0_s (N : Nat) : LSum := ⟨spec_l1Same_l0_sh, spec_l1Same_l0_ex, fun x ks => spec_l1Same_l0_again N ks N x⟩
theorem spec_l1Same_l0_step (N : Nat) (R : Type) (k : Nat) (x : spec_l1Same_l0_sh.T) (ks : (j : Nat) → ((spec_l1Same_l0_ex.getD j (.ret, Sh.none)).2).T → Option R) : spec_l1Same_l0_again N ks (k + 1) x = roundF (spec_l1Same_G N) tab [] (loopAt spec_l1Same_code 0) spec_l1Same_l0_sh spec_l1Same_l0_ex (fun y => spec_l1Same_l0_again N ks k y) ks x := by kernel_rfl
theorem spec_l1Same_l0_ok (N : Nat) : LoopOk Tryz.prog Tryz.f66.ntmps (spec_l1Same_l0_s N) (loopAt spec_l1Same_code 0) :=
  loop_ok (l := spec_l1Same_l0_s N) progOk (spec_l1Same_gok N) (draw_ok progOk (spec_l1Same_gok N)) (fun R k x ks => spec_l1Same_l0_again N ks k x) (fun _ _ _ => rfl) (fun R k x ks => spec_l1Same_l0_step N R k x ks) (fun R x ks r h => ⟨N, h⟩) (lsOk_at (L := []) trivial) (by kernel_rfl) (by kernel_rfl)
noncomputable def spec_l1Same (N : Nat) (a : (List Int)) (b : (List Int)) : Option ((Bool × Unit) × (Unit)) :=
  (br (ine (tLen a) (tLen b))
    (some ((false, ()), ()))
    (spec_l1Same_l0 N (fun x => some ((x, ()), ())) (fun (_ : Unit) => some ((true, ()), ())) N a b 0))
noncomputable def spec_l1Same_S (N : Nat) : FSum := ⟨spec_l1Same_ps, spec_l1Same_rs, fun x => spec_l1Same N x.1 x.2.1⟩
theorem spec_l1Same_run (N : Nat) (x : argsT spec_l1Same_ps) : spec_l1Same N x.1 x.2.1 = funF (spec_l1Same_G N) tab [spec_l1Same_l0_s N] Tryz.f66 spec_l1Same_ps spec_l1Same_rs x := by kernel_rfl
theorem spec_l1Same_pc (N : Nat) : PC Tryz.prog 66 (spec_l1Same_S N) := by
  have e : spec_l1Same_S N = ⟨spec_l1Same_ps, spec_l1Same_rs, funF (spec_l1Same_G N) tab [spec_l1Same_l0_s N] Tryz.f66 spec_l1Same_ps spec_l1Same_rs⟩ := congrArg (FSum.mk spec_l1Same_ps spec_l1Same_rs) (funext (spec_l1Same_run N))
  rw [e]
  exact fun_ok (c := spec_l1Same_code) progOk (spec_l1Same_gok N) (draw_ok progOk (spec_l1Same_gok N)) Tryz.call66 Tryz.func66 (by kernel_rfl) (lsOk_at (L := [spec_l1Same_l0_s N]) ⟨spec_l1Same_l0_ok N, trivial⟩) (by kernel_rfl) (by kernel_rfl) (by kernel_rfl) (by kernel_rfl) (by kernel_rfl)

/-! ### spec_l2Index -/
abbrev spec_l2Index_ps : List (PV.Mode × Ty) := [(.ro, QLLILQII), (.ro, LI)]
abbrev spec_l2Index_rs : List (Bool × Ty) := [(true, I)]
noncomputable def spec_l2Index_G (N : Nat) : GTab := gOf [(66, spec_l1Same_S N)]
theorem spec_l2Index_gok (N : Nat) : GOk Tryz.prog (spec_l2Index_G N) := gOf_ok ⟨spec_l1Same_pc N, trivial⟩
noncomputable def spec_l2Index_code : Code := (Tryz.f44.body).getD .skip
noncomputable def spec_l2Index_l0_sh : Sh := ⟨[(1, .one (.ro LI)), (2, .one (.adr 0 0)), (5, .one (.ro I))], [.box [.ro LLI, .ro LQII]]⟩
noncomputable def spec_l2Index_l0_ex : List (Ex × Sh) := [(.ret, ⟨[(4, .one (.ro I))], []⟩), (.exit 0, ⟨[], []⟩)]
noncomputable def spec_l2Index_l0 {R : Type} (N : Nat) (k0 : Int → Option R) (k1 : Unit → Option R) : Nat → (List Int) → Int → (List (List Int)) → (List (Int × Int)) → Option R
  | 0, _, _, _, _ => none
  | K + 1, state1, i, o, o1 =>
    (br (ilt i (tLen o))
      ((chk (inb o i)
        ((spec_l1Same N (rdL o i) state1).bind fun r =>
        (br r.1.1
          (k0 i)
          (spec_l2Index_l0 N k0 k1 K state1 (IntKind.i64.wrap (i + 1)) o o1)))))
      (k1 ()))
noncomputable def spec_l2Index_l0_again {R : Type} (N : Nat) (ks : (j : Nat) → ((spec_l2Index_l0_ex.getD j (.ret, Sh.none)).2).T → Option R) (k : Nat) (x : spec_l2Index_l0_sh.T) : Option R :=
  spec_l2Index_l0 N (fun y0 => ks 0 ((y0, ()), ())) (fun (_ : Unit) => ks 1 ((), ())) k x.1.1 x.1.2.2.1 x.2.1.1 x.2.1.2.1
noncomputable def spec_l2Index_l0_s (N : Nat) : LSum := ⟨spec_l2Index_l0_sh, spec_l2Index_l0_ex, fun x ks => spec_l2Index_l0_again N ks N x⟩
theorem spec_l2Index_l0_step (N : Nat) (R : Type) (k : Nat) (x : spec_l2Index_l0_sh.T) (ks : (j : Nat) → ((spec_l2Index_l0_ex.getD j (.ret, Sh.none)).2).T → Option R) : spec_l2Index_l0_again N ks (k + 1) x = roundF (spec_l2Index_G N) tab [] (loopAt spec_l2Index_code 0) spec_l2Index_l0_sh spec_l2Index_l0_ex (fun y => spec_l2Index_l0_again N ks k y) ks x := by kernel_rfl
theorem spec_l2Index_l0_ok (N : Nat) : LoopOk Tryz.prog Tryz.f44.ntmps (spec_l2Index_l0_s N) (loopAt spec_l2Index_code 0) :=
  loop_ok (l := spec_l2Index_l0_s N) progOk (spec_l2Index_gok N) (draw_ok progOk (spec_l2Index_gok N)) (fun R k x ks => spec_l2Index_l0_again N ks k x) (fun _ _ _ => rfl) (fun R k x ks => spec_l2Index_l0_step N R k x ks) (fun R x ks r h => ⟨N, h⟩) (lsOk_at (L := []) trivial) (by kernel_rfl) (by kernel_rfl)
noncomputable def spec_l2Index (N : Nat) (x : ((List (List Int)) × (List (Int × Int)))) (state : (List Int)) : Option ((Int × Unit) × (Unit)) :=
  spec_l2Index_l0 N (fun x1 => some ((x1, ()), ())) (fun (_ : Unit) => some (((-1), ()), ())) N state 0 x.1 x.2
noncomputable def spec_l2Index_S (N : Nat) : FSum := ⟨spec_l2Index_ps, spec_l2Index_rs, fun x => spec_l2Index N x.1 x.2.1⟩
theorem spec_l2Index_run (N : Nat) (x : argsT spec_l2Index_ps) : spec_l2Index N x.1 x.2.1 = funF (spec_l2Index_G N) tab [spec_l2Index_l0_s N] Tryz.f44 spec_l2Index_ps spec_l2Index_rs x := by kernel_rfl
theorem spec_l2Index_pc (N : Nat) : PC Tryz.prog 44 (spec_l2Index_S N) := by
  have e : spec_l2Index_S N = ⟨spec_l2Index_ps, spec_l2Index_rs, funF (spec_l2Index_G N) tab [spec_l2Index_l0_s N] Tryz.f44 spec_l2Index_ps spec_l2Index_rs⟩ := congrArg (FSum.mk spec_l2Index_ps spec_l2Index_rs) (funext (spec_l2Index_run N))
  rw [e]
  exact fun_ok (c := spec_l2Index_code) progOk (spec_l2Index_gok N) (draw_ok progOk (spec_l2Index_gok N)) Tryz.call44 Tryz.func44 (by kernel_rfl) (lsOk_at (L := [spec_l2Index_l0_s N]) ⟨spec_l2Index_l0_ok N, trivial⟩) (by kernel_rfl) (by kernel_rfl) (by kernel_rfl) (by kernel_rfl) (by kernel_rfl)

/-! ### spec_l2Lists -/
abbrev spec_l2Lists_ps : List (PV.Mode × Ty) := [(.ro, QLLILQII)]
abbrev spec_l2Lists_rs : List (Bool × Ty) := [(true, LLI)]
noncomputable def spec_l2Lists_G (N : Nat) : GTab := gOf []
theorem spec_l2Lists_gok (N : Nat) : GOk Tryz.prog (spec_l2Lists_G N) := gOf_ok trivial
noncomputable def spec_l2Lists_code : Code := (Tryz.f64.body).getD .skip
noncomputable def spec_l2Lists_l0_sh : Sh := ⟨[(1, .one (.adr 0 0)), (3, .one (.ref 1)), (4, .one (.ro I))], [.box [.ro LLI, .ro LQII], .sl 27 LI .deep]⟩
noncomputable def spec_l2Lists_l0_ex : List (Ex × Sh) := [(.exit 0, ⟨[(1, .one (.adr 0 0)), (3, .one (.ref 1))], [.box [.ro LLI, .ro LQII], .sl 27 LI .deep]⟩)]
noncomputable def spec_l2Lists_l0 {R : Type} (N : Nat) (k0 : (List (List Int)) → (List (Int × Int)) → (List (List Int)) → Option R) : Nat → Int → (List (List Int)) → (List (Int × Int)) → (List (List Int)) → Option R
  | 0, _, _, _, _ => none
  | K + 1, x, o, o1, o2 =>
    (br (ilt x (tLen o1))
      ((chk (inb o1 x)
        (chk (inb o1 x)
        (chk (inb o2 ((rdP o1 x).2))
        (chk (room (rdL o2 ((rdP o1 x).2)) [(rdP o1 x).1])
        (chk (inb o2 ((rdP o1 x).2))
        (chk (ieq ((rdP o1 x).2) ((rdP o1 x).2))
        (spec_l2Lists_l0 N k0 K (IntKind.i64.wrap (x + 1)) o o1 (tSet o2 ((rdP o1 x).2) (tApp (rdL o2 ((rdP o1 x).2)) [(rdP o1 x).1]))))))))))
      (k0 o o1 o2))
noncomputable def spec_l2Lists_l0_again {R : Type} (N : Nat) (ks : (j : Nat) → ((spec_l2Lists_l0_ex.getD j (.ret, Sh.none)).2).T → Option R) (k : Nat) (x : spec_l2Lists_l0_sh.T) : Option R :=
  spec_l2Lists_l0 N (fun y0 y1 y2 => ks 0 (((), (), ()), ((y0, y1, ()), y2, ()))) k x.1.2.2.1 x.2.1.1 x.2.1.2.1 x.2.2.1
noncomputable def spec_l2Lists_l0_s (N : Nat) : LSum := ⟨spec_l2Lists_l0_sh, spec_l2Lists_l0_ex, fun x ks => spec_l2Lists_l0_again N ks N x⟩
theorem spec_l2Lists_l0_step (N : Nat) (R : Type) (k : Nat) (x : spec_l2Lists_l0_sh.T) (ks : (j : Nat) → ((spec_l2Lists_l0_ex.getD j (.ret, Sh.none)).2).T → Option R) : spec_l2Lists_l0_again N ks (k + 1) x = roundF (spec_l2Lists_G N) tab [] (loopAt spec_l2Lists_code 0) spec_l2Lists_l0_sh spec_l2Lists_l0_ex (fun y => spec_l2Lists_l0_again N ks k y) ks x := by kernel_rfl
theorem spec_l2Lists_l0_ok (N : Nat) : LoopOk Tryz.prog Tryz.f64.ntmps (spec_l2Lists_l0_s N) (loopAt spec_l2Lists_code 0) :=
  loop_ok (l := spec_l2Lists_l0_s N) progOk (spec_l2Lists_gok N) (draw_ok progOk (spec_l2Lists_gok N)) (fun R k x ks => spec_l2Lists_l0_again N ks k x) (fun _ _ _ => rfl) (fun R k x ks => spec_l2Lists_l0_step N R k x ks) (fun R x ks r h => ⟨N, h⟩) (lsOk_at (L := []) trivial) (by kernel_rfl) (by kernel_rfl)
noncomputable def spec_l2Lists_l1_sh : Sh := ⟨[(1, .one (.adr 0 0)), (3, .one (.ref 1)), (7, .one (.ro I))], [.box [.ro LLI, .ro LQII], .sl 27 LI .deep]⟩
noncomputable def spec_l2Lists_l1_ex : List (Ex × Sh) := [(.exit 2, ⟨[(3, .one (.ref 0))], [.sl 27 LI .deep]⟩)]
noncomputable def spec_l2Lists_l1 {R : Type} (N : Nat) (k0 : (List (List Int)) → Option R) : Nat → Int → (List (List Int)) → (List (Int × Int)) → (List (List Int)) → Option R
  | 0, _, _, _, _ => none
  | K + 1, x, o3, o4, o5 =>
    (br (ilt x (tLen o4))
      ((chk (inb o4 x)
        (chk (inb o4 x)
        (chk (inb o5 ((rdP o4 x).1))
        (chk (room (rdL o5 ((rdP o4 x).1)) [(rdP o4 x).2])
        (chk (inb o5 ((rdP o4 x).1))
        (chk (ieq ((rdP o4 x).1) ((rdP o4 x).1))
        (spec_l2Lists_l1 N k0 K (IntKind.i64.wrap (x + 1)) o3 o4 (tSet o5 ((rdP o4 x).1) (tApp (rdL o5 ((rdP o4 x).1)) [(rdP o4 x).2]))))))))))
      (k0 o5))
noncomputable def spec_l2Lists_l1_again {R : Type} (N : Nat) (ks : (j : Nat) → ((spec_l2Lists_l1_ex.getD j (.ret, Sh.none)).2).T → Option R) (k : Nat) (x : spec_l2Lists_l1_sh.T) : Option R :=
  spec_l2Lists_l1 N (fun y0 => ks 0 (((), ()), (y0, ()))) k x.1.2.2.1 x.2.1.1 x.2.1.2.1 x.2.2.1
noncomputable def spec_l2Lists_l1_s (N : Nat) : LSum := ⟨spec_l2Lists_l1_sh, spec_l2Lists_l1_ex, fun x ks => spec_l2Lists_l1_again N ks N x⟩
theorem spec_l2Lists_l1_step (N : Nat) (R : Type) (k : Nat) (x : spec_l2Lists_l1_sh.T) (ks : (j : Nat) → ((spec_l2Lists_l1_ex.getD j (.ret, Sh.none)).2).T → Option R) : spec_l2Lists_l1_again N ks (k + 1) x = roundF (spec_l2Lists_G N) tab [] (loopAt spec_l2Lists_code 1) spec_l2Lists_l1_sh spec_l2Lists_l1_ex (fun y => spec_l2Lists_l1_again N ks k y) ks x := by kernel_rfl
theorem spec_l2Lists_l1_ok (N : Nat) : LoopOk Tryz.prog Tryz.f64.ntmps (spec_l2Lists_l1_s N) (loopAt spec_l2Lists_code 1) :=
  loop_ok (l := spec_l2Lists_l1_s N) progOk (spec_l2Lists_gok N) (draw_ok progOk (spec_l2Lists_gok N)) (fun R k x ks => spec_l2Lists_l1_again N ks k x) (fun _ _ _ => rfl) (fun R k x ks => spec_l2Lists_l1_step N R k x ks) (fun R x ks r h => ⟨N, h⟩) (lsOk_at (L := []) trivial) (by kernel_rfl) (by kernel_rfl)
noncomputable def spec_l2Lists (N : Nat) (c : ((List (List Int)) × (List (Int × Int)))) : Option (((List (List Int)) × Unit) × (Unit)) :=
  (chk (ile 0 (tLen c.1) && ile (tLen c.1) (tLen c.1) && fits (tLen c.1))
    (spec_l2Lists_l0 N (fun o o1 o2 => spec_l2Lists_l1 N (fun o3 => some ((o3, ()), ())) N 0 o o1 o2) N 0 c.1 c.2 (tRep (tLen c.1) [])))
noncomputable def spec_l2Lists_S (N : Nat) : FSum := ⟨spec_l2Lists_ps, spec_l2Lists_rs, fun x => spec_l2Lists N x.1⟩
theorem spec_l2Lists_run (N : Nat) (x : argsT spec_l2Lists_ps) : spec_l2Lists N x.1 = funF (spec_l2Lists_G N) tab [spec_l2Lists_l0_s N, spec_l2Lists_l1_s N] Tryz.f64 spec_l2Lists_ps spec_l2Lists_rs x := by kernel_rfl
theorem spec_l2Lists_pc (N : Nat) : PC Tryz.prog 64 (spec_l2Lists_S N) := by
  have e : spec_l2Lists_S N = ⟨spec_l2Lists_ps, spec_l2Lists_rs, funF (spec_l2Lists_G N) tab [spec_l2Lists_l0_s N, spec_l2Lists_l1_s N] Tryz.f64 spec_l2Lists_ps spec_l2Lists_rs⟩ := congrArg (FSum.mk spec_l2Lists_ps spec_l2Lists_rs) (funext (spec_l2Lists_run N))
  rw [e]
  exact fun_ok (c := spec_l2Lists_code) progOk (spec_l2Lists_gok N) (draw_ok progOk (spec_l2Lists_gok N)) Tryz.call64 Tryz.func64 (by kernel_rfl) (lsOk_at (L := [spec_l2Lists_l0_s N, spec_l2Lists_l1_s N]) ⟨spec_l2Lists_l0_ok N, spec_l2Lists_l1_ok N, trivial⟩) (by kernel_rfl) (by kernel_rfl) (by kernel_rfl) (by kernel_rfl) (by kernel_rfl)

/-! ### spec_l2Spread -/
abbrev spec_l2Spread_ps : List (PV.Mode × Ty) := [(.ro, LLI), (.ro, I)]
abbrev spec_l2Spread_rs : List (Bool × Ty) := [(true, LI)]
noncomputable def spec_l2Spread_G (N : Nat) : GTab := gOf []
theorem spec_l2Spread_gok (N : Nat) : GOk Tryz.prog (spec_l2Spread_G N) := gOf_ok trivial
noncomputable def spec_l2Spread_code : Code := (Tryz.f65.body).getD .skip
noncomputable def spec_l2Spread_l0_sh : Sh := ⟨[(0, .one (.ro LLI)), (1, .one (.ro I)), (5, .one (.ref 0)), (6, .one (.ro I))], [.sl 3 I .own]⟩
noncomputable def spec_l2Spread_l0_ex : List (Ex × Sh) := [(.exit 0, ⟨[(0, .one (.ro LLI)), (1, .one (.ro I)), (5, .one (.ref 0))], [.sl 3 I .own]⟩)]
noncomputable def spec_l2Spread_l0 {R : Type} (N : Nat) (k0 : (List (List Int)) → Int → (List Int) → Option R) : Nat → (List (List Int)) → Int → Int → (List Int) → Option R
  | 0, _, _, _, _ => none
  | K + 1, x, x1, x2, o =>
    (br (ilt x2 (tLen o))
      ((chk (inb o x2)
        (spec_l2Spread_l0 N k0 K x x1 (IntKind.i64.wrap (x2 + 1)) (tSet o x2 (-1)))))
      (k0 x x1 o))
noncomputable def spec_l2Spread_l0_again {R : Type} (N : Nat) (ks : (j : Nat) → ((spec_l2Spread_l0_ex.getD j (.ret, Sh.none)).2).T → Option R) (k : Nat) (x : spec_l2Spread_l0_sh.T) : Option R :=
  spec_l2Spread_l0 N (fun y0 y1 y2 => ks 0 ((y0, y1, (), ()), (y2, ()))) k x.1.1 x.1.2.1 x.1.2.2.2.1 x.2.1
noncomputable def spec_l2Spread_l0_s (N : Nat) : LSum := ⟨spec_l2Spread_l0_sh, spec_l2Spread_l0_ex, fun x ks => spec_l2Spread_l0_again N ks N x⟩
theorem spec_l2Spread_l0_step (N : Nat) (R : Type) (k : Nat) (x : spec_l2Spread_l0_sh.T) (ks : (j : Nat) → ((spec_l2Spread_l0_ex.getD j (.ret, Sh.none)).2).T → Option R) : spec_l2Spread_l0_again N ks (k + 1) x = roundF (spec_l2Spread_G N) tab [] (loopAt spec_l2Spread_code 0) spec_l2Spread_l0_sh spec_l2Spread_l0_ex (fun y => spec_l2Spread_l0_again N ks k y) ks x := by kernel_rfl
theorem spec_l2Spread_l0_ok (N : Nat) : LoopOk Tryz.prog Tryz.f65.ntmps (spec_l2Spread_l0_s N) (loopAt spec_l2Spread_code 0) :=
  loop_ok (l := spec_l2Spread_l0_s N) progOk (spec_l2Spread_gok N) (draw_ok progOk (spec_l2Spread_gok N)) (fun R k x ks => spec_l2Spread_l0_again N ks k x) (fun _ _ _ => rfl) (fun R k x ks => spec_l2Spread_l0_step N R k x ks) (fun R x ks r h => ⟨N, h⟩) (lsOk_at (L := []) trivial) (by kernel_rfl) (by kernel_rfl)
noncomputable def spec_l2Spread_l1_0_sh : Sh := ⟨[(0, .one (.ro LLI)), (5, .one (.ref 0)), (7, .one (.ref 1)), (8, .one (.ro I)), (9, .one (.ro LI)), (10, .one (.ro I))], [.sl 3 I .own, .sl 3 I .own]⟩
noncomputable def spec_l2Spread_l1_0_ex : List (Ex × Sh) := [(.exit 4, ⟨[(0, .one (.ro LLI)), (5, .one (.ref 0)), (7, .one (.ref 1)), (8, .one (.ro I))], [.sl 3 I .own, .sl 3 I .own]⟩)]
noncomputable def spec_l2Spread_l1_0 {R : Type} (N : Nat) (k0 : (List (List Int)) → Int → (List Int) → (List Int) → Option R) : Nat → (List (List Int)) → Int → (List Int) → Int → (List Int) → (List Int) → Option R
  | 0, _, _, _, _, _, _ => none
  | K + 1, x4, x5, x6, x7, o3, o4 =>
    (br (ilt x7 (tLen x6))
      ((chk (inb x6 x7)
        (chk (inb o3 (rdI x6 x7))
        (br (ilt (rdI o3 (rdI x6 x7)) 0)
        ((chk (inb x6 x7)
          (chk (inb o4 x5)
          (chk (inb o3 (rdI o4 x5))
          (chk (inb o3 (rdI x6 x7))
          (chk (inb x6 x7)
          (chk (room o4 [(rdI x6 x7)])
          (spec_l2Spread_l1_0 N k0 K x4 x5 x6 (IntKind.i64.wrap (x7 + 1)) (tSet o3 (rdI x6 x7) (IntKind.i64.wrap ((rdI o3 (rdI o4 x5)) + 1))) (tApp o4 [(rdI x6 x7)])))))))))
        (spec_l2Spread_l1_0 N k0 K x4 x5 x6 (IntKind.i64.wrap (x7 + 1)) o3 o4)))))
      (k0 x4 x5 o3 o4))
noncomputable def spec_l2Spread_l1_0_again {R : Type} (N : Nat) (ks : (j : Nat) → ((spec_l2Spread_l1_0_ex.getD j (.ret, Sh.none)).2).T → Option R) (k : Nat) (x : spec_l2Spread_l1_0_sh.T) : Option R :=
  spec_l2Spread_l1_0 N (fun y0 y1 y2 y3 => ks 0 ((y0, (), (), y1, ()), (y2, y3, ()))) k x.1.1 x.1.2.2.2.1 x.1.2.2.2.2.1 x.1.2.2.2.2.2.1 x.2.1 x.2.2.1
noncomputable def spec_l2Spread_l1_0_s (N : Nat) : LSum := ⟨spec_l2Spread_l1_0_sh, spec_l2Spread_l1_0_ex, fun x ks => spec_l2Spread_l1_0_again N ks N x⟩
theorem spec_l2Spread_l1_0_step (N : Nat) (R : Type) (k : Nat) (x : spec_l2Spread_l1_0_sh.T) (ks : (j : Nat) → ((spec_l2Spread_l1_0_ex.getD j (.ret, Sh.none)).2).T → Option R) : spec_l2Spread_l1_0_again N ks (k + 1) x = roundF (spec_l2Spread_G N) tab [] (loopAt (loopAt spec_l2Spread_code 1) 0) spec_l2Spread_l1_0_sh spec_l2Spread_l1_0_ex (fun y => spec_l2Spread_l1_0_again N ks k y) ks x := by kernel_rfl
theorem spec_l2Spread_l1_0_ok (N : Nat) : LoopOk Tryz.prog Tryz.f65.ntmps (spec_l2Spread_l1_0_s N) (loopAt (loopAt spec_l2Spread_code 1) 0) :=
  loop_ok (l := spec_l2Spread_l1_0_s N) progOk (spec_l2Spread_gok N) (draw_ok progOk (spec_l2Spread_gok N)) (fun R k x ks => spec_l2Spread_l1_0_again N ks k x) (fun _ _ _ => rfl) (fun R k x ks => spec_l2Spread_l1_0_step N R k x ks) (fun R x ks r h => ⟨N, h⟩) (lsOk_at (L := []) trivial) (by kernel_rfl) (by kernel_rfl)
noncomputable def spec_l2Spread_l1_sh : Sh := ⟨[(0, .one (.ro LLI)), (5, .one (.ref 0)), (7, .one (.ref 1)), (8, .one (.ro I))], [.sl 3 I .own, .sl 3 I .own]⟩
noncomputable def spec_l2Spread_l1_ex : List (Ex × Sh) := [(.exit 2, ⟨[(5, .one (.ref 0))], [.sl 3 I .own]⟩)]
noncomputable def spec_l2Spread_l1 {R : Type} (N : Nat) (k0 : (List Int) → Option R) : Nat → (List (List Int)) → Int → (List Int) → (List Int) → Option R
  | 0, _, _, _, _ => none
  | K + 1, x2, x3, o1, o2 =>
    (br (ilt x3 (tLen o2))
      ((chk (inb o2 x3)
        (chk (inb x2 (rdI o2 x3))
        (spec_l2Spread_l1_0 N (fun x4 x5 o3 o4 => spec_l2Spread_l1 N k0 K x4 (IntKind.i64.wrap (x5 + 1)) o3 o4) N x2 x3 (rdL x2 (rdI o2 x3)) 0 o1 o2))))
      (k0 o1))
noncomputable def spec_l2Spread_l1_again {R : Type} (N : Nat) (ks : (j : Nat) → ((spec_l2Spread_l1_ex.getD j (.ret, Sh.none)).2).T → Option R) (k : Nat) (x : spec_l2Spread_l1_sh.T) : Option R :=
  spec_l2Spread_l1 N (fun y0 => ks 0 (((), ()), (y0, ()))) k x.1.1 x.1.2.2.2.1 x.2.1 x.2.2.1
noncomputable def spec_l2Spread_l1_s (N : Nat) : LSum := ⟨spec_l2Spread_l1_sh, spec_l2Spread_l1_ex, fun x ks => spec_l2Spread_l1_again N ks N x⟩
theorem spec_l2Spread_l1_step (N : Nat) (R : Type) (k : Nat) (x : spec_l2Spread_l1_sh.T) (ks : (j : Nat) → ((spec_l2Spread_l1_ex.getD j (.ret, Sh.none)).2).T → Option R) : spec_l2Spread_l1_again N ks (k + 1) x = roundF (spec_l2Spread_G N) tab [spec_l2Spread_l1_0_s N] (loopAt spec_l2Spread_code 1) spec_l2Spread_l1_sh spec_l2Spread_l1_ex (fun y => spec_l2Spread_l1_again N ks k y) ks x := by kernel_rfl
theorem spec_l2Spread_l1_ok (N : Nat) : LoopOk Tryz.prog Tryz.f65.ntmps (spec_l2Spread_l1_s N) (loopAt spec_l2Spread_code 1) :=
  loop_ok (l := spec_l2Spread_l1_s N) progOk (spec_l2Spread_gok N) (draw_ok progOk (spec_l2Spread_gok N)) (fun R k x ks => spec_l2Spread_l1_again N ks k x) (fun _ _ _ => rfl) (fun R k x ks => spec_l2Spread_l1_step N R k x ks) (fun R x ks r h => ⟨N, h⟩) (lsOk_at (L := [spec_l2Spread_l1_0_s N]) ⟨spec_l2Spread_l1_0_ok N, trivial⟩) (by kernel_rfl) (by kernel_rfl)
noncomputable def spec_l2Spread (N : Nat) (c : (List (List Int))) (c1 : Int) : Option (((List Int) × Unit) × (Unit)) :=
  (chk (ile 0 (tLen c) && ile (tLen c) (tLen c) && fits (tLen c))
    (spec_l2Spread_l0 N (fun x x1 o => (chk (inb o x1)
    (spec_l2Spread_l1 N (fun o1 => some ((o1, ()), ())) N x 0 (tSet o x1 0) [x1]))) N c c1 0 (tRep (tLen c) (0 : Int))))
noncomputable def spec_l2Spread_S (N : Nat) : FSum := ⟨spec_l2Spread_ps, spec_l2Spread_rs, fun x => spec_l2Spread N x.1 x.2.1⟩
theorem spec_l2Spread_run (N : Nat) (x : argsT spec_l2Spread_ps) : spec_l2Spread N x.1 x.2.1 = funF (spec_l2Spread_G N) tab [spec_l2Spread_l0_s N, spec_l2Spread_l1_s N] Tryz.f65 spec_l2Spread_ps spec_l2Spread_rs x := by kernel_rfl
theorem spec_l2Spread_pc (N : Nat) : PC Tryz.prog 65 (spec_l2Spread_S N) := by
  have e : spec_l2Spread_S N = ⟨spec_l2Spread_ps, spec_l2Spread_rs, funF (spec_l2Spread_G N) tab [spec_l2Spread_l0_s N, spec_l2Spread_l1_s N] Tryz.f65 spec_l2Spread_ps spec_l2Spread_rs⟩ := congrArg (FSum.mk spec_l2Spread_ps spec_l2Spread_rs) (funext (spec_l2Spread_run N))
  rw [e]
  exact fun_ok (c := spec_l2Spread_code) progOk (spec_l2Spread_gok N) (draw_ok progOk (spec_l2Spread_gok N)) Tryz.call65 Tryz.func65 (by kernel_rfl) (lsOk_at (L := [spec_l2Spread_l0_s N, spec_l2Spread_l1_s N]) ⟨spec_l2Spread_l0_ok N, spec_l2Spread_l1_ok N, trivial⟩) (by kernel_rfl) (by kernel_rfl) (by kernel_rfl) (by kernel_rfl) (by kernel_rfl)

/-! ### spec_l2Walk -/
abbrev spec_l2Walk_ps : List (PV.Mode × Ty) := [(.ro, QLLILQII), (.ro, I), (.ro, I)]
abbrev spec_l2Walk_rs : List (Bool × Ty) := [(true, LI)]
noncomputable def spec_l2Walk_G (N : Nat) : GTab := gOf [(64, spec_l2Lists_S N), (65, spec_l2Spread_S N)]
theorem spec_l2Walk_gok (N : Nat) : GOk Tryz.prog (spec_l2Walk_G N) := gOf_ok ⟨spec_l2Lists_pc N, spec_l2Spread_pc N, trivial⟩
noncomputable def spec_l2Walk_code : Code := (Tryz.f43.body).getD .skip
noncomputable def spec_l2Walk_l0_0_sh : Sh := ⟨[(1, .one (.ro I)), (2, .one (.ro I)), (7, .one (.ref 0)), (8, .one (.ref 1)), (9, .one (.ref 2)), (10, .one (.ro I))], [.sl 27 LI .deep, .sl 3 I .own, .sl 3 I .own]⟩
noncomputable def spec_l2Walk_l0_0_ex : List (Ex × Sh) := [(.exit 2, ⟨[(1, .one (.ro I)), (2, .one (.ro I)), (7, .one (.ref 0)), (8, .one (.ref 1)), (9, .one (.ref 2)), (10, .one (.ro I))], [.sl 27 LI .deep, .sl 3 I .own, .sl 3 I .own]⟩)]
noncomputable def spec_l2Walk_l0_0 {R : Type} (N : Nat) (k0 : Int → Int → Int → (List (List Int)) → (List Int) → (List Int) → Option R) : Nat → Int → Int → Int → (List (List Int)) → (List Int) → (List Int) → Option R
  | 0, _, _, _, _, _, _ => none
  | K + 1, i2, j2, kv, o3, o4, o5 =>
    (chk (inb o3 i2)
      (chk (inb (rdL o3 i2) kv)
      (chk (inb o4 (rdI (rdL o3 i2) kv))
      (chk (inb o4 i2)
      (br (ine (rdI o4 (rdI (rdL o3 i2) kv)) (IntKind.i64.wrap ((rdI o4 i2) - 1)))
      (spec_l2Walk_l0_0 N k0 K i2 j2 (IntKind.i64.wrap (kv + 1)) o3 o4 o5)
      (k0 i2 j2 kv o3 o4 o5))))))
noncomputable def spec_l2Walk_l0_0_again {R : Type} (N : Nat) (ks : (j : Nat) → ((spec_l2Walk_l0_0_ex.getD j (.ret, Sh.none)).2).T → Option R) (k : Nat) (x : spec_l2Walk_l0_0_sh.T) : Option R :=
  spec_l2Walk_l0_0 N (fun y0 y1 y2 y3 y4 y5 => ks 0 ((y0, y1, (), (), (), y2, ()), (y3, y4, y5, ()))) k x.1.1 x.1.2.1 x.1.2.2.2.2.2.1 x.2.1 x.2.2.1 x.2.2.2.1
noncomputable def spec_l2Walk_l0_0_s (N : Nat) : LSum := ⟨spec_l2Walk_l0_0_sh, spec_l2Walk_l0_0_ex, fun x ks => spec_l2Walk_l0_0_again N ks N x⟩
theorem spec_l2Walk_l0_0_step (N : Nat) (R : Type) (k : Nat) (x : spec_l2Walk_l0_0_sh.T) (ks : (j : Nat) → ((spec_l2Walk_l0_0_ex.getD j (.ret, Sh.none)).2).T → Option R) : spec_l2Walk_l0_0_again N ks (k + 1) x = roundF (spec_l2Walk_G N) tab [] (loopAt (loopAt spec_l2Walk_code 0) 0) spec_l2Walk_l0_0_sh spec_l2Walk_l0_0_ex (fun y => spec_l2Walk_l0_0_again N ks k y) ks x := by kernel_rfl
theorem spec_l2Walk_l0_0_ok (N : Nat) : LoopOk Tryz.prog Tryz.f43.ntmps (spec_l2Walk_l0_0_s N) (loopAt (loopAt spec_l2Walk_code 0) 0) :=
  loop_ok (l := spec_l2Walk_l0_0_s N) progOk (spec_l2Walk_gok N) (draw_ok progOk (spec_l2Walk_gok N)) (fun R k x ks => spec_l2Walk_l0_0_again N ks k x) (fun _ _ _ => rfl) (fun R k x ks => spec_l2Walk_l0_0_step N R k x ks) (fun R x ks r h => ⟨N, h⟩) (lsOk_at (L := []) trivial) (by kernel_rfl) (by kernel_rfl)
noncomputable def spec_l2Walk_l0_sh : Sh := ⟨[(1, .one (.ro I)), (2, .one (.ro I)), (7, .one (.ref 0)), (8, .one (.ref 1)), (9, .one (.ref 2))], [.sl 27 LI .deep, .sl 3 I .own, .sl 3 I .own]⟩
noncomputable def spec_l2Walk_l0_ex : List (Ex × Sh) := [(.exit 0, ⟨[(9, .one (.ref 0))], [.sl 3 I .own]⟩)]
noncomputable def spec_l2Walk_l0 {R : Type} (N : Nat) (k0 : (List Int) → Option R) : Nat → Int → Int → (List (List Int)) → (List Int) → (List Int) → Option R
  | 0, _, _, _, _, _ => none
  | K + 1, i1, j1, o, o1, o2 =>
    (br (ine i1 j1)
      (spec_l2Walk_l0_0 N (fun i2 j2 kv o3 o4 o5 => (chk (inb o3 i2)
        (chk (inb (rdL o3 i2) kv)
        (chk (room o5 [(rdI (rdL o3 i2) kv)])
        (spec_l2Walk_l0 N k0 K (rdI (rdL o3 i2) kv) j2 o3 o4 (tApp o5 [(rdI (rdL o3 i2) kv)])))))) N i1 j1 0 o o1 o2)
      (k0 o2))
noncomputable def spec_l2Walk_l0_again {R : Type} (N : Nat) (ks : (j : Nat) → ((spec_l2Walk_l0_ex.getD j (.ret, Sh.none)).2).T → Option R) (k : Nat) (x : spec_l2Walk_l0_sh.T) : Option R :=
  spec_l2Walk_l0 N (fun y0 => ks 0 (((), ()), (y0, ()))) k x.1.1 x.1.2.1 x.2.1 x.2.2.1 x.2.2.2.1
noncomputable def spec_l2Walk_l0_s (N : Nat) : LSum := ⟨spec_l2Walk_l0_sh, spec_l2Walk_l0_ex, fun x ks => spec_l2Walk_l0_again N ks N x⟩
theorem spec_l2Walk_l0_step (N : Nat) (R : Type) (k : Nat) (x : spec_l2Walk_l0_sh.T) (ks : (j : Nat) → ((spec_l2Walk_l0_ex.getD j (.ret, Sh.none)).2).T → Option R) : spec_l2Walk_l0_again N ks (k + 1) x = roundF (spec_l2Walk_G N) tab [spec_l2Walk_l0_0_s N] (loopAt spec_l2Walk_code 0) spec_l2Walk_l0_sh spec_l2Walk_l0_ex (fun y => spec_l2Walk_l0_again N ks k y) ks x := by kernel_rfl
theorem spec_l2Walk_l0_ok (N : Nat) : LoopOk Tryz.prog Tryz.f43.ntmps (spec_l2Walk_l0_s N) (loopAt spec_l2Walk_code 0) :=
  loop_ok (l := spec_l2Walk_l0_s N) progOk (spec_l2Walk_gok N) (draw_ok progOk (spec_l2Walk_gok N)) (fun R k x ks => spec_l2Walk_l0_again N ks k x) (fun _ _ _ => rfl) (fun R k x ks => spec_l2Walk_l0_step N R k x ks) (fun R x ks r h => ⟨N, h⟩) (lsOk_at (L := [spec_l2Walk_l0_0_s N]) ⟨spec_l2Walk_l0_0_ok N, trivial⟩) (by kernel_rfl) (by kernel_rfl)
noncomputable def spec_l2Walk (N : Nat) (x : ((List (List Int)) × (List (Int × Int)))) (i : Int) (j : Int) : Option (((List Int) × Unit) × (Unit)) :=
  ((spec_l2Lists N (x.1, x.2)).bind fun r =>
    ((spec_l2Spread N r.1.1 j).bind fun r1 =>
      (chk (inb r1.1.1 i)
        (br (ilt (rdI r1.1.1 i) 0)
        (some (([], ()), ()))
        (spec_l2Walk_l0 N (fun o => some ((o, ()), ())) N i j r.1.1 r1.1.1 [i])))))
noncomputable def spec_l2Walk_S (N : Nat) : FSum := ⟨spec_l2Walk_ps, spec_l2Walk_rs, fun x => spec_l2Walk N x.1 x.2.1 x.2.2.1⟩
theorem spec_l2Walk_run (N : Nat) (x : argsT spec_l2Walk_ps) : spec_l2Walk N x.1 x.2.1 x.2.2.1 = funF (spec_l2Walk_G N) tab [spec_l2Walk_l0_s N] Tryz.f43 spec_l2Walk_ps spec_l2Walk_rs x := by kernel_rfl
theorem spec_l2Walk_pc (N : Nat) : PC Tryz.prog 43 (spec_l2Walk_S N) := by
  have e : spec_l2Walk_S N = ⟨spec_l2Walk_ps, spec_l2Walk_rs, funF (spec_l2Walk_G N) tab [spec_l2Walk_l0_s N] Tryz.f43 spec_l2Walk_ps spec_l2Walk_rs⟩ := congrArg (FSum.mk spec_l2Walk_ps spec_l2Walk_rs) (funext (spec_l2Walk_run N))
  rw [e]
  exact fun_ok (c := spec_l2Walk_code) progOk (spec_l2Walk_gok N) (draw_ok progOk (spec_l2Walk_gok N)) Tryz.call43 Tryz.func43 (by kernel_rfl) (lsOk_at (L := [spec_l2Walk_l0_s N]) ⟨spec_l2Walk_l0_ok N, trivial⟩) (by kernel_rfl) (by kernel_rfl) (by kernel_rfl) (by kernel_rfl) (by kernel_rfl)

/-! ### spec_l4Named -/
abbrev spec_l4Named_ps : List (PV.Mode × Ty) := [(.ro, QLLILQII), (.ro, LI)]
abbrev spec_l4Named_rs : List (Bool × Ty) := [(true, LLI)]
noncomputable def spec_l4Named_G (N : Nat) : GTab := gOf [(36, spec_l1Own_S N)]
theorem spec_l4Named_gok (N : Nat) : GOk Tryz.prog (spec_l4Named_G N) := gOf_ok ⟨spec_l1Own_pc N, trivial⟩
noncomputable def spec_l4Named_code : Code := (Tryz.f42.body).getD .skip
noncomputable def spec_l4Named_l0_sh : Sh := ⟨[(1, .one (.ro LI)), (2, .one (.adr 0 0)), (5, .one (.ref 1)), (6, .one (.ro I))], [.box [.ro LLI, .ro LQII], .sl 27 LI .deep]⟩
noncomputable def spec_l4Named_l0_ex : List (Ex × Sh) := [(.exit 0, ⟨[(5, .one (.ref 0))], [.sl 27 LI .deep]⟩)]
noncomputable def spec_l4Named_l0 {R : Type} (N : Nat) (k0 : (List (List Int)) → Option R) : Nat → (List Int) → Int → (List (List Int)) → (List (Int × Int)) → (List (List Int)) → Option R
  | 0, _, _, _, _, _ => none
  | K + 1, walk1, i, o, o1, o2 =>
    (br (ilt i (tLen walk1))
      ((chk (inb walk1 i)
        (chk (inb o (rdI walk1 i))
        ((spec_l1Own N (rdL o (rdI walk1 i))).bind fun r =>
        (chk (room o2 [r.1.1])
          (spec_l4Named_l0 N k0 K walk1 (IntKind.i64.wrap (i + 1)) o o1 (tApp o2 [r.1.1])))))))
      (k0 o2))
noncomputable def spec_l4Named_l0_again {R : Type} (N : Nat) (ks : (j : Nat) → ((spec_l4Named_l0_ex.getD j (.ret, Sh.none)).2).T → Option R) (k : Nat) (x : spec_l4Named_l0_sh.T) : Option R :=
  spec_l4Named_l0 N (fun y0 => ks 0 (((), ()), (y0, ()))) k x.1.1 x.1.2.2.2.1 x.2.1.1 x.2.1.2.1 x.2.2.1
noncomputable def spec_l4Named_l0_s (N : Nat) : LSum := ⟨spec_l4Named_l0_sh, spec_l4Named_l0_ex, fun x ks => spec_l4Named_l0_again N ks N x⟩
theorem spec_l4Named_l0_step (N : Nat) (R : Type) (k : Nat) (x : spec_l4Named_l0_sh.T) (ks : (j : Nat) → ((spec_l4Named_l0_ex.getD j (.ret, Sh.none)).2).T → Option R) : spec_l4Named_l0_again N ks (k + 1) x = roundF (spec_l4Named_G N) tab [] (loopAt spec_l4Named_code 0) spec_l4Named_l0_sh spec_l4Named_l0_ex (fun y => spec_l4Named_l0_again N ks k y) ks x := by kernel_rfl
theorem spec_l4Named_l0_ok (N : Nat) : LoopOk Tryz.prog Tryz.f42.ntmps (spec_l4Named_l0_s N) (loopAt spec_l4Named_code 0) :=
  loop_ok (l := spec_l4Named_l0_s N) progOk (spec_l4Named_gok N) (draw_ok progOk (spec_l4Named_gok N)) (fun R k x ks => spec_l4Named_l0_again N ks k x) (fun _ _ _ => rfl) (fun R k x ks => spec_l4Named_l0_step N R k x ks) (fun R x ks r h => ⟨N, h⟩) (lsOk_at (L := []) trivial) (by kernel_rfl) (by kernel_rfl)
noncomputable def spec_l4Named (N : Nat) (x : ((List (List Int)) × (List (Int × Int)))) (walk : (List Int)) : Option (((List (List Int)) × Unit) × (Unit)) :=
  spec_l4Named_l0 N (fun o => some ((o, ()), ())) N walk 0 x.1 x.2 []
noncomputable def spec_l4Named_S (N : Nat) : FSum := ⟨spec_l4Named_ps, spec_l4Named_rs, fun x => spec_l4Named N x.1 x.2.1⟩
theorem spec_l4Named_run (N : Nat) (x : argsT spec_l4Named_ps) : spec_l4Named N x.1 x.2.1 = funF (spec_l4Named_G N) tab [spec_l4Named_l0_s N] Tryz.f42 spec_l4Named_ps spec_l4Named_rs x := by kernel_rfl
theorem spec_l4Named_pc (N : Nat) : PC Tryz.prog 42 (spec_l4Named_S N) := by
  have e : spec_l4Named_S N = ⟨spec_l4Named_ps, spec_l4Named_rs, funF (spec_l4Named_G N) tab [spec_l4Named_l0_s N] Tryz.f42 spec_l4Named_ps spec_l4Named_rs⟩ := congrArg (FSum.mk spec_l4Named_ps spec_l4Named_rs) (funext (spec_l4Named_run N))
  rw [e]
  exact fun_ok (c := spec_l4Named_code) progOk (spec_l4Named_gok N) (draw_ok progOk (spec_l4Named_gok N)) Tryz.call42 Tryz.func42 (by kernel_rfl) (lsOk_at (L := [spec_l4Named_l0_s N]) ⟨spec_l4Named_l0_ok N, trivial⟩) (by kernel_rfl) (by kernel_rfl) (by kernel_rfl) (by kernel_rfl) (by kernel_rfl)

/-! ### spec_l6Way -/
abbrev spec_l6Way_ps : List (PV.Mode × Ty) := [(.ro, QILLI), (.ro, LI), (.ro, LI)]
abbrev spec_l6Way_rs : List (Bool × Ty) := [(true, LLI)]
noncomputable def spec_l6Way_G (N : Nat) : GTab := gOf [(35, spec_l6Solutions_S N), (41, spec_l6Space_S N), (44, spec_l2Index_S N), (43, spec_l2Walk_S N), (42, spec_l4Named_S N)]
theorem spec_l6Way_gok (N : Nat) : GOk Tryz.prog (spec_l6Way_G N) := gOf_ok ⟨spec_l6Solutions_pc N, spec_l6Space_pc N, spec_l2Index_pc N, spec_l2Walk_pc N, spec_l4Named_pc N, trivial⟩
noncomputable def spec_l6Way_code : Code := (Tryz.f20.body).getD .skip
noncomputable def spec_l6Way (N : Nat) (f : (Int × (List (List Int)))) (a : (List Int)) (b : (List Int)) : Option (((List (List Int)) × Unit) × (Unit)) :=
  ((spec_l6Solutions N (f.1, f.2)).bind fun r =>
    ((spec_l6Space N r.1.1).bind fun r1 =>
      ((spec_l2Index N (r1.1.1.1, r1.1.1.2) a).bind fun r2 =>
        ((spec_l2Index N (r1.1.1.1, r1.1.1.2) b).bind fun r3 =>
          ((spec_l2Walk N (r1.1.1.1, r1.1.1.2) r2.1.1 r3.1.1).bind fun r4 =>
            ((spec_l4Named N (r1.1.1.1, r1.1.1.2) r4.1.1).bind fun r5 =>
              some ((r5.1.1, ()), ())))))))
noncomputable def spec_l6Way_S (N : Nat) : FSum := ⟨spec_l6Way_ps, spec_l6Way_rs, fun x => spec_l6Way N x.1 x.2.1 x.2.2.1⟩
theorem spec_l6Way_run (N : Nat) (x : argsT spec_l6Way_ps) : spec_l6Way N x.1 x.2.1 x.2.2.1 = funF (spec_l6Way_G N) tab [] Tryz.f20 spec_l6Way_ps spec_l6Way_rs x := by kernel_rfl
theorem spec_l6Way_pc (N : Nat) : PC Tryz.prog 20 (spec_l6Way_S N) := by
  have e : spec_l6Way_S N = ⟨spec_l6Way_ps, spec_l6Way_rs, funF (spec_l6Way_G N) tab [] Tryz.f20 spec_l6Way_ps spec_l6Way_rs⟩ := congrArg (FSum.mk spec_l6Way_ps spec_l6Way_rs) (funext (spec_l6Way_run N))
  rw [e]
  exact fun_ok (c := spec_l6Way_code) progOk (spec_l6Way_gok N) (draw_ok progOk (spec_l6Way_gok N)) Tryz.call20 Tryz.func20 (by kernel_rfl) (lsOk_at (L := []) trivial) (by kernel_rfl) (by kernel_rfl) (by kernel_rfl) (by kernel_rfl) (by kernel_rfl)

/-! ### spec_FlipDistance -/
abbrev spec_FlipDistance_ps : List (PV.Mode × Ty) := [(.ro, QILLI), (.ro, LI), (.ro, LI)]
abbrev spec_FlipDistance_rs : List (Bool × Ty) := [(true, I), (true, .bool)]
noncomputable def spec_FlipDistance_G (N : Nat) : GTab := gOf [(19, spec_l6Two_S N), (20, spec_l6Way_S N)]
theorem spec_FlipDistance_gok (N : Nat) : GOk Tryz.prog (spec_FlipDistance_G N) := gOf_ok ⟨spec_l6Two_pc N, spec_l6Way_pc N, trivial⟩
noncomputable def spec_FlipDistance_code : Code := (Tryz.f7.body).getD .skip
noncomputable def spec_FlipDistance (N : Nat) (f : (Int × (List (List Int)))) (a : (List Int)) (b : (List Int)) : Option ((Int × Bool × Unit) × (Unit)) :=
  ((spec_l6Two N (f.1, f.2) a b).bind fun r =>
    (br (!r.1.1)
      (some ((0, false, ()), ()))
      (((spec_l6Way N (f.1, f.2) a b).bind fun r1 =>
        (br (ieq (tLen r1.1.1) 0)
          (some ((0, false, ()), ()))
          (some (((IntKind.i64.wrap ((tLen r1.1.1) - 1)), true, ()), ())))))))
noncomputable def spec_FlipDistance_S (N : Nat) : FSum := ⟨spec_FlipDistance_ps, spec_FlipDistance_rs, fun x => spec_FlipDistance N x.1 x.2.1 x.2.2.1⟩
theorem spec_FlipDistance_run (N : Nat) (x : argsT spec_FlipDistance_ps) : spec_FlipDistance N x.1 x.2.1 x.2.2.1 = funF (spec_FlipDistance_G N) tab [] Tryz.f7 spec_FlipDistance_ps spec_FlipDistance_rs x := by kernel_rfl
theorem spec_FlipDistance_pc (N : Nat) : PC Tryz.prog 7 (spec_FlipDistance_S N) := by
  have e : spec_FlipDistance_S N = ⟨spec_FlipDistance_ps, spec_FlipDistance_rs, funF (spec_FlipDistance_G N) tab [] Tryz.f7 spec_FlipDistance_ps spec_FlipDistance_rs⟩ := congrArg (FSum.mk spec_FlipDistance_ps spec_FlipDistance_rs) (funext (spec_FlipDistance_run N))
  rw [e]
  exact fun_ok (c := spec_FlipDistance_code) progOk (spec_FlipDistance_gok N) (draw_ok progOk (spec_FlipDistance_gok N)) Tryz.call7 Tryz.func7 (by kernel_rfl) (lsOk_at (L := []) trivial) (by kernel_rfl) (by kernel_rfl) (by kernel_rfl) (by kernel_rfl) (by kernel_rfl)

/-! ### impl_flipped -/
abbrev impl_flipped_ps : List (PV.Mode × Ty) := [(.ro, LI), (.ro, I)]
abbrev impl_flipped_rs : List (Bool × Ty) := [(true, LI)]
noncomputable def impl_flipped_G (N : Nat) : GTab := gOf [(45, slices_Clone_LI_int_S N)]
theorem impl_flipped_gok (N : Nat) : GOk Tryz.prog (impl_flipped_G N) := gOf_ok ⟨slices_Clone_LI_int_pc N, trivial⟩
noncomputable def impl_flipped_code : Code := (Tryz.f25.body).getD .skip
noncomputable def impl_flipped (N : Nat) (list : (List Int)) (v : Int) : Option (((List Int) × Unit) × (Unit)) :=
  ((slices_Clone_LI_int N list).bind fun r =>
    (chk (inb r.1.1 v)
      (chk (inb r.1.1 v)
      (some (((tSet r.1.1 v (IntKind.i64.wrap (1 - (rdI r.1.1 v)))), ()), ())))))
noncomputable def impl_flipped_S (N : Nat) : FSum := ⟨impl_flipped_ps, impl_flipped_rs, fun x => impl_flipped N x.1 x.2.1⟩
theorem impl_flipped_run (N : Nat) (x : argsT impl_flipped_ps) : impl_flipped N x.1 x.2.1 = funF (impl_flipped_G N) tab [] Tryz.f25 impl_flipped_ps impl_flipped_rs x := by kernel_rfl
theorem impl_flipped_pc (N : Nat) : PC Tryz.prog 25 (impl_flipped_S N) := by
  have e : impl_flipped_S N = ⟨impl_flipped_ps, impl_flipped_rs, funF (impl_flipped_G N) tab [] Tryz.f25 impl_flipped_ps impl_flipped_rs⟩ := congrArg (FSum.mk impl_flipped_ps impl_flipped_rs) (funext (impl_flipped_run N))
  rw [e]
  exact fun_ok (c := impl_flipped_code) progOk (impl_flipped_gok N) (draw_ok progOk (impl_flipped_gok N)) Tryz.call25 Tryz.func25 (by kernel_rfl) (lsOk_at (L := []) trivial) (by kernel_rfl) (by kernel_rfl) (by kernel_rfl) (by kernel_rfl) (by kernel_rfl)

/-! ### impl_farthest -/
abbrev impl_farthest_ps : List (PV.Mode × Ty) := [(.ro, QILLI), (.ro, LI), (.ro, I)]
abbrev impl_farthest_rs : List (Bool × Ty) := [(true, LI), (true, .bool)]
noncomputable def impl_farthest_G (N : Nat) : GTab := gOf [(23, impl_isSolution_S N), (45, slices_Clone_LI_int_S N), (25, impl_flipped_S N), (24, impl_Formula_solves_S N)]
theorem impl_farthest_gok (N : Nat) : GOk Tryz.prog (impl_farthest_G N) := gOf_ok ⟨impl_isSolution_pc N, slices_Clone_LI_int_pc N, impl_flipped_pc N, impl_Formula_solves_pc N, trivial⟩
noncomputable def impl_farthest_code : Code := (Tryz.f21.body).getD .skip
noncomputable def impl_farthest_l0_sh : Sh := ⟨[(2, .one (.ro I)), (3, .one (.adr 0 0)), (8, .one (.ref 1)), (9, .one (.ro I))], [.box [.ro I, .ro LLI], .sl 3 I .own]⟩
noncomputable def impl_farthest_l0_ex : List (Ex × Sh) := [(.exit 0, ⟨[(8, .one (.ref 0))], [.sl 3 I .own]⟩)]
noncomputable def impl_farthest_l0 {R : Type} (N : Nat) (k0 : (List Int) → Option R) : Nat → Int → Int → Int → (List (List Int)) → (List Int) → Option R
  | 0, _, _, _, _, _ => none
  | K + 1, bit1, v, o, o1, o2 =>
    (br (ilt v o)
      ((chk (inb o2 v)
        (br (ieq (rdI o2 v) bit1)
        (((impl_flipped N o2 v).bind fun r2 =>
          ((impl_Formula_solves N (o, o1) r2.1.1).bind fun r3 =>
            (br r3.1.1
              (((impl_flipped N o2 v).bind fun r4 =>
                impl_farthest_l0 N k0 K bit1 0 o o1 r4.1.1))
              (impl_farthest_l0 N k0 K bit1 (IntKind.i64.wrap (v + 1)) o o1 o2)))))
        (impl_farthest_l0 N k0 K bit1 (IntKind.i64.wrap (v + 1)) o o1 o2))))
      (k0 o2))
noncomputable def impl_farthest_l0_again {R : Type} (N : Nat) (ks : (j : Nat) → ((impl_farthest_l0_ex.getD j (.ret, Sh.none)).2).T → Option R) (k : Nat) (x : impl_farthest_l0_sh.T) : Option R :=
  impl_farthest_l0 N (fun y0 => ks 0 (((), ()), (y0, ()))) k x.1.1 x.1.2.2.2.1 x.2.1.1 x.2.1.2.1 x.2.2.1
noncomputable def impl_farthest_l0_s (N : Nat) : LSum := ⟨impl_farthest_l0_sh, impl_farthest_l0_ex, fun x ks => impl_farthest_l0_again N ks N x⟩
theorem impl_farthest_l0_step (N : Nat) (R : Type) (k : Nat) (x : impl_farthest_l0_sh.T) (ks : (j : Nat) → ((impl_farthest_l0_ex.getD j (.ret, Sh.none)).2).T → Option R) : impl_farthest_l0_again N ks (k + 1) x = roundF (impl_farthest_G N) tab [] (loopAt impl_farthest_code 0) impl_farthest_l0_sh impl_farthest_l0_ex (fun y => impl_farthest_l0_again N ks k y) ks x := by kernel_rfl
theorem impl_farthest_l0_ok (N : Nat) : LoopOk Tryz.prog Tryz.f21.ntmps (impl_farthest_l0_s N) (loopAt impl_farthest_code 0) :=
  loop_ok (l := impl_farthest_l0_s N) progOk (impl_farthest_gok N) (draw_ok progOk (impl_farthest_gok N)) (fun R k x ks => impl_farthest_l0_again N ks k x) (fun _ _ _ => rfl) (fun R k x ks => impl_farthest_l0_step N R k x ks) (fun R x ks r h => ⟨N, h⟩) (lsOk_at (L := []) trivial) (by kernel_rfl) (by kernel_rfl)
noncomputable def impl_farthest (N : Nat) (f : (Int × (List (List Int)))) (list : (List Int)) (bit : Int) : Option (((List Int) × Bool × Unit) × (Unit)) :=
  ((impl_isSolution N (f.1, f.2) list).bind fun r =>
    (br (!r.1.1)
      (some (([], false, ()), ()))
      (((slices_Clone_LI_int N list).bind fun r1 =>
        impl_farthest_l0 N (fun o => some ((o, true, ()), ())) N bit 0 f.1 f.2 r1.1.1))))
noncomputable def impl_farthest_S (N : Nat) : FSum := ⟨impl_farthest_ps, impl_farthest_rs, fun x => impl_farthest N x.1 x.2.1 x.2.2.1⟩
theorem impl_farthest_run (N : Nat) (x : argsT impl_farthest_ps) : impl_farthest N x.1 x.2.1 x.2.2.1 = funF (impl_farthest_G N) tab [impl_farthest_l0_s N] Tryz.f21 impl_farthest_ps impl_farthest_rs x := by kernel_rfl
theorem impl_farthest_pc (N : Nat) : PC Tryz.prog 21 (impl_farthest_S N) := by
  have e : impl_farthest_S N = ⟨impl_farthest_ps, impl_farthest_rs, funF (impl_farthest_G N) tab [impl_farthest_l0_s N] Tryz.f21 impl_farthest_ps impl_farthest_rs⟩ := congrArg (FSum.mk impl_farthest_ps impl_farthest_rs) (funext (impl_farthest_run N))
  rw [e]
  exact fun_ok (c := impl_farthest_code) progOk (impl_farthest_gok N) (draw_ok progOk (impl_farthest_gok N)) Tryz.call21 Tryz.func21 (by kernel_rfl) (lsOk_at (L := [impl_farthest_l0_s N]) ⟨impl_farthest_l0_ok N, trivial⟩) (by kernel_rfl) (by kernel_rfl) (by kernel_rfl) (by kernel_rfl) (by kernel_rfl)

/-! ### impl_LowestOf -/
abbrev impl_LowestOf_ps : List (PV.Mode × Ty) := [(.ro, QILLI), (.ro, LI)]
abbrev impl_LowestOf_rs : List (Bool × Ty) := [(true, LI), (true, .bool)]
noncomputable def impl_LowestOf_G (N : Nat) : GTab := gOf [(21, impl_farthest_S N)]
theorem impl_LowestOf_gok (N : Nat) : GOk Tryz.prog (impl_LowestOf_G N) := gOf_ok ⟨impl_farthest_pc N, trivial⟩
noncomputable def impl_LowestOf_code : Code := (Tryz.f8.body).getD .skip
noncomputable def impl_LowestOf (N : Nat) (f : (Int × (List (List Int)))) (bits : (List Int)) : Option (((List Int) × Bool × Unit) × (Unit)) :=
  ((impl_farthest N (f.1, f.2) bits 1).bind fun r =>
    some ((r.1.1, r.1.2.1, ()), ()))
noncomputable def impl_LowestOf_S (N : Nat) : FSum := ⟨impl_LowestOf_ps, impl_LowestOf_rs, fun x => impl_LowestOf N x.1 x.2.1⟩
theorem impl_LowestOf_run (N : Nat) (x : argsT impl_LowestOf_ps) : impl_LowestOf N x.1 x.2.1 = funF (impl_LowestOf_G N) tab [] Tryz.f8 impl_LowestOf_ps impl_LowestOf_rs x := by kernel_rfl
theorem impl_LowestOf_pc (N : Nat) : PC Tryz.prog 8 (impl_LowestOf_S N) := by
  have e : impl_LowestOf_S N = ⟨impl_LowestOf_ps, impl_LowestOf_rs, funF (impl_LowestOf_G N) tab [] Tryz.f8 impl_LowestOf_ps impl_LowestOf_rs⟩ := congrArg (FSum.mk impl_LowestOf_ps impl_LowestOf_rs) (funext (impl_LowestOf_run N))
  rw [e]
  exact fun_ok (c := impl_LowestOf_code) progOk (impl_LowestOf_gok N) (draw_ok progOk (impl_LowestOf_gok N)) Tryz.call8 Tryz.func8 (by kernel_rfl) (lsOk_at (L := []) trivial) (by kernel_rfl) (by kernel_rfl) (by kernel_rfl) (by kernel_rfl) (by kernel_rfl)

/-! ### spec_l6Flip -/
abbrev spec_l6Flip_ps : List (PV.Mode × Ty) := [(.ro, LI), (.ro, I)]
abbrev spec_l6Flip_rs : List (Bool × Ty) := [(true, LI)]
noncomputable def spec_l6Flip_G (N : Nat) : GTab := gOf [(36, spec_l1Own_S N)]
theorem spec_l6Flip_gok (N : Nat) : GOk Tryz.prog (spec_l6Flip_G N) := gOf_ok ⟨spec_l1Own_pc N, trivial⟩
noncomputable def spec_l6Flip_code : Code := (Tryz.f27.body).getD .skip
noncomputable def spec_l6Flip (N : Nat) (bits : (List Int)) (v : Int) : Option (((List Int) × Unit) × (Unit)) :=
  ((spec_l1Own N bits).bind fun r =>
    (chk (inb r.1.1 v)
      (chk (inb r.1.1 v)
      (some (((tSet r.1.1 v (IntKind.i64.wrap (1 - (rdI r.1.1 v)))), ()), ())))))
noncomputable def spec_l6Flip_S (N : Nat) : FSum := ⟨spec_l6Flip_ps, spec_l6Flip_rs, fun x => spec_l6Flip N x.1 x.2.1⟩
theorem spec_l6Flip_run (N : Nat) (x : argsT spec_l6Flip_ps) : spec_l6Flip N x.1 x.2.1 = funF (spec_l6Flip_G N) tab [] Tryz.f27 spec_l6Flip_ps spec_l6Flip_rs x := by kernel_rfl
theorem spec_l6Flip_pc (N : Nat) : PC Tryz.prog 27 (spec_l6Flip_S N) := by
  have e : spec_l6Flip_S N = ⟨spec_l6Flip_ps, spec_l6Flip_rs, funF (spec_l6Flip_G N) tab [] Tryz.f27 spec_l6Flip_ps spec_l6Flip_rs⟩ := congrArg (FSum.mk spec_l6Flip_ps spec_l6Flip_rs) (funext (spec_l6Flip_run N))
  rw [e]
  exact fun_ok (c := spec_l6Flip_code) progOk (spec_l6Flip_gok N) (draw_ok progOk (spec_l6Flip_gok N)) Tryz.call27 Tryz.func27 (by kernel_rfl) (lsOk_at (L := []) trivial) (by kernel_rfl) (by kernel_rfl) (by kernel_rfl) (by kernel_rfl) (by kernel_rfl)

/-! ### spec_l6Down -/
abbrev spec_l6Down_ps : List (PV.Mode × Ty) := [(.ro, QILLI), (.ro, LI), (.ro, I)]
abbrev spec_l6Down_rs : List (Bool × Ty) := [(true, LI)]
noncomputable def spec_l6Down_G (N : Nat) : GTab := gOf [(36, spec_l1Own_S N), (27, spec_l6Flip_S N), (26, spec_l6Solves_S N)]
theorem spec_l6Down_gok (N : Nat) : GOk Tryz.prog (spec_l6Down_G N) := gOf_ok ⟨spec_l1Own_pc N, spec_l6Flip_pc N, spec_l6Solves_pc N, trivial⟩
noncomputable def spec_l6Down_code : Code := (Tryz.f22.body).getD .skip
noncomputable def spec_l6Down_l0_0_sh : Sh := ⟨[(2, .one (.ro I)), (3, .one (.adr 0 0)), (7, .one (.ref 1)), (8, .one (.ro I))], [.box [.ro I, .ro LLI], .sl 3 I .own]⟩
noncomputable def spec_l6Down_l0_0_ex : List (Ex × Sh) := [(.exit 2, ⟨[(2, .one (.ro I)), (3, .one (.adr 0 0)), (7, .one (.ref 1)), (8, .one (.ro I))], [.box [.ro I, .ro LLI], .sl 3 I .own]⟩)]
noncomputable def spec_l6Down_l0_0 {R : Type} (N : Nat) (k0 : Int → Int → Int → (List (List Int)) → (List Int) → Option R) : Nat → Int → Int → Int → (List (List Int)) → (List Int) → Option R
  | 0, _, _, _, _, _ => none
  | K + 1, number2, v, o3, o4, o5 =>
    (br (ilt v o3)
      ((chk (inb o5 v)
        (br (ine (rdI o5 v) number2)
        (spec_l6Down_l0_0 N k0 K number2 (IntKind.i64.wrap (v + 1)) o3 o4 o5)
        (((spec_l6Flip N o5 v).bind fun r1 =>
          ((spec_l6Solves N (o3, o4) r1.1.1).bind fun r2 =>
            (br (!r2.1.1)
              (spec_l6Down_l0_0 N k0 K number2 (IntKind.i64.wrap (v + 1)) o3 o4 o5)
              (k0 number2 v o3 o4 o5))))))))
      (k0 number2 v o3 o4 o5))
noncomputable def spec_l6Down_l0_0_again {R : Type} (N : Nat) (ks : (j : Nat) → ((spec_l6Down_l0_0_ex.getD j (.ret, Sh.none)).2).T → Option R) (k : Nat) (x : spec_l6Down_l0_0_sh.T) : Option R :=
  spec_l6Down_l0_0 N (fun y0 y1 y2 y3 y4 => ks 0 ((y0, (), (), y1, ()), ((y2, y3, ()), y4, ()))) k x.1.1 x.1.2.2.2.1 x.2.1.1 x.2.1.2.1 x.2.2.1
noncomputable def spec_l6Down_l0_0_s (N : Nat) : LSum := ⟨spec_l6Down_l0_0_sh, spec_l6Down_l0_0_ex, fun x ks => spec_l6Down_l0_0_again N ks N x⟩
theorem spec_l6Down_l0_0_step (N : Nat) (R : Type) (k : Nat) (x : spec_l6Down_l0_0_sh.T) (ks : (j : Nat) → ((spec_l6Down_l0_0_ex.getD j (.ret, Sh.none)).2).T → Option R) : spec_l6Down_l0_0_again N ks (k + 1) x = roundF (spec_l6Down_G N) tab [] (loopAt (loopAt spec_l6Down_code 0) 0) spec_l6Down_l0_0_sh spec_l6Down_l0_0_ex (fun y => spec_l6Down_l0_0_again N ks k y) ks x := by kernel_rfl
theorem spec_l6Down_l0_0_ok (N : Nat) : LoopOk Tryz.prog Tryz.f22.ntmps (spec_l6Down_l0_0_s N) (loopAt (loopAt spec_l6Down_code 0) 0) :=
  loop_ok (l := spec_l6Down_l0_0_s N) progOk (spec_l6Down_gok N) (draw_ok progOk (spec_l6Down_gok N)) (fun R k x ks => spec_l6Down_l0_0_again N ks k x) (fun _ _ _ => rfl) (fun R k x ks => spec_l6Down_l0_0_step N R k x ks) (fun R x ks r h => ⟨N, h⟩) (lsOk_at (L := []) trivial) (by kernel_rfl) (by kernel_rfl)
noncomputable def spec_l6Down_l0_sh : Sh := ⟨[(2, .one (.ro I)), (3, .one (.adr 0 0)), (7, .one (.ref 1))], [.box [.ro I, .ro LLI], .sl 3 I .own]⟩
noncomputable def spec_l6Down_l0_ex : List (Ex × Sh) := [(.ret, ⟨[(6, .one (.ref 0))], [.sl 3 I .own]⟩)]
noncomputable def spec_l6Down_l0 {R : Type} (N : Nat) (k0 : (List Int) → Option R) : Nat → Int → Int → (List (List Int)) → (List Int) → Option R
  | 0, _, _, _, _ => none
  | K + 1, number1, o, o1, o2 =>
    spec_l6Down_l0_0 N (fun number2 v o3 o4 o5 => (br (ieq v o3)
      (k0 o5)
      (((spec_l6Flip N o5 v).bind fun r1 =>
        spec_l6Down_l0 N k0 K number2 o3 o4 r1.1.1)))) N number1 0 o o1 o2
noncomputable def spec_l6Down_l0_again {R : Type} (N : Nat) (ks : (j : Nat) → ((spec_l6Down_l0_ex.getD j (.ret, Sh.none)).2).T → Option R) (k : Nat) (x : spec_l6Down_l0_sh.T) : Option R :=
  spec_l6Down_l0 N (fun y0 => ks 0 (((), ()), (y0, ()))) k x.1.1 x.2.1.1 x.2.1.2.1 x.2.2.1
noncomputable def spec_l6Down_l0_s (N : Nat) : LSum := ⟨spec_l6Down_l0_sh, spec_l6Down_l0_ex, fun x ks => spec_l6Down_l0_again N ks N x⟩
theorem spec_l6Down_l0_step (N : Nat) (R : Type) (k : Nat) (x : spec_l6Down_l0_sh.T) (ks : (j : Nat) → ((spec_l6Down_l0_ex.getD j (.ret, Sh.none)).2).T → Option R) : spec_l6Down_l0_again N ks (k + 1) x = roundF (spec_l6Down_G N) tab [spec_l6Down_l0_0_s N] (loopAt spec_l6Down_code 0) spec_l6Down_l0_sh spec_l6Down_l0_ex (fun y => spec_l6Down_l0_again N ks k y) ks x := by kernel_rfl
theorem spec_l6Down_l0_ok (N : Nat) : LoopOk Tryz.prog Tryz.f22.ntmps (spec_l6Down_l0_s N) (loopAt spec_l6Down_code 0) :=
  loop_ok (l := spec_l6Down_l0_s N) progOk (spec_l6Down_gok N) (draw_ok progOk (spec_l6Down_gok N)) (fun R k x ks => spec_l6Down_l0_again N ks k x) (fun _ _ _ => rfl) (fun R k x ks => spec_l6Down_l0_step N R k x ks) (fun R x ks r h => ⟨N, h⟩) (lsOk_at (L := [spec_l6Down_l0_0_s N]) ⟨spec_l6Down_l0_0_ok N, trivial⟩) (by kernel_rfl) (by kernel_rfl)
noncomputable def spec_l6Down (N : Nat) (f : (Int × (List (List Int)))) (bits : (List Int)) (number : Int) : Option (((List Int) × Unit) × (Unit)) :=
  ((spec_l1Own N bits).bind fun r =>
    spec_l6Down_l0 N (fun o => some ((o, ()), ())) N number f.1 f.2 r.1.1)
noncomputable def spec_l6Down_S (N : Nat) : FSum := ⟨spec_l6Down_ps, spec_l6Down_rs, fun x => spec_l6Down N x.1 x.2.1 x.2.2.1⟩
theorem spec_l6Down_run (N : Nat) (x : argsT spec_l6Down_ps) : spec_l6Down N x.1 x.2.1 x.2.2.1 = funF (spec_l6Down_G N) tab [spec_l6Down_l0_s N] Tryz.f22 spec_l6Down_ps spec_l6Down_rs x := by kernel_rfl
theorem spec_l6Down_pc (N : Nat) : PC Tryz.prog 22 (spec_l6Down_S N) := by
  have e : spec_l6Down_S N = ⟨spec_l6Down_ps, spec_l6Down_rs, funF (spec_l6Down_G N) tab [spec_l6Down_l0_s N] Tryz.f22 spec_l6Down_ps spec_l6Down_rs⟩ := congrArg (FSum.mk spec_l6Down_ps spec_l6Down_rs) (funext (spec_l6Down_run N))
  rw [e]
  exact fun_ok (c := spec_l6Down_code) progOk (spec_l6Down_gok N) (draw_ok progOk (spec_l6Down_gok N)) Tryz.call22 Tryz.func22 (by kernel_rfl) (lsOk_at (L := [spec_l6Down_l0_s N]) ⟨spec_l6Down_l0_ok N, trivial⟩) (by kernel_rfl) (by kernel_rfl) (by kernel_rfl) (by kernel_rfl) (by kernel_rfl)

/-! ### spec_LowestOf -/
abbrev spec_LowestOf_ps : List (PV.Mode × Ty) := [(.ro, QILLI), (.ro, LI)]
abbrev spec_LowestOf_rs : List (Bool × Ty) := [(true, LI), (true, .bool)]
noncomputable def spec_LowestOf_G (N : Nat) : GTab := gOf [(19, spec_l6Two_S N), (22, spec_l6Down_S N)]
theorem spec_LowestOf_gok (N : Nat) : GOk Tryz.prog (spec_LowestOf_G N) := gOf_ok ⟨spec_l6Two_pc N, spec_l6Down_pc N, trivial⟩
noncomputable def spec_LowestOf_code : Code := (Tryz.f9.body).getD .skip
noncomputable def spec_LowestOf (N : Nat) (f : (Int × (List (List Int)))) (bits : (List Int)) : Option (((List Int) × Bool × Unit) × (Unit)) :=
  ((spec_l6Two N (f.1, f.2) bits bits).bind fun r =>
    (br (!r.1.1)
      (some (([], false, ()), ()))
      (((spec_l6Down N (f.1, f.2) bits 1).bind fun r1 =>
        some ((r1.1.1, true, ()), ())))))
noncomputable def spec_LowestOf_S (N : Nat) : FSum := ⟨spec_LowestOf_ps, spec_LowestOf_rs, fun x => spec_LowestOf N x.1 x.2.1⟩
theorem spec_LowestOf_run (N : Nat) (x : argsT spec_LowestOf_ps) : spec_LowestOf N x.1 x.2.1 = funF (spec_LowestOf_G N) tab [] Tryz.f9 spec_LowestOf_ps spec_LowestOf_rs x := by kernel_rfl
theorem spec_LowestOf_pc (N : Nat) : PC Tryz.prog 9 (spec_LowestOf_S N) := by
  have e : spec_LowestOf_S N = ⟨spec_LowestOf_ps, spec_LowestOf_rs, funF (spec_LowestOf_G N) tab [] Tryz.f9 spec_LowestOf_ps spec_LowestOf_rs⟩ := congrArg (FSum.mk spec_LowestOf_ps spec_LowestOf_rs) (funext (spec_LowestOf_run N))
  rw [e]
  exact fun_ok (c := spec_LowestOf_code) progOk (spec_LowestOf_gok N) (draw_ok progOk (spec_LowestOf_gok N)) Tryz.call9 Tryz.func9 (by kernel_rfl) (lsOk_at (L := []) trivial) (by kernel_rfl) (by kernel_rfl) (by kernel_rfl) (by kernel_rfl) (by kernel_rfl)

/-! ### laws_rInts -/
abbrev laws_rInts_ps : List (PV.Mode × Ty) := [(.ro, LI), (.ro, LI)]
abbrev laws_rInts_rs : List (Bool × Ty) := [(true, .bool)]
noncomputable def laws_rInts_G (N : Nat) : GTab := gOf []
theorem laws_rInts_gok (N : Nat) : GOk Tryz.prog (laws_rInts_G N) := gOf_ok trivial
noncomputable def laws_rInts_code : Code := (Tryz.f10.body).getD .skip
noncomputable def laws_rInts_l0_sh : Sh := ⟨[(0, .one (.ro LI)), (1, .one (.ro LI)), (5, .one (.ro I))], []⟩
noncomputable def laws_rInts_l0_ex : List (Ex × Sh) := [(.ret, ⟨[(4, .one (.ro .bool))], []⟩), (.exit 0, ⟨[], []⟩)]
noncomputable def laws_rInts_l0 {R : Type} (N : Nat) (k0 : Bool → Option R) (k1 : Unit → Option R) : Nat → (List Int) → (List Int) → Int → Option R
  | 0, _, _, _ => none
  | K + 1, a1, b1, i =>
    (br (ilt i (tLen a1))
      ((chk (inb a1 i)
        (chk (inb b1 i)
        (br (ine (rdI a1 i) (rdI b1 i))
        (k0 false)
        (laws_rInts_l0 N k0 k1 K a1 b1 (IntKind.i64.wrap (i + 1)))))))
      (k1 ()))
noncomputable def laws_rInts_l0_again {R : Type} (N : Nat) (ks : (j : Nat) → ((laws_rInts_l0_ex.getD j (.ret, Sh.none)).2).T → Option R) (k : Nat) (x : laws_rInts_l0_sh.T) : Option R :=
  laws_rInts_l0 N (fun y0 => ks 0 ((y0, ()), ())) (fun (_ : Unit) => ks 1 ((), ())) k x.1.1 x.1.2.1 x.1.2.2.1
noncomputable def laws_rInts_l0_s (N : Nat) : LSum := ⟨laws_rInts_l0_sh, laws_rInts_l0_ex, fun x ks => laws_rInts_l0_again N ks N x⟩
theorem laws_rInts_l0_step (N : Nat) (R : Type) (k : Nat) (x : laws_rInts_l0_sh.T) (ks : (j : Nat) → ((laws_rInts_l0_ex.getD j (.ret, Sh.none)).2).T → Option R) : laws_rInts_l0_again N ks (k + 1) x = roundF (laws_rInts_G N) tab [] (loopAt laws_rInts_code 0) laws_rInts_l0_sh laws_rInts_l0_ex (fun y => laws_rInts_l0_again N ks k y) ks x := by kernel_rfl
theorem laws_rInts_l0_ok (N : Nat) : LoopOk Tryz.prog Tryz.f10.ntmps (laws_rInts_l0_s N) (loopAt laws_rInts_code 0) :=
  loop_ok (l := laws_rInts_l0_s N) progOk (laws_rInts_gok N) (draw_ok progOk (laws_rInts_gok N)) (fun R k x ks => laws_rInts_l0_again N ks k x) (fun _ _ _ => rfl) (fun R k x ks => laws_rInts_l0_step N R k x ks) (fun R x ks r h => ⟨N, h⟩) (lsOk_at (L := []) trivial) (by kernel_rfl) (by kernel_rfl)
noncomputable def laws_rInts (N : Nat) (a : (List Int)) (b : (List Int)) : Option ((Bool × Unit) × (Unit)) :=
  (br (ine (tLen a) (tLen b))
    (some ((false, ()), ()))
    (laws_rInts_l0 N (fun x => some ((x, ()), ())) (fun (_ : Unit) => some ((true, ()), ())) N a b 0))
noncomputable def laws_rInts_S (N : Nat) : FSum := ⟨laws_rInts_ps, laws_rInts_rs, fun x => laws_rInts N x.1 x.2.1⟩
theorem laws_rInts_run (N : Nat) (x : argsT laws_rInts_ps) : laws_rInts N x.1 x.2.1 = funF (laws_rInts_G N) tab [laws_rInts_l0_s N] Tryz.f10 laws_rInts_ps laws_rInts_rs x := by kernel_rfl
theorem laws_rInts_pc (N : Nat) : PC Tryz.prog 10 (laws_rInts_S N) := by
  have e : laws_rInts_S N = ⟨laws_rInts_ps, laws_rInts_rs, funF (laws_rInts_G N) tab [laws_rInts_l0_s N] Tryz.f10 laws_rInts_ps laws_rInts_rs⟩ := congrArg (FSum.mk laws_rInts_ps laws_rInts_rs) (funext (laws_rInts_run N))
  rw [e]
  exact fun_ok (c := laws_rInts_code) progOk (laws_rInts_gok N) (draw_ok progOk (laws_rInts_gok N)) Tryz.call10 Tryz.func10 (by kernel_rfl) (lsOk_at (L := [laws_rInts_l0_s N]) ⟨laws_rInts_l0_ok N, trivial⟩) (by kernel_rfl) (by kernel_rfl) (by kernel_rfl) (by kernel_rfl) (by kernel_rfl)

/-! ### impl_HighestOf -/
abbrev impl_HighestOf_ps : List (PV.Mode × Ty) := [(.ro, QILLI), (.ro, LI)]
abbrev impl_HighestOf_rs : List (Bool × Ty) := [(true, LI), (true, .bool)]
noncomputable def impl_HighestOf_G (N : Nat) : GTab := gOf [(21, impl_farthest_S N)]
theorem impl_HighestOf_gok (N : Nat) : GOk Tryz.prog (impl_HighestOf_G N) := gOf_ok ⟨impl_farthest_pc N, trivial⟩
noncomputable def impl_HighestOf_code : Code := (Tryz.f11.body).getD .skip
noncomputable def impl_HighestOf (N : Nat) (f : (Int × (List (List Int)))) (bits : (List Int)) : Option (((List Int) × Bool × Unit) × (Unit)) :=
  ((impl_farthest N (f.1, f.2) bits 0).bind fun r =>
    some ((r.1.1, r.1.2.1, ()), ()))
noncomputable def impl_HighestOf_S (N : Nat) : FSum := ⟨impl_HighestOf_ps, impl_HighestOf_rs, fun x => impl_HighestOf N x.1 x.2.1⟩
theorem impl_HighestOf_run (N : Nat) (x : argsT impl_HighestOf_ps) : impl_HighestOf N x.1 x.2.1 = funF (impl_HighestOf_G N) tab [] Tryz.f11 impl_HighestOf_ps impl_HighestOf_rs x := by kernel_rfl
theorem impl_HighestOf_pc (N : Nat) : PC Tryz.prog 11 (impl_HighestOf_S N) := by
  have e : impl_HighestOf_S N = ⟨impl_HighestOf_ps, impl_HighestOf_rs, funF (impl_HighestOf_G N) tab [] Tryz.f11 impl_HighestOf_ps impl_HighestOf_rs⟩ := congrArg (FSum.mk impl_HighestOf_ps impl_HighestOf_rs) (funext (impl_HighestOf_run N))
  rw [e]
  exact fun_ok (c := impl_HighestOf_code) progOk (impl_HighestOf_gok N) (draw_ok progOk (impl_HighestOf_gok N)) Tryz.call11 Tryz.func11 (by kernel_rfl) (lsOk_at (L := []) trivial) (by kernel_rfl) (by kernel_rfl) (by kernel_rfl) (by kernel_rfl) (by kernel_rfl)
end Go.Proofs.YtaodifjegdpifaaGreat
