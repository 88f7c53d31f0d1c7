/- Functions of the program as functions on data. -/
import Derived.Test.YtbnjcjpnpidhmaaGreatThresholdWayFa
set_option linter.all false
namespace Go.Proofs.YtbnjcjpnpidhmaaGreat
open Go Go.PV
/-! ### spec_l2Sorted -/
abbrev spec_l2Sorted_ps : List (PV.Mode × Ty) := [(.ro, LLI)]
abbrev spec_l2Sorted_rs : List (Bool × Ty) := [(false, LLI)]
noncomputable def spec_l2Sorted_G (N : Nat) : GTab := gOf [(297, spec_l2Before_S N), (135, spec_l1Own_ro_S N), (246, spec_l1Same_S N)]
theorem spec_l2Sorted_gok (N : Nat) : GOk Tryz.prog (spec_l2Sorted_G N) := gOf_ok ⟨spec_l2Before_pc N, spec_l1Own_ro_pc N, spec_l1Same_pc N, trivial⟩
noncomputable def spec_l2Sorted_code : Code := (Tryz.f237.body).getD .skip
noncomputable def spec_l2Sorted_l0_0_sh : Sh := ⟨[(0, .one (.ro LLI)), (3, .one (.ref 0)), (4, .one (.ro I)), (5, .one (.ro I))], [.sl 25 LI .own]⟩
noncomputable def spec_l2Sorted_l0_0_ex : List (Ex × Sh) := [(.exit 2, ⟨[(0, .one (.ro LLI)), (3, .one (.ref 0)), (4, .one (.ro I)), (5, .one (.ro I))], [.sl 25 LI .own]⟩)]
noncomputable def spec_l2Sorted_l0_0 {R : Type} (N : Nat) (k0 : (List (List Int)) → Int → Int → (List (List Int)) → Option R) : Nat → (List (List Int)) → Int → Int → (List (List Int)) → Option R
  | 0, _, _, _, _ => none
  | K + 1, states4, i3, kv1, o3 =>
    (br (ilt 0 kv1)
      ((chk (inb states4 i3)
        (chk (inb o3 (IntKind.i64.wrap (kv1 - 1)))
        ((spec_l2Before N (rdL states4 i3) (rdL o3 (IntKind.i64.wrap (kv1 - 1)))).bind fun r =>
        (br r.1.1
          (spec_l2Sorted_l0_0 N k0 K states4 i3 (IntKind.i64.wrap (kv1 - 1)) o3)
          (k0 states4 i3 kv1 o3))))))
      (k0 states4 i3 kv1 o3))
noncomputable def spec_l2Sorted_l0_0_again {R : Type} (N : Nat) (ks : (j : Nat) → ((spec_l2Sorted_l0_0_ex.getD j (.ret, Sh.none)).2).T → Option R) (k : Nat) (x : spec_l2Sorted_l0_0_sh.T) : Option R :=
  spec_l2Sorted_l0_0 N (fun y0 y1 y2 y3 => ks 0 ((y0, (), y1, y2, ()), (y3, ()))) k x.1.1 x.1.2.2.1 x.1.2.2.2.1 x.2.1
noncomputable def spec_l2Sorted_l0_0_s (N : Nat) : LSum := ⟨spec_l2Sorted_l0_0_sh, spec_l2Sorted_l0_0_ex, fun x ks => spec_l2Sorted_l0_0_again N ks N x⟩
theorem spec_l2Sorted_l0_0_step (N : Nat) (R : Type) (k : Nat) (x : spec_l2Sorted_l0_0_sh.T) (ks : (j : Nat) → ((spec_l2Sorted_l0_0_ex.getD j (.ret, Sh.none)).2).T → Option R) : spec_l2Sorted_l0_0_again N ks (k + 1) x = roundF (spec_l2Sorted_G N) tab [] (loopAt (loopAt spec_l2Sorted_code 0) 0) spec_l2Sorted_l0_0_sh spec_l2Sorted_l0_0_ex (fun y => spec_l2Sorted_l0_0_again N ks k y) ks x := by kernel_rfl
theorem spec_l2Sorted_l0_0_ok (N : Nat) : LoopOk Tryz.prog Tryz.f237.ntmps (spec_l2Sorted_l0_0_s N) (loopAt (loopAt spec_l2Sorted_code 0) 0) :=
  loop_ok (l := spec_l2Sorted_l0_0_s N) progOk (spec_l2Sorted_gok N) (draw_ok progOk (spec_l2Sorted_gok N)) (fun R k x ks => spec_l2Sorted_l0_0_again N ks k x) (fun _ _ _ => rfl) (fun R k x ks => spec_l2Sorted_l0_0_step N R k x ks) (fun R x ks r h => ⟨N, h⟩) (lsOk_at (L := []) trivial) (by kernel_rfl) (by kernel_rfl)
noncomputable def spec_l2Sorted_l0_sh : Sh := ⟨[(0, .one (.ro LLI)), (3, .one (.ref 0)), (4, .one (.ro I))], [.sl 25 LI .own]⟩
noncomputable def spec_l2Sorted_l0_ex : List (Ex × Sh) := [(.exit 0, ⟨[(3, .one (.ref 0))], [.sl 25 LI .own]⟩)]
noncomputable def spec_l2Sorted_l0 {R : Type} (N : Nat) (k0 : (List (List Int)) → Option R) : Nat → (List (List Int)) → Int → (List (List Int)) → Option R
  | 0, _, _, _ => none
  | K + 1, states3, i2, o2 =>
    (br (ilt i2 (tLen states3))
      (spec_l2Sorted_l0_0 N (fun states4 i3 kv1 o3 => (br (ieq kv1 0)
        ((chk (ile 0 0 && ile 0 kv1 && ile kv1 (tLen o3))
          (chk (room (α := (List Int)) (β := (List Int)) [] (tCut o3 0 kv1))
          (chk (inb states4 i3)
          ((spec_l1Own_ro N (rdL states4 i3)).bind fun r =>
          (chk (room (tApp [] (tCut o3 0 kv1)) [r.1.1])
            (chk (ile 0 kv1 && ile kv1 (tLen o3) && ile (tLen o3) (tLen o3))
            (chk (room (tApp (tApp [] (tCut o3 0 kv1)) [r.1.1]) (tCut o3 kv1 (tLen o3)))
            (spec_l2Sorted_l0 N k0 K states4 (IntKind.i64.wrap (i3 + 1)) (tApp (tApp (tApp [] (tCut o3 0 kv1)) [r.1.1]) (tCut o3 kv1 (tLen o3))))))))))))
        ((chk (inb o3 (IntKind.i64.wrap (kv1 - 1)))
          (chk (inb states4 i3)
          ((spec_l1Same N (rdL o3 (IntKind.i64.wrap (kv1 - 1))) (rdL states4 i3)).bind fun r1 =>
          (br (!r1.1.1)
            ((chk (ile 0 0 && ile 0 kv1 && ile kv1 (tLen o3))
              (chk (room (α := (List Int)) (β := (List Int)) [] (tCut o3 0 kv1))
              (chk (inb states4 i3)
              ((spec_l1Own_ro N (rdL states4 i3)).bind fun r2 =>
              (chk (room (tApp [] (tCut o3 0 kv1)) [r2.1.1])
                (chk (ile 0 kv1 && ile kv1 (tLen o3) && ile (tLen o3) (tLen o3))
                (chk (room (tApp (tApp [] (tCut o3 0 kv1)) [r2.1.1]) (tCut o3 kv1 (tLen o3)))
                (spec_l2Sorted_l0 N k0 K states4 (IntKind.i64.wrap (i3 + 1)) (tApp (tApp (tApp [] (tCut o3 0 kv1)) [r2.1.1]) (tCut o3 kv1 (tLen o3))))))))))))
            (spec_l2Sorted_l0 N k0 K states4 (IntKind.i64.wrap (i3 + 1)) o3)))))))) N states3 i2 (tLen o2) o2)
      (k0 o2))
noncomputable def spec_l2Sorted_l0_again {R : Type} (N : Nat) (ks : (j : Nat) → ((spec_l2Sorted_l0_ex.getD j (.ret, Sh.none)).2).T → Option R) (k : Nat) (x : spec_l2Sorted_l0_sh.T) : Option R :=
  spec_l2Sorted_l0 N (fun y0 => ks 0 (((), ()), (y0, ()))) k x.1.1 x.1.2.2.1 x.2.1
noncomputable def spec_l2Sorted_l0_s (N : Nat) : LSum := ⟨spec_l2Sorted_l0_sh, spec_l2Sorted_l0_ex, fun x ks => spec_l2Sorted_l0_again N ks N x⟩
theorem spec_l2Sorted_l0_step (N : Nat) (R : Type) (k : Nat) (x : spec_l2Sorted_l0_sh.T) (ks : (j : Nat) → ((spec_l2Sorted_l0_ex.getD j (.ret, Sh.none)).2).T → Option R) : spec_l2Sorted_l0_again N ks (k + 1) x = roundF (spec_l2Sorted_G N) tab [spec_l2Sorted_l0_0_s N] (loopAt spec_l2Sorted_code 0) spec_l2Sorted_l0_sh spec_l2Sorted_l0_ex (fun y => spec_l2Sorted_l0_again N ks k y) ks x := by kernel_rfl
theorem spec_l2Sorted_l0_ok (N : Nat) : LoopOk Tryz.prog Tryz.f237.ntmps (spec_l2Sorted_l0_s N) (loopAt spec_l2Sorted_code 0) :=
  loop_ok (l := spec_l2Sorted_l0_s N) progOk (spec_l2Sorted_gok N) (draw_ok progOk (spec_l2Sorted_gok N)) (fun R k x ks => spec_l2Sorted_l0_again N ks k x) (fun _ _ _ => rfl) (fun R k x ks => spec_l2Sorted_l0_step N R k x ks) (fun R x ks r h => ⟨N, h⟩) (lsOk_at (L := [spec_l2Sorted_l0_0_s N]) ⟨spec_l2Sorted_l0_0_ok N, trivial⟩) (by kernel_rfl) (by kernel_rfl)
noncomputable def spec_l2Sorted (N : Nat) (states : (List (List Int))) : Option (((List (List Int)) × Unit) × (Unit)) :=
  spec_l2Sorted_l0 N (fun o2 => some ((o2, ()), ())) N states 0 []
noncomputable def spec_l2Sorted_S (N : Nat) : FSum := ⟨spec_l2Sorted_ps, spec_l2Sorted_rs, fun x => spec_l2Sorted N x.1⟩
theorem spec_l2Sorted_run (N : Nat) (x : argsT spec_l2Sorted_ps) : spec_l2Sorted N x.1 = funF (spec_l2Sorted_G N) tab [spec_l2Sorted_l0_s N] Tryz.f237 spec_l2Sorted_ps spec_l2Sorted_rs x := by kernel_rfl
theorem spec_l2Sorted_pc (N : Nat) : PC Tryz.prog 237 (spec_l2Sorted_S N) := by
  have e : spec_l2Sorted_S N = ⟨spec_l2Sorted_ps, spec_l2Sorted_rs, funF (spec_l2Sorted_G N) tab [spec_l2Sorted_l0_s N] Tryz.f237 spec_l2Sorted_ps spec_l2Sorted_rs⟩ := congrArg (FSum.mk spec_l2Sorted_ps spec_l2Sorted_rs) (funext (spec_l2Sorted_run N))
  rw [e]
  exact fun_ok (c := spec_l2Sorted_code) progOk (spec_l2Sorted_gok N) (draw_ok progOk (spec_l2Sorted_gok N)) Tryz.call237 Tryz.func237 (by kernel_rfl) (lsOk_at (L := [spec_l2Sorted_l0_s N]) ⟨spec_l2Sorted_l0_ok N, trivial⟩) (by kernel_rfl) (by kernel_rfl) (by kernel_rfl) (by kernel_rfl) (by kernel_rfl)

/-! ### spec_l4Sets -/
abbrev spec_l4Sets_ps : List (PV.Mode × Ty) := [(.ro, QILQII), (.ro, I)]
abbrev spec_l4Sets_rs : List (Bool × Ty) := [(false, LLI)]
noncomputable def spec_l4Sets_G (N : Nat) : GTab := gOf [(236, spec_l2Bits_S N), (131, spec_l4Has_S N), (237, spec_l2Sorted_S N)]
theorem spec_l4Sets_gok (N : Nat) : GOk Tryz.prog (spec_l4Sets_G N) := gOf_ok ⟨spec_l2Bits_pc N, spec_l4Has_pc N, spec_l2Sorted_pc N, trivial⟩
noncomputable def spec_l4Sets_code : Code := (Tryz.f141.body).getD .skip
noncomputable def spec_l4Sets_l0_0_sh : Sh := ⟨[(1, .one (.ro I)), (2, .one (.adr 0 0)), (5, .one (.ref 1)), (6, .one (.ro I)), (7, .one (.ref 2)), (8, .one (.ro I))], [.box [.ro I, .ro LQII], .sl 25 LI .own, .sl 25 LI .deep]⟩
noncomputable def spec_l4Sets_l0_0_ex : List (Ex × Sh) := [(.exit 2, ⟨[(1, .one (.ro I)), (2, .one (.adr 0 0)), (5, .one (.ref 1)), (6, .one (.ro I)), (7, .one (.ref 2))], [.box [.ro I, .ro LQII], .sl 25 LI .own, .sl 25 LI .deep]⟩)]
noncomputable def spec_l4Sets_l0_0 {R : Type} (N : Nat) (k0 : Int → Int → Int → (List (Int × Int)) → (List (List Int)) → (List (List Int)) → Option R) : Nat → Int → Int → Int → Int → (List (Int × Int)) → (List (List Int)) → (List (List Int)) → Option R
  | 0, _, _, _, _, _, _, _ => none
  | K + 1, kind4, size3, code, o10, o11, o12, o13 =>
    (chk (ile 0 o10)
      (br (ilt code (shlI .i64 1 o10))
      (((spec_l2Bits N o10 code).bind fun r1 =>
        (br (ieq (tLen r1.1.1) size3)
          (((spec_l4Has N (o10, o11) kind4 r1.1.1).bind fun r2 =>
            (br r2.1.1
              ((chk (room o13 [r1.1.1])
                (spec_l4Sets_l0_0 N k0 K kind4 size3 (IntKind.i64.wrap (code + 1)) o10 o11 o12 (tApp o13 [r1.1.1]))))
              (spec_l4Sets_l0_0 N k0 K kind4 size3 (IntKind.i64.wrap (code + 1)) o10 o11 o12 o13))))
          (spec_l4Sets_l0_0 N k0 K kind4 size3 (IntKind.i64.wrap (code + 1)) o10 o11 o12 o13))))
      (k0 kind4 size3 o10 o11 o12 o13)))
noncomputable def spec_l4Sets_l0_0_again {R : Type} (N : Nat) (ks : (j : Nat) → ((spec_l4Sets_l0_0_ex.getD j (.ret, Sh.none)).2).T → Option R) (k : Nat) (x : spec_l4Sets_l0_0_sh.T) : Option R :=
  spec_l4Sets_l0_0 N (fun y0 y1 y2 y3 y4 y5 => ks 0 ((y0, (), (), y1, (), ()), ((y2, y3, ()), y4, y5, ()))) k x.1.1 x.1.2.2.2.1 x.1.2.2.2.2.2.1 x.2.1.1 x.2.1.2.1 x.2.2.1 x.2.2.2.1
noncomputable def spec_l4Sets_l0_0_s (N : Nat) : LSum := ⟨spec_l4Sets_l0_0_sh, spec_l4Sets_l0_0_ex, fun x ks => spec_l4Sets_l0_0_again N ks N x⟩
theorem spec_l4Sets_l0_0_step (N : Nat) (R : Type) (k : Nat) (x : spec_l4Sets_l0_0_sh.T) (ks : (j : Nat) → ((spec_l4Sets_l0_0_ex.getD j (.ret, Sh.none)).2).T → Option R) : spec_l4Sets_l0_0_again N ks (k + 1) x = roundF (spec_l4Sets_G N) tab [] (loopAt (loopAt spec_l4Sets_code 0) 0) spec_l4Sets_l0_0_sh spec_l4Sets_l0_0_ex (fun y => spec_l4Sets_l0_0_again N ks k y) ks x := by kernel_rfl
theorem spec_l4Sets_l0_0_ok (N : Nat) : LoopOk Tryz.prog Tryz.f141.ntmps (spec_l4Sets_l0_0_s N) (loopAt (loopAt spec_l4Sets_code 0) 0) :=
  loop_ok (l := spec_l4Sets_l0_0_s N) progOk (spec_l4Sets_gok N) (draw_ok progOk (spec_l4Sets_gok N)) (fun R k x ks => spec_l4Sets_l0_0_again N ks k x) (fun _ _ _ => rfl) (fun R k x ks => spec_l4Sets_l0_0_step N R k x ks) (fun R x ks r h => ⟨N, h⟩) (lsOk_at (L := []) trivial) (by kernel_rfl) (by kernel_rfl)
noncomputable def spec_l4Sets_l0_sh : Sh := ⟨[(1, .one (.ro I)), (2, .one (.adr 0 0)), (5, .one (.ref 1)), (6, .one (.ro I))], [.box [.ro I, .ro LQII], .sl 25 LI .own]⟩
noncomputable def spec_l4Sets_l0_ex : List (Ex × Sh) := [(.exit 0, ⟨[(5, .one (.ref 0))], [.sl 25 LI .own]⟩)]
noncomputable def spec_l4Sets_l0 {R : Type} (N : Nat) (k0 : (List (List Int)) → Option R) : Nat → Int → Int → Int → (List (Int × Int)) → (List (List Int)) → Option R
  | 0, _, _, _, _, _ => none
  | K + 1, kind3, size2, o7, o8, o9 =>
    (br (ile size2 o7)
      (spec_l4Sets_l0_0 N (fun kind4 size3 o10 o11 o12 o13 => ((spec_l2Sorted N o13).bind fun r1 =>
        (chk (room o12 r1.1.1)
          (spec_l4Sets_l0 N k0 K kind4 (IntKind.i64.wrap (size3 + 1)) o10 o11 (tApp o12 r1.1.1))))) N kind3 size2 0 o7 o8 o9 [])
      (k0 o9))
noncomputable def spec_l4Sets_l0_again {R : Type} (N : Nat) (ks : (j : Nat) → ((spec_l4Sets_l0_ex.getD j (.ret, Sh.none)).2).T → Option R) (k : Nat) (x : spec_l4Sets_l0_sh.T) : Option R :=
  spec_l4Sets_l0 N (fun y0 => ks 0 (((), ()), (y0, ()))) k x.1.1 x.1.2.2.2.1 x.2.1.1 x.2.1.2.1 x.2.2.1
noncomputable def spec_l4Sets_l0_s (N : Nat) : LSum := ⟨spec_l4Sets_l0_sh, spec_l4Sets_l0_ex, fun x ks => spec_l4Sets_l0_again N ks N x⟩
theorem spec_l4Sets_l0_step (N : Nat) (R : Type) (k : Nat) (x : spec_l4Sets_l0_sh.T) (ks : (j : Nat) → ((spec_l4Sets_l0_ex.getD j (.ret, Sh.none)).2).T → Option R) : spec_l4Sets_l0_again N ks (k + 1) x = roundF (spec_l4Sets_G N) tab [spec_l4Sets_l0_0_s N] (loopAt spec_l4Sets_code 0) spec_l4Sets_l0_sh spec_l4Sets_l0_ex (fun y => spec_l4Sets_l0_again N ks k y) ks x := by kernel_rfl
theorem spec_l4Sets_l0_ok (N : Nat) : LoopOk Tryz.prog Tryz.f141.ntmps (spec_l4Sets_l0_s N) (loopAt spec_l4Sets_code 0) :=
  loop_ok (l := spec_l4Sets_l0_s N) progOk (spec_l4Sets_gok N) (draw_ok progOk (spec_l4Sets_gok N)) (fun R k x ks => spec_l4Sets_l0_again N ks k x) (fun _ _ _ => rfl) (fun R k x ks => spec_l4Sets_l0_step N R k x ks) (fun R x ks r h => ⟨N, h⟩) (lsOk_at (L := [spec_l4Sets_l0_0_s N]) ⟨spec_l4Sets_l0_0_ok N, trivial⟩) (by kernel_rfl) (by kernel_rfl)
noncomputable def spec_l4Sets (N : Nat) (g : (Int × (List (Int × Int)))) (kind : Int) : Option (((List (List Int)) × Unit) × (Unit)) :=
  spec_l4Sets_l0 N (fun o7 => some ((o7, ()), ())) N kind 0 g.1 g.2 []
noncomputable def spec_l4Sets_S (N : Nat) : FSum := ⟨spec_l4Sets_ps, spec_l4Sets_rs, fun x => spec_l4Sets N x.1 x.2.1⟩
theorem spec_l4Sets_run (N : Nat) (x : argsT spec_l4Sets_ps) : spec_l4Sets N x.1 x.2.1 = funF (spec_l4Sets_G N) tab [spec_l4Sets_l0_s N] Tryz.f141 spec_l4Sets_ps spec_l4Sets_rs x := by kernel_rfl
theorem spec_l4Sets_pc (N : Nat) : PC Tryz.prog 141 (spec_l4Sets_S N) := by
  have e : spec_l4Sets_S N = ⟨spec_l4Sets_ps, spec_l4Sets_rs, funF (spec_l4Sets_G N) tab [spec_l4Sets_l0_s N] Tryz.f141 spec_l4Sets_ps spec_l4Sets_rs⟩ := congrArg (FSum.mk spec_l4Sets_ps spec_l4Sets_rs) (funext (spec_l4Sets_run N))
  rw [e]
  exact fun_ok (c := spec_l4Sets_code) progOk (spec_l4Sets_gok N) (draw_ok progOk (spec_l4Sets_gok N)) Tryz.call141 Tryz.func141 (by kernel_rfl) (lsOk_at (L := [spec_l4Sets_l0_s N]) ⟨spec_l4Sets_l0_ok N, trivial⟩) (by kernel_rfl) (by kernel_rfl) (by kernel_rfl) (by kernel_rfl) (by kernel_rfl)

/-! ### spec_l4Fits -/
abbrev spec_l4Fits_ps : List (PV.Mode × Ty) := [(.ro, I), (.ro, I), (.ro, I)]
abbrev spec_l4Fits_rs : List (Bool × Ty) := [(true, .bool)]
noncomputable def spec_l4Fits_G (N : Nat) : GTab := gOf []
theorem spec_l4Fits_gok (N : Nat) : GOk Tryz.prog (spec_l4Fits_G N) := gOf_ok trivial
noncomputable def spec_l4Fits_code : Code := (Tryz.f259.body).getD .skip
noncomputable def spec_l4Fits (N : Nat) (kind : Int) (size : Int) (kv : Int) : Option ((Bool × Unit) × (Unit)) :=
  (br (ieq kind 2)
    (some (((ile kv size), ()), ()))
    (some (((ile size kv), ()), ())))
noncomputable def spec_l4Fits_S (N : Nat) : FSum := ⟨spec_l4Fits_ps, spec_l4Fits_rs, fun x => spec_l4Fits N x.1 x.2.1 x.2.2.1⟩
theorem spec_l4Fits_run (N : Nat) (x : argsT spec_l4Fits_ps) : spec_l4Fits N x.1 x.2.1 x.2.2.1 = funF (spec_l4Fits_G N) tab [] Tryz.f259 spec_l4Fits_ps spec_l4Fits_rs x := by kernel_rfl
theorem spec_l4Fits_pc (N : Nat) : PC Tryz.prog 259 (spec_l4Fits_S N) := by
  have e : spec_l4Fits_S N = ⟨spec_l4Fits_ps, spec_l4Fits_rs, funF (spec_l4Fits_G N) tab [] Tryz.f259 spec_l4Fits_ps spec_l4Fits_rs⟩ := congrArg (FSum.mk spec_l4Fits_ps spec_l4Fits_rs) (funext (spec_l4Fits_run N))
  rw [e]
  exact fun_ok (c := spec_l4Fits_code) progOk (spec_l4Fits_gok N) (draw_ok progOk (spec_l4Fits_gok N)) Tryz.call259 Tryz.func259 (by kernel_rfl) (lsOk_at (L := []) trivial) (by kernel_rfl) (by kernel_rfl) (by kernel_rfl) (by kernel_rfl) (by kernel_rfl)

/-! ### spec_l4Without -/
abbrev spec_l4Without_ps : List (PV.Mode × Ty) := [(.ro, LI), (.ro, I)]
abbrev spec_l4Without_rs : List (Bool × Ty) := [(true, LI)]
noncomputable def spec_l4Without_G (N : Nat) : GTab := gOf []
theorem spec_l4Without_gok (N : Nat) : GOk Tryz.prog (spec_l4Without_G N) := gOf_ok trivial
noncomputable def spec_l4Without_code : Code := (Tryz.f230.body).getD .skip
noncomputable def spec_l4Without_l0_sh : Sh := ⟨[(0, .one (.ro LI)), (1, .one (.ro I)), (5, .one (.ref 0)), (6, .one (.ro I))], [.sl 3 I .own]⟩
noncomputable def spec_l4Without_l0_ex : List (Ex × Sh) := [(.exit 0, ⟨[(5, .one (.ref 0))], [.sl 3 I .own]⟩)]
noncomputable def spec_l4Without_l0 {R : Type} (N : Nat) (k0 : (List Int) → Option R) : Nat → (List Int) → Int → Int → (List Int) → Option R
  | 0, _, _, _, _ => none
  | K + 1, setv1, x1, i, o =>
    (br (ilt i (tLen setv1))
      ((chk (inb setv1 i)
        (br (ine (rdI setv1 i) x1)
        ((chk (inb setv1 i)
          (chk (room o [(rdI setv1 i)])
          (spec_l4Without_l0 N k0 K setv1 x1 (IntKind.i64.wrap (i + 1)) (tApp o [(rdI setv1 i)])))))
        (spec_l4Without_l0 N k0 K setv1 x1 (IntKind.i64.wrap (i + 1)) o))))
      (k0 o))
noncomputable def spec_l4Without_l0_again {R : Type} (N : Nat) (ks : (j : Nat) → ((spec_l4Without_l0_ex.getD j (.ret, Sh.none)).2).T → Option R) (k : Nat) (x : spec_l4Without_l0_sh.T) : Option R :=
  spec_l4Without_l0 N (fun y0 => ks 0 (((), ()), (y0, ()))) k x.1.1 x.1.2.1 x.1.2.2.2.1 x.2.1
noncomputable def spec_l4Without_l0_s (N : Nat) : LSum := ⟨spec_l4Without_l0_sh, spec_l4Without_l0_ex, fun x ks => spec_l4Without_l0_again N ks N x⟩
theorem spec_l4Without_l0_step (N : Nat) (R : Type) (k : Nat) (x : spec_l4Without_l0_sh.T) (ks : (j : Nat) → ((spec_l4Without_l0_ex.getD j (.ret, Sh.none)).2).T → Option R) : spec_l4Without_l0_again N ks (k + 1) x = roundF (spec_l4Without_G N) tab [] (loopAt spec_l4Without_code 0) spec_l4Without_l0_sh spec_l4Without_l0_ex (fun y => spec_l4Without_l0_again N ks k y) ks x := by kernel_rfl
theorem spec_l4Without_l0_ok (N : Nat) : LoopOk Tryz.prog Tryz.f230.ntmps (spec_l4Without_l0_s N) (loopAt spec_l4Without_code 0) :=
  loop_ok (l := spec_l4Without_l0_s N) progOk (spec_l4Without_gok N) (draw_ok progOk (spec_l4Without_gok N)) (fun R k x ks => spec_l4Without_l0_again N ks k x) (fun _ _ _ => rfl) (fun R k x ks => spec_l4Without_l0_step N R k x ks) (fun R x ks r h => ⟨N, h⟩) (lsOk_at (L := []) trivial) (by kernel_rfl) (by kernel_rfl)
noncomputable def spec_l4Without (N : Nat) (setv : (List Int)) (x : Int) : Option (((List Int) × Unit) × (Unit)) :=
  spec_l4Without_l0 N (fun o => some ((o, ()), ())) N setv x 0 []
noncomputable def spec_l4Without_S (N : Nat) : FSum := ⟨spec_l4Without_ps, spec_l4Without_rs, fun x => spec_l4Without N x.1 x.2.1⟩
theorem spec_l4Without_run (N : Nat) (x : argsT spec_l4Without_ps) : spec_l4Without N x.1 x.2.1 = funF (spec_l4Without_G N) tab [spec_l4Without_l0_s N] Tryz.f230 spec_l4Without_ps spec_l4Without_rs x := by kernel_rfl
theorem spec_l4Without_pc (N : Nat) : PC Tryz.prog 230 (spec_l4Without_S N) := by
  have e : spec_l4Without_S N = ⟨spec_l4Without_ps, spec_l4Without_rs, funF (spec_l4Without_G N) tab [spec_l4Without_l0_s N] Tryz.f230 spec_l4Without_ps spec_l4Without_rs⟩ := congrArg (FSum.mk spec_l4Without_ps spec_l4Without_rs) (funext (spec_l4Without_run N))
  rw [e]
  exact fun_ok (c := spec_l4Without_code) progOk (spec_l4Without_gok N) (draw_ok progOk (spec_l4Without_gok N)) Tryz.call230 Tryz.func230 (by kernel_rfl) (lsOk_at (L := [spec_l4Without_l0_s N]) ⟨spec_l4Without_l0_ok N, trivial⟩) (by kernel_rfl) (by kernel_rfl) (by kernel_rfl) (by kernel_rfl) (by kernel_rfl)

/-! ### spec_l1Put_ro0_ro -/
abbrev spec_l1Put_ro0_ro_ps : List (PV.Mode × Ty) := [(.ro, LI), (.ro, I)]
abbrev spec_l1Put_ro0_ro_rs : List (Bool × Ty) := [(false, LI)]
noncomputable def spec_l1Put_ro0_ro_G (N : Nat) : GTab := gOf []
theorem spec_l1Put_ro0_ro_gok (N : Nat) : GOk Tryz.prog (spec_l1Put_ro0_ro_G N) := gOf_ok trivial
noncomputable def spec_l1Put_ro0_ro_code : Code := (Tryz.f231.body).getD .skip
noncomputable def spec_l1Put_ro0_ro_l0_sh : Sh := ⟨[(0, .one (.ro LI)), (1, .one (.ro I)), (5, .one (.ro I))], []⟩
noncomputable def spec_l1Put_ro0_ro_l0_ex : List (Ex × Sh) := [(.exit 0, ⟨[(0, .one (.ro LI)), (1, .one (.ro I)), (5, .one (.ro I))], []⟩)]
noncomputable def spec_l1Put_ro0_ro_l0 {R : Type} (N : Nat) (k0 : (List Int) → Int → Int → Option R) : Nat → (List Int) → Int → Int → Option R
  | 0, _, _, _ => none
  | K + 1, l1, n1, kv =>
    (br (ilt kv (tLen l1))
      ((chk (inb l1 kv)
        (br (ilt (rdI l1 kv) n1)
        (spec_l1Put_ro0_ro_l0 N k0 K l1 n1 (IntKind.i64.wrap (kv + 1)))
        (k0 l1 n1 kv))))
      (k0 l1 n1 kv))
noncomputable def spec_l1Put_ro0_ro_l0_again {R : Type} (N : Nat) (ks : (j : Nat) → ((spec_l1Put_ro0_ro_l0_ex.getD j (.ret, Sh.none)).2).T → Option R) (k : Nat) (x : spec_l1Put_ro0_ro_l0_sh.T) : Option R :=
  spec_l1Put_ro0_ro_l0 N (fun y0 y1 y2 => ks 0 ((y0, y1, y2, ()), ())) k x.1.1 x.1.2.1 x.1.2.2.1
noncomputable def spec_l1Put_ro0_ro_l0_s (N : Nat) : LSum := ⟨spec_l1Put_ro0_ro_l0_sh, spec_l1Put_ro0_ro_l0_ex, fun x ks => spec_l1Put_ro0_ro_l0_again N ks N x⟩
theorem spec_l1Put_ro0_ro_l0_step (N : Nat) (R : Type) (k : Nat) (x : spec_l1Put_ro0_ro_l0_sh.T) (ks : (j : Nat) → ((spec_l1Put_ro0_ro_l0_ex.getD j (.ret, Sh.none)).2).T → Option R) : spec_l1Put_ro0_ro_l0_again N ks (k + 1) x = roundF (spec_l1Put_ro0_ro_G N) tab [] (loopAt spec_l1Put_ro0_ro_code 0) spec_l1Put_ro0_ro_l0_sh spec_l1Put_ro0_ro_l0_ex (fun y => spec_l1Put_ro0_ro_l0_again N ks k y) ks x := by kernel_rfl
theorem spec_l1Put_ro0_ro_l0_ok (N : Nat) : LoopOk Tryz.prog Tryz.f231.ntmps (spec_l1Put_ro0_ro_l0_s N) (loopAt spec_l1Put_ro0_ro_code 0) :=
  loop_ok (l := spec_l1Put_ro0_ro_l0_s N) progOk (spec_l1Put_ro0_ro_gok N) (draw_ok progOk (spec_l1Put_ro0_ro_gok N)) (fun R k x ks => spec_l1Put_ro0_ro_l0_again N ks k x) (fun _ _ _ => rfl) (fun R k x ks => spec_l1Put_ro0_ro_l0_step N R k x ks) (fun R x ks r h => ⟨N, h⟩) (lsOk_at (L := []) trivial) (by kernel_rfl) (by kernel_rfl)
noncomputable def spec_l1Put_ro0_ro (N : Nat) (l : (List Int)) (n : Int) : Option (((List Int) × Unit) × (Unit)) :=
  spec_l1Put_ro0_ro_l0 N (fun l1 n1 kv => (br (ilt kv (tLen l1))
    ((chk (inb l1 kv)
      (br (ieq (rdI l1 kv) n1)
      (some ((l1, ()), ()))
      ((chk (ile 0 0 && ile 0 kv && ile kv (tLen l1))
        (chk (room (α := Int) (β := Int) [] (tCut l1 0 kv))
        (chk (room (tApp [] (tCut l1 0 kv)) [n1])
        (chk (ile 0 kv && ile kv (tLen l1) && ile (tLen l1) (tLen l1))
        (chk (room (tApp (tApp [] (tCut l1 0 kv)) [n1]) (tCut l1 kv (tLen l1)))
        (some (((tApp (tApp (tApp [] (tCut l1 0 kv)) [n1]) (tCut l1 kv (tLen l1))), ()), ())))))))))))
    ((chk (ile 0 0 && ile 0 kv && ile kv (tLen l1))
      (chk (room (α := Int) (β := Int) [] (tCut l1 0 kv))
      (chk (room (tApp [] (tCut l1 0 kv)) [n1])
      (chk (ile 0 kv && ile kv (tLen l1) && ile (tLen l1) (tLen l1))
      (chk (room (tApp (tApp [] (tCut l1 0 kv)) [n1]) (tCut l1 kv (tLen l1)))
      (some (((tApp (tApp (tApp [] (tCut l1 0 kv)) [n1]) (tCut l1 kv (tLen l1))), ()), ())))))))))) N l n 0
noncomputable def spec_l1Put_ro0_ro_S (N : Nat) : FSum := ⟨spec_l1Put_ro0_ro_ps, spec_l1Put_ro0_ro_rs, fun x => spec_l1Put_ro0_ro N x.1 x.2.1⟩
theorem spec_l1Put_ro0_ro_run (N : Nat) (x : argsT spec_l1Put_ro0_ro_ps) : spec_l1Put_ro0_ro N x.1 x.2.1 = funF (spec_l1Put_ro0_ro_G N) tab [spec_l1Put_ro0_ro_l0_s N] Tryz.f231 spec_l1Put_ro0_ro_ps spec_l1Put_ro0_ro_rs x := by kernel_rfl
theorem spec_l1Put_ro0_ro_pc (N : Nat) : PC Tryz.prog 231 (spec_l1Put_ro0_ro_S N) := by
  have e : spec_l1Put_ro0_ro_S N = ⟨spec_l1Put_ro0_ro_ps, spec_l1Put_ro0_ro_rs, funF (spec_l1Put_ro0_ro_G N) tab [spec_l1Put_ro0_ro_l0_s N] Tryz.f231 spec_l1Put_ro0_ro_ps spec_l1Put_ro0_ro_rs⟩ := congrArg (FSum.mk spec_l1Put_ro0_ro_ps spec_l1Put_ro0_ro_rs) (funext (spec_l1Put_ro0_ro_run N))
  rw [e]
  exact fun_ok (c := spec_l1Put_ro0_ro_code) progOk (spec_l1Put_ro0_ro_gok N) (draw_ok progOk (spec_l1Put_ro0_ro_gok N)) Tryz.call231 Tryz.func231 (by kernel_rfl) (lsOk_at (L := [spec_l1Put_ro0_ro_l0_s N]) ⟨spec_l1Put_ro0_ro_l0_ok N, trivial⟩) (by kernel_rfl) (by kernel_rfl) (by kernel_rfl) (by kernel_rfl) (by kernel_rfl)

/-! ### spec_l4Turned -/
abbrev spec_l4Turned_ps : List (PV.Mode × Ty) := [(.ro, LI), (.ro, I)]
abbrev spec_l4Turned_rs : List (Bool × Ty) := [(false, LI)]
noncomputable def spec_l4Turned_G (N : Nat) : GTab := gOf [(136, spec_l1Has_S N), (230, spec_l4Without_S N), (231, spec_l1Put_ro0_ro_S N)]
theorem spec_l4Turned_gok (N : Nat) : GOk Tryz.prog (spec_l4Turned_G N) := gOf_ok ⟨spec_l1Has_pc N, spec_l4Without_pc N, spec_l1Put_ro0_ro_pc N, trivial⟩
noncomputable def spec_l4Turned_code : Code := (Tryz.f132.body).getD .skip
noncomputable def spec_l4Turned (N : Nat) (setv : (List Int)) (x : Int) : Option (((List Int) × Unit) × (Unit)) :=
  ((spec_l1Has N setv x).bind fun r =>
    (br r.1.1
      (((spec_l4Without N setv x).bind fun r1 =>
        some ((r1.1.1, ()), ())))
      (((spec_l1Put_ro0_ro N setv x).bind fun r2 =>
        some ((r2.1.1, ()), ())))))
noncomputable def spec_l4Turned_S (N : Nat) : FSum := ⟨spec_l4Turned_ps, spec_l4Turned_rs, fun x => spec_l4Turned N x.1 x.2.1⟩
theorem spec_l4Turned_run (N : Nat) (x : argsT spec_l4Turned_ps) : spec_l4Turned N x.1 x.2.1 = funF (spec_l4Turned_G N) tab [] Tryz.f132 spec_l4Turned_ps spec_l4Turned_rs x := by kernel_rfl
theorem spec_l4Turned_pc (N : Nat) : PC Tryz.prog 132 (spec_l4Turned_S N) := by
  have e : spec_l4Turned_S N = ⟨spec_l4Turned_ps, spec_l4Turned_rs, funF (spec_l4Turned_G N) tab [] Tryz.f132 spec_l4Turned_ps spec_l4Turned_rs⟩ := congrArg (FSum.mk spec_l4Turned_ps spec_l4Turned_rs) (funext (spec_l4Turned_run N))
  rw [e]
  exact fun_ok (c := spec_l4Turned_code) progOk (spec_l4Turned_gok N) (draw_ok progOk (spec_l4Turned_gok N)) Tryz.call132 Tryz.func132 (by kernel_rfl) (lsOk_at (L := []) trivial) (by kernel_rfl) (by kernel_rfl) (by kernel_rfl) (by kernel_rfl) (by kernel_rfl)

/-! ### spec_l2Index -/
abbrev spec_l2Index_ps : List (PV.Mode × Ty) := [(.ro, QLLILQII), (.ro, LI)]
abbrev spec_l2Index_rs : List (Bool × Ty) := [(true, I)]
noncomputable def spec_l2Index_G (N : Nat) : GTab := gOf [(246, spec_l1Same_S N)]
theorem spec_l2Index_gok (N : Nat) : GOk Tryz.prog (spec_l2Index_G N) := gOf_ok ⟨spec_l1Same_pc N, trivial⟩
noncomputable def spec_l2Index_code : Code := (Tryz.f155.body).getD .skip
noncomputable def spec_l2Index_l0_sh : Sh := ⟨[(1, .one (.ro LI)), (2, .one (.adr 0 0)), (5, .one (.ro I))], [.box [.ro LLI, .ro LQII]]⟩
noncomputable def spec_l2Index_l0_ex : List (Ex × Sh) := [(.ret, ⟨[(4, .one (.ro I))], []⟩), (.exit 0, ⟨[], []⟩)]
noncomputable def spec_l2Index_l0 {R : Type} (N : Nat) (k0 : Int → Option R) (k1 : Unit → Option R) : Nat → (List Int) → Int → (List (List Int)) → (List (Int × Int)) → Option R
  | 0, _, _, _, _ => none
  | K + 1, state1, i, o, o1 =>
    (br (ilt i (tLen o))
      ((chk (inb o i)
        ((spec_l1Same N (rdL o i) state1).bind fun r =>
        (br r.1.1
          (k0 i)
          (spec_l2Index_l0 N k0 k1 K state1 (IntKind.i64.wrap (i + 1)) o o1)))))
      (k1 ()))
noncomputable def spec_l2Index_l0_again {R : Type} (N : Nat) (ks : (j : Nat) → ((spec_l2Index_l0_ex.getD j (.ret, Sh.none)).2).T → Option R) (k : Nat) (x : spec_l2Index_l0_sh.T) : Option R :=
  spec_l2Index_l0 N (fun y0 => ks 0 ((y0, ()), ())) (fun (_ : Unit) => ks 1 ((), ())) k x.1.1 x.1.2.2.1 x.2.1.1 x.2.1.2.1
noncomputable def spec_l2Index_l0_s (N : Nat) : LSum := ⟨spec_l2Index_l0_sh, spec_l2Index_l0_ex, fun x ks => spec_l2Index_l0_again N ks N x⟩
theorem spec_l2Index_l0_step (N : Nat) (R : Type) (k : Nat) (x : spec_l2Index_l0_sh.T) (ks : (j : Nat) → ((spec_l2Index_l0_ex.getD j (.ret, Sh.none)).2).T → Option R) : spec_l2Index_l0_again N ks (k + 1) x = roundF (spec_l2Index_G N) tab [] (loopAt spec_l2Index_code 0) spec_l2Index_l0_sh spec_l2Index_l0_ex (fun y => spec_l2Index_l0_again N ks k y) ks x := by kernel_rfl
theorem spec_l2Index_l0_ok (N : Nat) : LoopOk Tryz.prog Tryz.f155.ntmps (spec_l2Index_l0_s N) (loopAt spec_l2Index_code 0) :=
  loop_ok (l := spec_l2Index_l0_s N) progOk (spec_l2Index_gok N) (draw_ok progOk (spec_l2Index_gok N)) (fun R k x ks => spec_l2Index_l0_again N ks k x) (fun _ _ _ => rfl) (fun R k x ks => spec_l2Index_l0_step N R k x ks) (fun R x ks r h => ⟨N, h⟩) (lsOk_at (L := []) trivial) (by kernel_rfl) (by kernel_rfl)
noncomputable def spec_l2Index (N : Nat) (x : ((List (List Int)) × (List (Int × Int)))) (state : (List Int)) : Option ((Int × Unit) × (Unit)) :=
  spec_l2Index_l0 N (fun x1 => some ((x1, ()), ())) (fun (_ : Unit) => some (((-1), ()), ())) N state 0 x.1 x.2
noncomputable def spec_l2Index_S (N : Nat) : FSum := ⟨spec_l2Index_ps, spec_l2Index_rs, fun x => spec_l2Index N x.1 x.2.1⟩
theorem spec_l2Index_run (N : Nat) (x : argsT spec_l2Index_ps) : spec_l2Index N x.1 x.2.1 = funF (spec_l2Index_G N) tab [spec_l2Index_l0_s N] Tryz.f155 spec_l2Index_ps spec_l2Index_rs x := by kernel_rfl
theorem spec_l2Index_pc (N : Nat) : PC Tryz.prog 155 (spec_l2Index_S N) := by
  have e : spec_l2Index_S N = ⟨spec_l2Index_ps, spec_l2Index_rs, funF (spec_l2Index_G N) tab [spec_l2Index_l0_s N] Tryz.f155 spec_l2Index_ps spec_l2Index_rs⟩ := congrArg (FSum.mk spec_l2Index_ps spec_l2Index_rs) (funext (spec_l2Index_run N))
  rw [e]
  exact fun_ok (c := spec_l2Index_code) progOk (spec_l2Index_gok N) (draw_ok progOk (spec_l2Index_gok N)) Tryz.call155 Tryz.func155 (by kernel_rfl) (lsOk_at (L := [spec_l2Index_l0_s N]) ⟨spec_l2Index_l0_ok N, trivial⟩) (by kernel_rfl) (by kernel_rfl) (by kernel_rfl) (by kernel_rfl) (by kernel_rfl)

/-! ### spec_l2PutPair -/
abbrev spec_l2PutPair_ps : List (PV.Mode × Ty) := [(.own, LQII), (.ro, QII)]
abbrev spec_l2PutPair_rs : List (Bool × Ty) := [(true, LQII)]
noncomputable def spec_l2PutPair_G (N : Nat) : GTab := gOf [(298, spec_l2Edge_S N)]
theorem spec_l2PutPair_gok (N : Nat) : GOk Tryz.prog (spec_l2PutPair_G N) := gOf_ok ⟨spec_l2Edge_pc N, trivial⟩
noncomputable def spec_l2PutPair_code : Code := (Tryz.f241.body).getD .skip
noncomputable def spec_l2PutPair_l0_sh : Sh := ⟨[(0, .one (.ref 0)), (3, .one (.adr 1 0)), (5, .one (.ro I))], [.sl 123 QII .own, .box [.ro I, .ro I]]⟩
noncomputable def spec_l2PutPair_l0_ex : List (Ex × Sh) := [(.exit 0, ⟨[(0, .one (.ref 0)), (3, .one (.adr 1 0)), (5, .one (.ro I))], [.sl 123 QII .own, .box [.ro I, .ro I]]⟩)]
noncomputable def spec_l2PutPair_l0 {R : Type} (N : Nat) (k0 : Int → (List (Int × Int)) → Int → Int → Option R) : Nat → Int → (List (Int × Int)) → Int → Int → Option R
  | 0, _, _, _, _ => none
  | K + 1, kv, o, o1, o2 =>
    (br (ilt 0 kv)
      ((chk (inb o (IntKind.i64.wrap (kv - 1)))
        ((spec_l2Edge N (o1, o2) (rdP o (IntKind.i64.wrap (kv - 1)))).bind fun r =>
        (br r.1.1
          (spec_l2PutPair_l0 N k0 K (IntKind.i64.wrap (kv - 1)) o o1 o2)
          (k0 kv o o1 o2)))))
      (k0 kv o o1 o2))
noncomputable def spec_l2PutPair_l0_again {R : Type} (N : Nat) (ks : (j : Nat) → ((spec_l2PutPair_l0_ex.getD j (.ret, Sh.none)).2).T → Option R) (k : Nat) (x : spec_l2PutPair_l0_sh.T) : Option R :=
  spec_l2PutPair_l0 N (fun y0 y1 y2 y3 => ks 0 (((), (), y0, ()), (y1, (y2, y3, ()), ()))) k x.1.2.2.1 x.2.1 x.2.2.1.1 x.2.2.1.2.1
noncomputable def spec_l2PutPair_l0_s (N : Nat) : LSum := ⟨spec_l2PutPair_l0_sh, spec_l2PutPair_l0_ex, fun x ks => spec_l2PutPair_l0_again N ks N x⟩
theorem spec_l2PutPair_l0_step (N : Nat) (R : Type) (k : Nat) (x : spec_l2PutPair_l0_sh.T) (ks : (j : Nat) → ((spec_l2PutPair_l0_ex.getD j (.ret, Sh.none)).2).T → Option R) : spec_l2PutPair_l0_again N ks (k + 1) x = roundF (spec_l2PutPair_G N) tab [] (loopAt spec_l2PutPair_code 0) spec_l2PutPair_l0_sh spec_l2PutPair_l0_ex (fun y => spec_l2PutPair_l0_again N ks k y) ks x := by kernel_rfl
theorem spec_l2PutPair_l0_ok (N : Nat) : LoopOk Tryz.prog Tryz.f241.ntmps (spec_l2PutPair_l0_s N) (loopAt spec_l2PutPair_code 0) :=
  loop_ok (l := spec_l2PutPair_l0_s N) progOk (spec_l2PutPair_gok N) (draw_ok progOk (spec_l2PutPair_gok N)) (fun R k x ks => spec_l2PutPair_l0_again N ks k x) (fun _ _ _ => rfl) (fun R k x ks => spec_l2PutPair_l0_step N R k x ks) (fun R x ks r h => ⟨N, h⟩) (lsOk_at (L := []) trivial) (by kernel_rfl) (by kernel_rfl)
noncomputable def spec_l2PutPair (N : Nat) (list : (List (Int × Int))) (e : (Int × Int)) : Option (((List (Int × Int)) × Unit) × (Unit)) :=
  spec_l2PutPair_l0 N (fun kv o o1 o2 => (br (ilt 0 kv)
    ((chk (inb o (IntKind.i64.wrap (kv - 1)))
      (br (ieq ((rdP o (IntKind.i64.wrap (kv - 1))).1) o1 && ieq ((rdP o (IntKind.i64.wrap (kv - 1))).2) o2)
      (some ((o, ()), ()))
      ((chk (ile 0 0 && ile 0 kv && ile kv (tLen o))
        (chk (room (α := (Int × Int)) (β := (Int × Int)) [] (tCut o 0 kv))
        (chk (room (tApp [] (tCut o 0 kv)) [(o1, o2)])
        (chk (ile 0 kv && ile kv (tLen o) && ile (tLen o) (tLen o))
        (chk (room (tApp (tApp [] (tCut o 0 kv)) [(o1, o2)]) (tCut o kv (tLen o)))
        (some (((tApp (tApp (tApp [] (tCut o 0 kv)) [(o1, o2)]) (tCut o kv (tLen o))), ()), ())))))))))))
    ((chk (ile 0 0 && ile 0 kv && ile kv (tLen o))
      (chk (room (α := (Int × Int)) (β := (Int × Int)) [] (tCut o 0 kv))
      (chk (room (tApp [] (tCut o 0 kv)) [(o1, o2)])
      (chk (ile 0 kv && ile kv (tLen o) && ile (tLen o) (tLen o))
      (chk (room (tApp (tApp [] (tCut o 0 kv)) [(o1, o2)]) (tCut o kv (tLen o)))
      (some (((tApp (tApp (tApp [] (tCut o 0 kv)) [(o1, o2)]) (tCut o kv (tLen o))), ()), ())))))))))) N (tLen list) list e.1 e.2
noncomputable def spec_l2PutPair_S (N : Nat) : FSum := ⟨spec_l2PutPair_ps, spec_l2PutPair_rs, fun x => spec_l2PutPair N x.1 x.2.1⟩
theorem spec_l2PutPair_run (N : Nat) (x : argsT spec_l2PutPair_ps) : spec_l2PutPair N x.1 x.2.1 = funF (spec_l2PutPair_G N) tab [spec_l2PutPair_l0_s N] Tryz.f241 spec_l2PutPair_ps spec_l2PutPair_rs x := by kernel_rfl
theorem spec_l2PutPair_pc (N : Nat) : PC Tryz.prog 241 (spec_l2PutPair_S N) := by
  have e : spec_l2PutPair_S N = ⟨spec_l2PutPair_ps, spec_l2PutPair_rs, funF (spec_l2PutPair_G N) tab [spec_l2PutPair_l0_s N] Tryz.f241 spec_l2PutPair_ps spec_l2PutPair_rs⟩ := congrArg (FSum.mk spec_l2PutPair_ps spec_l2PutPair_rs) (funext (spec_l2PutPair_run N))
  rw [e]
  exact fun_ok (c := spec_l2PutPair_code) progOk (spec_l2PutPair_gok N) (draw_ok progOk (spec_l2PutPair_gok N)) Tryz.call241 Tryz.func241 (by kernel_rfl) (lsOk_at (L := [spec_l2PutPair_l0_s N]) ⟨spec_l2PutPair_l0_ok N, trivial⟩) (by kernel_rfl) (by kernel_rfl) (by kernel_rfl) (by kernel_rfl) (by kernel_rfl)

/-! ### spec_l4Threshold -/
abbrev spec_l4Threshold_ps : List (PV.Mode × Ty) := [(.ro, QILQII), (.ro, I), (.ro, I)]
abbrev spec_l4Threshold_rs : List (Bool × Ty) := [(false, QLLILQII)]
noncomputable def spec_l4Threshold_G (N : Nat) : GTab := gOf [(141, spec_l4Sets_S N), (259, spec_l4Fits_S N), (237, spec_l2Sorted_S N), (132, spec_l4Turned_S N), (155, spec_l2Index_S N), (241, spec_l2PutPair_S N)]
theorem spec_l4Threshold_gok (N : Nat) : GOk Tryz.prog (spec_l4Threshold_G N) := gOf_ok ⟨spec_l4Sets_pc N, spec_l4Fits_pc N, spec_l2Sorted_pc N, spec_l4Turned_pc N, spec_l2Index_pc N, spec_l2PutPair_pc N, trivial⟩
noncomputable def spec_l4Threshold_code : Code := (Tryz.f176.body).getD .skip
noncomputable def spec_l4Threshold_l0_sh : Sh := ⟨[(1, .one (.ro I)), (2, .one (.ro I)), (3, .one (.adr 0 0)), (6, .one (.adr 1 0)), (7, .one (.ro LLI)), (8, .one (.ref 2)), (9, .one (.ro I))], [.box [.ro I, .ro LQII], .box [.nilsl, .nilsl], .sl 25 LI .own]⟩
noncomputable def spec_l4Threshold_l0_ex : List (Ex × Sh) := [(.exit 0, ⟨[(3, .one (.adr 0 0)), (6, .one (.adr 1 0)), (8, .one (.ref 2))], [.box [.ro I, .ro LQII], .box [.nilsl, .nilsl], .sl 25 LI .own]⟩)]
noncomputable def spec_l4Threshold_l0 {R : Type} (N : Nat) (k0 : Int → (List (Int × Int)) → (List (List Int)) → Option R) : Nat → Int → Int → (List (List Int)) → Int → Int → (List (Int × Int)) → (List (List Int)) → Option R
  | 0, _, _, _, _, _, _, _ => none
  | K + 1, x4, x5, x6, x7, o3, o4, o5 =>
    (br (ilt x7 (tLen x6))
      ((chk (inb x6 x7)
        ((spec_l4Fits N x4 (tLen (rdL x6 x7)) x5).bind fun r2 =>
        (br r2.1.1
          ((chk (inb x6 x7)
            (chk (room o5 [(rdL x6 x7)])
            (spec_l4Threshold_l0 N k0 K x4 x5 x6 (IntKind.i64.wrap (x7 + 1)) o3 o4 (tApp o5 [(rdL x6 x7)])))))
          (spec_l4Threshold_l0 N k0 K x4 x5 x6 (IntKind.i64.wrap (x7 + 1)) o3 o4 o5)))))
      (k0 o3 o4 o5))
noncomputable def spec_l4Threshold_l0_again {R : Type} (N : Nat) (ks : (j : Nat) → ((spec_l4Threshold_l0_ex.getD j (.ret, Sh.none)).2).T → Option R) (k : Nat) (x : spec_l4Threshold_l0_sh.T) : Option R :=
  spec_l4Threshold_l0 N (fun y0 y1 y2 => ks 0 (((), (), (), ()), ((y0, y1, ()), ((), (), ()), y2, ()))) k x.1.1 x.1.2.1 x.1.2.2.2.2.1 x.1.2.2.2.2.2.2.1 x.2.1.1 x.2.1.2.1 x.2.2.2.1
noncomputable def spec_l4Threshold_l0_s (N : Nat) : LSum := ⟨spec_l4Threshold_l0_sh, spec_l4Threshold_l0_ex, fun x ks => spec_l4Threshold_l0_again N ks N x⟩
theorem spec_l4Threshold_l0_step (N : Nat) (R : Type) (k : Nat) (x : spec_l4Threshold_l0_sh.T) (ks : (j : Nat) → ((spec_l4Threshold_l0_ex.getD j (.ret, Sh.none)).2).T → Option R) : spec_l4Threshold_l0_again N ks (k + 1) x = roundF (spec_l4Threshold_G N) tab [] (loopAt spec_l4Threshold_code 0) spec_l4Threshold_l0_sh spec_l4Threshold_l0_ex (fun y => spec_l4Threshold_l0_again N ks k y) ks x := by kernel_rfl
theorem spec_l4Threshold_l0_ok (N : Nat) : LoopOk Tryz.prog Tryz.f176.ntmps (spec_l4Threshold_l0_s N) (loopAt spec_l4Threshold_code 0) :=
  loop_ok (l := spec_l4Threshold_l0_s N) progOk (spec_l4Threshold_gok N) (draw_ok progOk (spec_l4Threshold_gok N)) (fun R k x ks => spec_l4Threshold_l0_again N ks k x) (fun _ _ _ => rfl) (fun R k x ks => spec_l4Threshold_l0_step N R k x ks) (fun R x ks r h => ⟨N, h⟩) (lsOk_at (L := []) trivial) (by kernel_rfl) (by kernel_rfl)
noncomputable def spec_l4Threshold_l1_0_sh : Sh := ⟨[(3, .one (.adr 0 0)), (6, .one (.adr 1 0)), (10, .one (.adr 2 0)), (11, .one (.ro I)), (12, .one (.ro I))], [.box [.ro I, .ro LQII], .box [.nilsl, .nilsl], .box [.ro LLI, .ref 3], .sl 123 QII .own]⟩
noncomputable def spec_l4Threshold_l1_0_ex : List (Ex × Sh) := [(.exit 4, ⟨[(3, .one (.adr 0 0)), (6, .one (.adr 1 0)), (10, .one (.adr 2 0)), (11, .one (.ro I))], [.box [.ro I, .ro LQII], .box [.nilsl, .nilsl], .box [.ro LLI, .ref 3], .sl 123 QII .own]⟩)]
noncomputable def spec_l4Threshold_l1_0 {R : Type} (N : Nat) (k0 : Int → Int → (List (Int × Int)) → (List (List Int)) → (List (Int × Int)) → Option R) : Nat → Int → Int → Int → (List (Int × Int)) → (List (List Int)) → (List (Int × Int)) → Option R
  | 0, _, _, _, _, _, _ => none
  | K + 1, x5, x6, o10, o11, o12, o13 =>
    (br (ilt x6 o10)
      ((chk (inb o12 x5)
        ((spec_l4Turned N (rdL o12 x5) x6).bind fun r3 =>
        ((spec_l2Index N (o12, o13) r3.1.1).bind fun r4 =>
          (br (ilt x5 r4.1.1)
            (((spec_l2PutPair N o13 (x5, r4.1.1)).bind fun r5 =>
              spec_l4Threshold_l1_0 N k0 K x5 (IntKind.i64.wrap (x6 + 1)) o10 o11 o12 r5.1.1))
            (spec_l4Threshold_l1_0 N k0 K x5 (IntKind.i64.wrap (x6 + 1)) o10 o11 o12 o13))))))
      (k0 x5 o10 o11 o12 o13))
noncomputable def spec_l4Threshold_l1_0_again {R : Type} (N : Nat) (ks : (j : Nat) → ((spec_l4Threshold_l1_0_ex.getD j (.ret, Sh.none)).2).T → Option R) (k : Nat) (x : spec_l4Threshold_l1_0_sh.T) : Option R :=
  spec_l4Threshold_l1_0 N (fun y0 y1 y2 y3 y4 => ks 0 (((), (), (), y0, ()), ((y1, y2, ()), ((), (), ()), (y3, (), ()), y4, ()))) k x.1.2.2.2.1 x.1.2.2.2.2.1 x.2.1.1 x.2.1.2.1 x.2.2.2.1.1 x.2.2.2.2.1
noncomputable def spec_l4Threshold_l1_0_s (N : Nat) : LSum := ⟨spec_l4Threshold_l1_0_sh, spec_l4Threshold_l1_0_ex, fun x ks => spec_l4Threshold_l1_0_again N ks N x⟩
theorem spec_l4Threshold_l1_0_step (N : Nat) (R : Type) (k : Nat) (x : spec_l4Threshold_l1_0_sh.T) (ks : (j : Nat) → ((spec_l4Threshold_l1_0_ex.getD j (.ret, Sh.none)).2).T → Option R) : spec_l4Threshold_l1_0_again N ks (k + 1) x = roundF (spec_l4Threshold_G N) tab [] (loopAt (loopAt spec_l4Threshold_code 1) 0) spec_l4Threshold_l1_0_sh spec_l4Threshold_l1_0_ex (fun y => spec_l4Threshold_l1_0_again N ks k y) ks x := by kernel_rfl
theorem spec_l4Threshold_l1_0_ok (N : Nat) : LoopOk Tryz.prog Tryz.f176.ntmps (spec_l4Threshold_l1_0_s N) (loopAt (loopAt spec_l4Threshold_code 1) 0) :=
  loop_ok (l := spec_l4Threshold_l1_0_s N) progOk (spec_l4Threshold_gok N) (draw_ok progOk (spec_l4Threshold_gok N)) (fun R k x ks => spec_l4Threshold_l1_0_again N ks k x) (fun _ _ _ => rfl) (fun R k x ks => spec_l4Threshold_l1_0_step N R k x ks) (fun R x ks r h => ⟨N, h⟩) (lsOk_at (L := []) trivial) (by kernel_rfl) (by kernel_rfl)
noncomputable def spec_l4Threshold_l1_sh : Sh := ⟨[(3, .one (.adr 0 0)), (6, .one (.adr 1 0)), (10, .one (.adr 2 0)), (11, .one (.ro I))], [.box [.ro I, .ro LQII], .box [.nilsl, .nilsl], .box [.ro LLI, .ref 3], .sl 123 QII .own]⟩
noncomputable def spec_l4Threshold_l1_ex : List (Ex × Sh) := [(.exit 2, ⟨[(6, .one (.adr 0 0)), (10, .one (.adr 1 0))], [.box [.nilsl, .nilsl], .box [.ro LLI, .ref 2], .sl 123 QII .own]⟩)]
noncomputable def spec_l4Threshold_l1 {R : Type} (N : Nat) (k0 : (List (List Int)) → (List (Int × Int)) → Option R) : Nat → Int → Int → (List (Int × Int)) → (List (List Int)) → (List (Int × Int)) → Option R
  | 0, _, _, _, _, _ => none
  | K + 1, x4, o6, o7, o8, o9 =>
    (br (ilt x4 (tLen o8))
      (spec_l4Threshold_l1_0 N (fun x5 o10 o11 o12 o13 => spec_l4Threshold_l1 N k0 K (IntKind.i64.wrap (x5 + 1)) o10 o11 o12 o13) N x4 0 o6 o7 o8 o9)
      (k0 o8 o9))
noncomputable def spec_l4Threshold_l1_again {R : Type} (N : Nat) (ks : (j : Nat) → ((spec_l4Threshold_l1_ex.getD j (.ret, Sh.none)).2).T → Option R) (k : Nat) (x : spec_l4Threshold_l1_sh.T) : Option R :=
  spec_l4Threshold_l1 N (fun y0 y1 => ks 0 (((), (), ()), (((), (), ()), (y0, (), ()), y1, ()))) k x.1.2.2.2.1 x.2.1.1 x.2.1.2.1 x.2.2.2.1.1 x.2.2.2.2.1
noncomputable def spec_l4Threshold_l1_s (N : Nat) : LSum := ⟨spec_l4Threshold_l1_sh, spec_l4Threshold_l1_ex, fun x ks => spec_l4Threshold_l1_again N ks N x⟩
theorem spec_l4Threshold_l1_step (N : Nat) (R : Type) (k : Nat) (x : spec_l4Threshold_l1_sh.T) (ks : (j : Nat) → ((spec_l4Threshold_l1_ex.getD j (.ret, Sh.none)).2).T → Option R) : spec_l4Threshold_l1_again N ks (k + 1) x = roundF (spec_l4Threshold_G N) tab [spec_l4Threshold_l1_0_s N] (loopAt spec_l4Threshold_code 1) spec_l4Threshold_l1_sh spec_l4Threshold_l1_ex (fun y => spec_l4Threshold_l1_again N ks k y) ks x := by kernel_rfl
theorem spec_l4Threshold_l1_ok (N : Nat) : LoopOk Tryz.prog Tryz.f176.ntmps (spec_l4Threshold_l1_s N) (loopAt spec_l4Threshold_code 1) :=
  loop_ok (l := spec_l4Threshold_l1_s N) progOk (spec_l4Threshold_gok N) (draw_ok progOk (spec_l4Threshold_gok N)) (fun R k x ks => spec_l4Threshold_l1_again N ks k x) (fun _ _ _ => rfl) (fun R k x ks => spec_l4Threshold_l1_step N R k x ks) (fun R x ks r h => ⟨N, h⟩) (lsOk_at (L := [spec_l4Threshold_l1_0_s N]) ⟨spec_l4Threshold_l1_0_ok N, trivial⟩) (by kernel_rfl) (by kernel_rfl)
noncomputable def spec_l4Threshold (N : Nat) (c : (Int × (List (Int × Int)))) (c1 : Int) (c2 : Int) : Option ((((List (List Int)) × (List (Int × Int))) × Unit) × (Unit)) :=
  ((spec_l4Sets N (c.1, c.2) c1).bind fun r =>
    spec_l4Threshold_l0 N (fun o3 o4 o5 => ((spec_l2Sorted N o5).bind fun r2 =>
      spec_l4Threshold_l1 N (fun o6 o7 => some (((o6, o7), ()), ())) N 0 o3 o4 r2.1.1 [])) N c1 c2 r.1.1 0 c.1 c.2 [])
noncomputable def spec_l4Threshold_S (N : Nat) : FSum := ⟨spec_l4Threshold_ps, spec_l4Threshold_rs, fun x => spec_l4Threshold N x.1 x.2.1 x.2.2.1⟩
theorem spec_l4Threshold_run (N : Nat) (x : argsT spec_l4Threshold_ps) : spec_l4Threshold N x.1 x.2.1 x.2.2.1 = funF (spec_l4Threshold_G N) tab [spec_l4Threshold_l0_s N, spec_l4Threshold_l1_s N] Tryz.f176 spec_l4Threshold_ps spec_l4Threshold_rs x := by kernel_rfl
theorem spec_l4Threshold_pc (N : Nat) : PC Tryz.prog 176 (spec_l4Threshold_S N) := by
  have e : spec_l4Threshold_S N = ⟨spec_l4Threshold_ps, spec_l4Threshold_rs, funF (spec_l4Threshold_G N) tab [spec_l4Threshold_l0_s N, spec_l4Threshold_l1_s N] Tryz.f176 spec_l4Threshold_ps spec_l4Threshold_rs⟩ := congrArg (FSum.mk spec_l4Threshold_ps spec_l4Threshold_rs) (funext (spec_l4Threshold_run N))
  rw [e]
  exact fun_ok (c := spec_l4Threshold_code) progOk (spec_l4Threshold_gok N) (draw_ok progOk (spec_l4Threshold_gok N)) Tryz.call176 Tryz.func176 (by kernel_rfl) (lsOk_at (L := [spec_l4Threshold_l0_s N, spec_l4Threshold_l1_s N]) ⟨spec_l4Threshold_l0_ok N, spec_l4Threshold_l1_ok N, trivial⟩) (by kernel_rfl) (by kernel_rfl) (by kernel_rfl) (by kernel_rfl) (by kernel_rfl)

/-! ### spec_l2Lists -/
abbrev spec_l2Lists_ps : List (PV.Mode × Ty) := [(.ro, QLLILQII)]
abbrev spec_l2Lists_rs : List (Bool × Ty) := [(true, LLI)]
noncomputable def spec_l2Lists_G (N : Nat) : GTab := gOf []
theorem spec_l2Lists_gok (N : Nat) : GOk Tryz.prog (spec_l2Lists_G N) := gOf_ok trivial
noncomputable def spec_l2Lists_code : Code := (Tryz.f244.body).getD .skip
noncomputable def spec_l2Lists_l0_sh : Sh := ⟨[(1, .one (.adr 0 0)), (3, .one (.ref 1)), (4, .one (.ro I))], [.box [.ro LLI, .ro LQII], .sl 25 LI .deep]⟩
noncomputable def spec_l2Lists_l0_ex : List (Ex × Sh) := [(.exit 0, ⟨[(1, .one (.adr 0 0)), (3, .one (.ref 1))], [.box [.ro LLI, .ro LQII], .sl 25 LI .deep]⟩)]
noncomputable def spec_l2Lists_l0 {R : Type} (N : Nat) (k0 : (List (List Int)) → (List (Int × Int)) → (List (List Int)) → Option R) : Nat → Int → (List (List Int)) → (List (Int × Int)) → (List (List Int)) → Option R
  | 0, _, _, _, _ => none
  | K + 1, x, o, o1, o2 =>
    (br (ilt x (tLen o1))
      ((chk (inb o1 x)
        (chk (inb o1 x)
        (chk (inb o2 ((rdP o1 x).2))
        (chk (room (rdL o2 ((rdP o1 x).2)) [(rdP o1 x).1])
        (chk (inb o2 ((rdP o1 x).2))
        (chk (ieq ((rdP o1 x).2) ((rdP o1 x).2))
        (spec_l2Lists_l0 N k0 K (IntKind.i64.wrap (x + 1)) o o1 (tSet o2 ((rdP o1 x).2) (tApp (rdL o2 ((rdP o1 x).2)) [(rdP o1 x).1]))))))))))
      (k0 o o1 o2))
noncomputable def spec_l2Lists_l0_again {R : Type} (N : Nat) (ks : (j : Nat) → ((spec_l2Lists_l0_ex.getD j (.ret, Sh.none)).2).T → Option R) (k : Nat) (x : spec_l2Lists_l0_sh.T) : Option R :=
  spec_l2Lists_l0 N (fun y0 y1 y2 => ks 0 (((), (), ()), ((y0, y1, ()), y2, ()))) k x.1.2.2.1 x.2.1.1 x.2.1.2.1 x.2.2.1
noncomputable def spec_l2Lists_l0_s (N : Nat) : LSum := ⟨spec_l2Lists_l0_sh, spec_l2Lists_l0_ex, fun x ks => spec_l2Lists_l0_again N ks N x⟩
theorem spec_l2Lists_l0_step (N : Nat) (R : Type) (k : Nat) (x : spec_l2Lists_l0_sh.T) (ks : (j : Nat) → ((spec_l2Lists_l0_ex.getD j (.ret, Sh.none)).2).T → Option R) : spec_l2Lists_l0_again N ks (k + 1) x = roundF (spec_l2Lists_G N) tab [] (loopAt spec_l2Lists_code 0) spec_l2Lists_l0_sh spec_l2Lists_l0_ex (fun y => spec_l2Lists_l0_again N ks k y) ks x := by kernel_rfl
theorem spec_l2Lists_l0_ok (N : Nat) : LoopOk Tryz.prog Tryz.f244.ntmps (spec_l2Lists_l0_s N) (loopAt spec_l2Lists_code 0) :=
  loop_ok (l := spec_l2Lists_l0_s N) progOk (spec_l2Lists_gok N) (draw_ok progOk (spec_l2Lists_gok N)) (fun R k x ks => spec_l2Lists_l0_again N ks k x) (fun _ _ _ => rfl) (fun R k x ks => spec_l2Lists_l0_step N R k x ks) (fun R x ks r h => ⟨N, h⟩) (lsOk_at (L := []) trivial) (by kernel_rfl) (by kernel_rfl)
noncomputable def spec_l2Lists_l1_sh : Sh := ⟨[(1, .one (.adr 0 0)), (3, .one (.ref 1)), (7, .one (.ro I))], [.box [.ro LLI, .ro LQII], .sl 25 LI .deep]⟩
noncomputable def spec_l2Lists_l1_ex : List (Ex × Sh) := [(.exit 2, ⟨[(3, .one (.ref 0))], [.sl 25 LI .deep]⟩)]
noncomputable def spec_l2Lists_l1 {R : Type} (N : Nat) (k0 : (List (List Int)) → Option R) : Nat → Int → (List (List Int)) → (List (Int × Int)) → (List (List Int)) → Option R
  | 0, _, _, _, _ => none
  | K + 1, x, o3, o4, o5 =>
    (br (ilt x (tLen o4))
      ((chk (inb o4 x)
        (chk (inb o4 x)
        (chk (inb o5 ((rdP o4 x).1))
        (chk (room (rdL o5 ((rdP o4 x).1)) [(rdP o4 x).2])
        (chk (inb o5 ((rdP o4 x).1))
        (chk (ieq ((rdP o4 x).1) ((rdP o4 x).1))
        (spec_l2Lists_l1 N k0 K (IntKind.i64.wrap (x + 1)) o3 o4 (tSet o5 ((rdP o4 x).1) (tApp (rdL o5 ((rdP o4 x).1)) [(rdP o4 x).2]))))))))))
      (k0 o5))
noncomputable def spec_l2Lists_l1_again {R : Type} (N : Nat) (ks : (j : Nat) → ((spec_l2Lists_l1_ex.getD j (.ret, Sh.none)).2).T → Option R) (k : Nat) (x : spec_l2Lists_l1_sh.T) : Option R :=
  spec_l2Lists_l1 N (fun y0 => ks 0 (((), ()), (y0, ()))) k x.1.2.2.1 x.2.1.1 x.2.1.2.1 x.2.2.1
noncomputable def spec_l2Lists_l1_s (N : Nat) : LSum := ⟨spec_l2Lists_l1_sh, spec_l2Lists_l1_ex, fun x ks => spec_l2Lists_l1_again N ks N x⟩
theorem spec_l2Lists_l1_step (N : Nat) (R : Type) (k : Nat) (x : spec_l2Lists_l1_sh.T) (ks : (j : Nat) → ((spec_l2Lists_l1_ex.getD j (.ret, Sh.none)).2).T → Option R) : spec_l2Lists_l1_again N ks (k + 1) x = roundF (spec_l2Lists_G N) tab [] (loopAt spec_l2Lists_code 1) spec_l2Lists_l1_sh spec_l2Lists_l1_ex (fun y => spec_l2Lists_l1_again N ks k y) ks x := by kernel_rfl
theorem spec_l2Lists_l1_ok (N : Nat) : LoopOk Tryz.prog Tryz.f244.ntmps (spec_l2Lists_l1_s N) (loopAt spec_l2Lists_code 1) :=
  loop_ok (l := spec_l2Lists_l1_s N) progOk (spec_l2Lists_gok N) (draw_ok progOk (spec_l2Lists_gok N)) (fun R k x ks => spec_l2Lists_l1_again N ks k x) (fun _ _ _ => rfl) (fun R k x ks => spec_l2Lists_l1_step N R k x ks) (fun R x ks r h => ⟨N, h⟩) (lsOk_at (L := []) trivial) (by kernel_rfl) (by kernel_rfl)
noncomputable def spec_l2Lists (N : Nat) (c : ((List (List Int)) × (List (Int × Int)))) : Option (((List (List Int)) × Unit) × (Unit)) :=
  (chk (ile 0 (tLen c.1) && ile (tLen c.1) (tLen c.1) && fits (tLen c.1))
    (spec_l2Lists_l0 N (fun o o1 o2 => spec_l2Lists_l1 N (fun o3 => some ((o3, ()), ())) N 0 o o1 o2) N 0 c.1 c.2 (tRep (tLen c.1) [])))
noncomputable def spec_l2Lists_S (N : Nat) : FSum := ⟨spec_l2Lists_ps, spec_l2Lists_rs, fun x => spec_l2Lists N x.1⟩
theorem spec_l2Lists_run (N : Nat) (x : argsT spec_l2Lists_ps) : spec_l2Lists N x.1 = funF (spec_l2Lists_G N) tab [spec_l2Lists_l0_s N, spec_l2Lists_l1_s N] Tryz.f244 spec_l2Lists_ps spec_l2Lists_rs x := by kernel_rfl
theorem spec_l2Lists_pc (N : Nat) : PC Tryz.prog 244 (spec_l2Lists_S N) := by
  have e : spec_l2Lists_S N = ⟨spec_l2Lists_ps, spec_l2Lists_rs, funF (spec_l2Lists_G N) tab [spec_l2Lists_l0_s N, spec_l2Lists_l1_s N] Tryz.f244 spec_l2Lists_ps spec_l2Lists_rs⟩ := congrArg (FSum.mk spec_l2Lists_ps spec_l2Lists_rs) (funext (spec_l2Lists_run N))
  rw [e]
  exact fun_ok (c := spec_l2Lists_code) progOk (spec_l2Lists_gok N) (draw_ok progOk (spec_l2Lists_gok N)) Tryz.call244 Tryz.func244 (by kernel_rfl) (lsOk_at (L := [spec_l2Lists_l0_s N, spec_l2Lists_l1_s N]) ⟨spec_l2Lists_l0_ok N, spec_l2Lists_l1_ok N, trivial⟩) (by kernel_rfl) (by kernel_rfl) (by kernel_rfl) (by kernel_rfl) (by kernel_rfl)

/-! ### spec_l2Spread -/
abbrev spec_l2Spread_ps : List (PV.Mode × Ty) := [(.ro, LLI), (.ro, I)]
abbrev spec_l2Spread_rs : List (Bool × Ty) := [(true, LI)]
noncomputable def spec_l2Spread_G (N : Nat) : GTab := gOf []
theorem spec_l2Spread_gok (N : Nat) : GOk Tryz.prog (spec_l2Spread_G N) := gOf_ok trivial
noncomputable def spec_l2Spread_code : Code := (Tryz.f245.body).getD .skip
noncomputable def spec_l2Spread_l0_sh : Sh := ⟨[(0, .one (.ro LLI)), (1, .one (.ro I)), (5, .one (.ref 0)), (6, .one (.ro I))], [.sl 3 I .own]⟩
noncomputable def spec_l2Spread_l0_ex : List (Ex × Sh) := [(.exit 0, ⟨[(0, .one (.ro LLI)), (1, .one (.ro I)), (5, .one (.ref 0))], [.sl 3 I .own]⟩)]
noncomputable def spec_l2Spread_l0 {R : Type} (N : Nat) (k0 : (List (List Int)) → Int → (List Int) → Option R) : Nat → (List (List Int)) → Int → Int → (List Int) → Option R
  | 0, _, _, _, _ => none
  | K + 1, x, x1, x2, o =>
    (br (ilt x2 (tLen o))
      ((chk (inb o x2)
        (spec_l2Spread_l0 N k0 K x x1 (IntKind.i64.wrap (x2 + 1)) (tSet o x2 (-1)))))
      (k0 x x1 o))
noncomputable def spec_l2Spread_l0_again {R : Type} (N : Nat) (ks : (j : Nat) → ((spec_l2Spread_l0_ex.getD j (.ret, Sh.none)).2).T → Option R) (k : Nat) (x : spec_l2Spread_l0_sh.T) : Option R :=
  spec_l2Spread_l0 N (fun y0 y1 y2 => ks 0 ((y0, y1, (), ()), (y2, ()))) k x.1.1 x.1.2.1 x.1.2.2.2.1 x.2.1
noncomputable def spec_l2Spread_l0_s (N : Nat) : LSum := ⟨spec_l2Spread_l0_sh, spec_l2Spread_l0_ex, fun x ks => spec_l2Spread_l0_again N ks N x⟩
theorem spec_l2Spread_l0_step (N : Nat) (R : Type) (k : Nat) (x : spec_l2Spread_l0_sh.T) (ks : (j : Nat) → ((spec_l2Spread_l0_ex.getD j (.ret, Sh.none)).2).T → Option R) : spec_l2Spread_l0_again N ks (k + 1) x = roundF (spec_l2Spread_G N) tab [] (loopAt spec_l2Spread_code 0) spec_l2Spread_l0_sh spec_l2Spread_l0_ex (fun y => spec_l2Spread_l0_again N ks k y) ks x := by kernel_rfl
theorem spec_l2Spread_l0_ok (N : Nat) : LoopOk Tryz.prog Tryz.f245.ntmps (spec_l2Spread_l0_s N) (loopAt spec_l2Spread_code 0) :=
  loop_ok (l := spec_l2Spread_l0_s N) progOk (spec_l2Spread_gok N) (draw_ok progOk (spec_l2Spread_gok N)) (fun R k x ks => spec_l2Spread_l0_again N ks k x) (fun _ _ _ => rfl) (fun R k x ks => spec_l2Spread_l0_step N R k x ks) (fun R x ks r h => ⟨N, h⟩) (lsOk_at (L := []) trivial) (by kernel_rfl) (by kernel_rfl)
noncomputable def spec_l2Spread_l1_0_sh : Sh := ⟨[(0, .one (.ro LLI)), (5, .one (.ref 0)), (7, .one (.ref 1)), (8, .one (.ro I)), (9, .one (.ro LI)), (10, .one (.ro I))], [.sl 3 I .own, .sl 3 I .own]⟩
noncomputable def spec_l2Spread_l1_0_ex : List (Ex × Sh) := [(.exit 4, ⟨[(0, .one (.ro LLI)), (5, .one (.ref 0)), (7, .one (.ref 1)), (8, .one (.ro I))], [.sl 3 I .own, .sl 3 I .own]⟩)]
noncomputable def spec_l2Spread_l1_0 {R : Type} (N : Nat) (k0 : (List (List Int)) → Int → (List Int) → (List Int) → Option R) : Nat → (List (List Int)) → Int → (List Int) → Int → (List Int) → (List Int) → Option R
  | 0, _, _, _, _, _, _ => none
  | K + 1, x4, x5, x6, x7, o3, o4 =>
    (br (ilt x7 (tLen x6))
      ((chk (inb x6 x7)
        (chk (inb o3 (rdI x6 x7))
        (br (ilt (rdI o3 (rdI x6 x7)) 0)
        ((chk (inb x6 x7)
          (chk (inb o4 x5)
          (chk (inb o3 (rdI o4 x5))
          (chk (inb o3 (rdI x6 x7))
          (chk (inb x6 x7)
          (chk (room o4 [(rdI x6 x7)])
          (spec_l2Spread_l1_0 N k0 K x4 x5 x6 (IntKind.i64.wrap (x7 + 1)) (tSet o3 (rdI x6 x7) (IntKind.i64.wrap ((rdI o3 (rdI o4 x5)) + 1))) (tApp o4 [(rdI x6 x7)])))))))))
        (spec_l2Spread_l1_0 N k0 K x4 x5 x6 (IntKind.i64.wrap (x7 + 1)) o3 o4)))))
      (k0 x4 x5 o3 o4))
noncomputable def spec_l2Spread_l1_0_again {R : Type} (N : Nat) (ks : (j : Nat) → ((spec_l2Spread_l1_0_ex.getD j (.ret, Sh.none)).2).T → Option R) (k : Nat) (x : spec_l2Spread_l1_0_sh.T) : Option R :=
  spec_l2Spread_l1_0 N (fun y0 y1 y2 y3 => ks 0 ((y0, (), (), y1, ()), (y2, y3, ()))) k x.1.1 x.1.2.2.2.1 x.1.2.2.2.2.1 x.1.2.2.2.2.2.1 x.2.1 x.2.2.1
noncomputable def spec_l2Spread_l1_0_s (N : Nat) : LSum := ⟨spec_l2Spread_l1_0_sh, spec_l2Spread_l1_0_ex, fun x ks => spec_l2Spread_l1_0_again N ks N x⟩
theorem spec_l2Spread_l1_0_step (N : Nat) (R : Type) (k : Nat) (x : spec_l2Spread_l1_0_sh.T) (ks : (j : Nat) → ((spec_l2Spread_l1_0_ex.getD j (.ret, Sh.none)).2).T → Option R) : spec_l2Spread_l1_0_again N ks (k + 1) x = roundF (spec_l2Spread_G N) tab [] (loopAt (loopAt spec_l2Spread_code 1) 0) spec_l2Spread_l1_0_sh spec_l2Spread_l1_0_ex (fun y => spec_l2Spread_l1_0_again N ks k y) ks x := by kernel_rfl
theorem spec_l2Spread_l1_0_ok (N : Nat) : LoopOk Tryz.prog Tryz.f245.ntmps (spec_l2Spread_l1_0_s N) (loopAt (loopAt spec_l2Spread_code 1) 0) :=
  loop_ok (l := spec_l2Spread_l1_0_s N) progOk (spec_l2Spread_gok N) (draw_ok progOk (spec_l2Spread_gok N)) (fun R k x ks => spec_l2Spread_l1_0_again N ks k x) (fun _ _ _ => rfl) (fun R k x ks => spec_l2Spread_l1_0_step N R k x ks) (fun R x ks r h => ⟨N, h⟩) (lsOk_at (L := []) trivial) (by kernel_rfl) (by kernel_rfl)
noncomputable def spec_l2Spread_l1_sh : Sh := ⟨[(0, .one (.ro LLI)), (5, .one (.ref 0)), (7, .one (.ref 1)), (8, .one (.ro I))], [.sl 3 I .own, .sl 3 I .own]⟩
noncomputable def spec_l2Spread_l1_ex : List (Ex × Sh) := [(.exit 2, ⟨[(5, .one (.ref 0))], [.sl 3 I .own]⟩)]
noncomputable def spec_l2Spread_l1 {R : Type} (N : Nat) (k0 : (List Int) → Option R) : Nat → (List (List Int)) → Int → (List Int) → (List Int) → Option R
  | 0, _, _, _, _ => none
  | K + 1, x2, x3, o1, o2 =>
    (br (ilt x3 (tLen o2))
      ((chk (inb o2 x3)
        (chk (inb x2 (rdI o2 x3))
        (spec_l2Spread_l1_0 N (fun x4 x5 o3 o4 => spec_l2Spread_l1 N k0 K x4 (IntKind.i64.wrap (x5 + 1)) o3 o4) N x2 x3 (rdL x2 (rdI o2 x3)) 0 o1 o2))))
      (k0 o1))
noncomputable def spec_l2Spread_l1_again {R : Type} (N : Nat) (ks : (j : Nat) → ((spec_l2Spread_l1_ex.getD j (.ret, Sh.none)).2).T → Option R) (k : Nat) (x : spec_l2Spread_l1_sh.T) : Option R :=
  spec_l2Spread_l1 N (fun y0 => ks 0 (((), ()), (y0, ()))) k x.1.1 x.1.2.2.2.1 x.2.1 x.2.2.1
noncomputable def spec_l2Spread_l1_s (N : Nat) : LSum := ⟨spec_l2Spread_l1_sh, spec_l2Spread_l1_ex, fun x ks => spec_l2Spread_l1_again N ks N x⟩
theorem spec_l2Spread_l1_step (N : Nat) (R : Type) (k : Nat) (x : spec_l2Spread_l1_sh.T) (ks : (j : Nat) → ((spec_l2Spread_l1_ex.getD j (.ret, Sh.none)).2).T → Option R) : spec_l2Spread_l1_again N ks (k + 1) x = roundF (spec_l2Spread_G N) tab [spec_l2Spread_l1_0_s N] (loopAt spec_l2Spread_code 1) spec_l2Spread_l1_sh spec_l2Spread_l1_ex (fun y => spec_l2Spread_l1_again N ks k y) ks x := by kernel_rfl
theorem spec_l2Spread_l1_ok (N : Nat) : LoopOk Tryz.prog Tryz.f245.ntmps (spec_l2Spread_l1_s N) (loopAt spec_l2Spread_code 1) :=
  loop_ok (l := spec_l2Spread_l1_s N) progOk (spec_l2Spread_gok N) (draw_ok progOk (spec_l2Spread_gok N)) (fun R k x ks => spec_l2Spread_l1_again N ks k x) (fun _ _ _ => rfl) (fun R k x ks => spec_l2Spread_l1_step N R k x ks) (fun R x ks r h => ⟨N, h⟩) (lsOk_at (L := [spec_l2Spread_l1_0_s N]) ⟨spec_l2Spread_l1_0_ok N, trivial⟩) (by kernel_rfl) (by kernel_rfl)
noncomputable def spec_l2Spread (N : Nat) (c : (List (List Int))) (c1 : Int) : Option (((List Int) × Unit) × (Unit)) :=
  (chk (ile 0 (tLen c) && ile (tLen c) (tLen c) && fits (tLen c))
    (spec_l2Spread_l0 N (fun x x1 o => (chk (inb o x1)
    (spec_l2Spread_l1 N (fun o1 => some ((o1, ()), ())) N x 0 (tSet o x1 0) [x1]))) N c c1 0 (tRep (tLen c) (0 : Int))))
noncomputable def spec_l2Spread_S (N : Nat) : FSum := ⟨spec_l2Spread_ps, spec_l2Spread_rs, fun x => spec_l2Spread N x.1 x.2.1⟩
theorem spec_l2Spread_run (N : Nat) (x : argsT spec_l2Spread_ps) : spec_l2Spread N x.1 x.2.1 = funF (spec_l2Spread_G N) tab [spec_l2Spread_l0_s N, spec_l2Spread_l1_s N] Tryz.f245 spec_l2Spread_ps spec_l2Spread_rs x := by kernel_rfl
theorem spec_l2Spread_pc (N : Nat) : PC Tryz.prog 245 (spec_l2Spread_S N) := by
  have e : spec_l2Spread_S N = ⟨spec_l2Spread_ps, spec_l2Spread_rs, funF (spec_l2Spread_G N) tab [spec_l2Spread_l0_s N, spec_l2Spread_l1_s N] Tryz.f245 spec_l2Spread_ps spec_l2Spread_rs⟩ := congrArg (FSum.mk spec_l2Spread_ps spec_l2Spread_rs) (funext (spec_l2Spread_run N))
  rw [e]
  exact fun_ok (c := spec_l2Spread_code) progOk (spec_l2Spread_gok N) (draw_ok progOk (spec_l2Spread_gok N)) Tryz.call245 Tryz.func245 (by kernel_rfl) (lsOk_at (L := [spec_l2Spread_l0_s N, spec_l2Spread_l1_s N]) ⟨spec_l2Spread_l0_ok N, spec_l2Spread_l1_ok N, trivial⟩) (by kernel_rfl) (by kernel_rfl) (by kernel_rfl) (by kernel_rfl) (by kernel_rfl)

/-! ### spec_l2Walk -/
abbrev spec_l2Walk_ps : List (PV.Mode × Ty) := [(.ro, QLLILQII), (.ro, I), (.ro, I)]
abbrev spec_l2Walk_rs : List (Bool × Ty) := [(true, LI)]
noncomputable def spec_l2Walk_G (N : Nat) : GTab := gOf [(244, spec_l2Lists_S N), (245, spec_l2Spread_S N)]
theorem spec_l2Walk_gok (N : Nat) : GOk Tryz.prog (spec_l2Walk_G N) := gOf_ok ⟨spec_l2Lists_pc N, spec_l2Spread_pc N, trivial⟩
noncomputable def spec_l2Walk_code : Code := (Tryz.f154.body).getD .skip
noncomputable def spec_l2Walk_l0_0_sh : Sh := ⟨[(1, .one (.ro I)), (2, .one (.ro I)), (7, .one (.ref 0)), (8, .one (.ref 1)), (9, .one (.ref 2)), (10, .one (.ro I))], [.sl 25 LI .deep, .sl 3 I .own, .sl 3 I .own]⟩
noncomputable def spec_l2Walk_l0_0_ex : List (Ex × Sh) := [(.exit 2, ⟨[(1, .one (.ro I)), (2, .one (.ro I)), (7, .one (.ref 0)), (8, .one (.ref 1)), (9, .one (.ref 2)), (10, .one (.ro I))], [.sl 25 LI .deep, .sl 3 I .own, .sl 3 I .own]⟩)]
noncomputable def spec_l2Walk_l0_0 {R : Type} (N : Nat) (k0 : Int → Int → Int → (List (List Int)) → (List Int) → (List Int) → Option R) : Nat → Int → Int → Int → (List (List Int)) → (List Int) → (List Int) → Option R
  | 0, _, _, _, _, _, _ => none
  | K + 1, i2, j2, kv, o3, o4, o5 =>
    (chk (inb o3 i2)
      (chk (inb (rdL o3 i2) kv)
      (chk (inb o4 (rdI (rdL o3 i2) kv))
      (chk (inb o4 i2)
      (br (ine (rdI o4 (rdI (rdL o3 i2) kv)) (IntKind.i64.wrap ((rdI o4 i2) - 1)))
      (spec_l2Walk_l0_0 N k0 K i2 j2 (IntKind.i64.wrap (kv + 1)) o3 o4 o5)
      (k0 i2 j2 kv o3 o4 o5))))))
noncomputable def spec_l2Walk_l0_0_again {R : Type} (N : Nat) (ks : (j : Nat) → ((spec_l2Walk_l0_0_ex.getD j (.ret, Sh.none)).2).T → Option R) (k : Nat) (x : spec_l2Walk_l0_0_sh.T) : Option R :=
  spec_l2Walk_l0_0 N (fun y0 y1 y2 y3 y4 y5 => ks 0 ((y0, y1, (), (), (), y2, ()), (y3, y4, y5, ()))) k x.1.1 x.1.2.1 x.1.2.2.2.2.2.1 x.2.1 x.2.2.1 x.2.2.2.1
noncomputable def spec_l2Walk_l0_0_s (N : Nat) : LSum := ⟨spec_l2Walk_l0_0_sh, spec_l2Walk_l0_0_ex, fun x ks => spec_l2Walk_l0_0_again N ks N x⟩
theorem spec_l2Walk_l0_0_step (N : Nat) (R : Type) (k : Nat) (x : spec_l2Walk_l0_0_sh.T) (ks : (j : Nat) → ((spec_l2Walk_l0_0_ex.getD j (.ret, Sh.none)).2).T → Option R) : spec_l2Walk_l0_0_again N ks (k + 1) x = roundF (spec_l2Walk_G N) tab [] (loopAt (loopAt spec_l2Walk_code 0) 0) spec_l2Walk_l0_0_sh spec_l2Walk_l0_0_ex (fun y => spec_l2Walk_l0_0_again N ks k y) ks x := by kernel_rfl
theorem spec_l2Walk_l0_0_ok (N : Nat) : LoopOk Tryz.prog Tryz.f154.ntmps (spec_l2Walk_l0_0_s N) (loopAt (loopAt spec_l2Walk_code 0) 0) :=
  loop_ok (l := spec_l2Walk_l0_0_s N) progOk (spec_l2Walk_gok N) (draw_ok progOk (spec_l2Walk_gok N)) (fun R k x ks => spec_l2Walk_l0_0_again N ks k x) (fun _ _ _ => rfl) (fun R k x ks => spec_l2Walk_l0_0_step N R k x ks) (fun R x ks r h => ⟨N, h⟩) (lsOk_at (L := []) trivial) (by kernel_rfl) (by kernel_rfl)
noncomputable def spec_l2Walk_l0_sh : Sh := ⟨[(1, .one (.ro I)), (2, .one (.ro I)), (7, .one (.ref 0)), (8, .one (.ref 1)), (9, .one (.ref 2))], [.sl 25 LI .deep, .sl 3 I .own, .sl 3 I .own]⟩
noncomputable def spec_l2Walk_l0_ex : List (Ex × Sh) := [(.exit 0, ⟨[(9, .one (.ref 0))], [.sl 3 I .own]⟩)]
noncomputable def spec_l2Walk_l0 {R : Type} (N : Nat) (k0 : (List Int) → Option R) : Nat → Int → Int → (List (List Int)) → (List Int) → (List Int) → Option R
  | 0, _, _, _, _, _ => none
  | K + 1, i1, j1, o, o1, o2 =>
    (br (ine i1 j1)
      (spec_l2Walk_l0_0 N (fun i2 j2 kv o3 o4 o5 => (chk (inb o3 i2)
        (chk (inb (rdL o3 i2) kv)
        (chk (room o5 [(rdI (rdL o3 i2) kv)])
        (spec_l2Walk_l0 N k0 K (rdI (rdL o3 i2) kv) j2 o3 o4 (tApp o5 [(rdI (rdL o3 i2) kv)])))))) N i1 j1 0 o o1 o2)
      (k0 o2))
noncomputable def spec_l2Walk_l0_again {R : Type} (N : Nat) (ks : (j : Nat) → ((spec_l2Walk_l0_ex.getD j (.ret, Sh.none)).2).T → Option R) (k : Nat) (x : spec_l2Walk_l0_sh.T) : Option R :=
  spec_l2Walk_l0 N (fun y0 => ks 0 (((), ()), (y0, ()))) k x.1.1 x.1.2.1 x.2.1 x.2.2.1 x.2.2.2.1
noncomputable def spec_l2Walk_l0_s (N : Nat) : LSum := ⟨spec_l2Walk_l0_sh, spec_l2Walk_l0_ex, fun x ks => spec_l2Walk_l0_again N ks N x⟩
theorem spec_l2Walk_l0_step (N : Nat) (R : Type) (k : Nat) (x : spec_l2Walk_l0_sh.T) (ks : (j : Nat) → ((spec_l2Walk_l0_ex.getD j (.ret, Sh.none)).2).T → Option R) : spec_l2Walk_l0_again N ks (k + 1) x = roundF (spec_l2Walk_G N) tab [spec_l2Walk_l0_0_s N] (loopAt spec_l2Walk_code 0) spec_l2Walk_l0_sh spec_l2Walk_l0_ex (fun y => spec_l2Walk_l0_again N ks k y) ks x := by kernel_rfl
theorem spec_l2Walk_l0_ok (N : Nat) : LoopOk Tryz.prog Tryz.f154.ntmps (spec_l2Walk_l0_s N) (loopAt spec_l2Walk_code 0) :=
  loop_ok (l := spec_l2Walk_l0_s N) progOk (spec_l2Walk_gok N) (draw_ok progOk (spec_l2Walk_gok N)) (fun R k x ks => spec_l2Walk_l0_again N ks k x) (fun _ _ _ => rfl) (fun R k x ks => spec_l2Walk_l0_step N R k x ks) (fun R x ks r h => ⟨N, h⟩) (lsOk_at (L := [spec_l2Walk_l0_0_s N]) ⟨spec_l2Walk_l0_0_ok N, trivial⟩) (by kernel_rfl) (by kernel_rfl)
noncomputable def spec_l2Walk (N : Nat) (x : ((List (List Int)) × (List (Int × Int)))) (i : Int) (j : Int) : Option (((List Int) × Unit) × (Unit)) :=
  ((spec_l2Lists N (x.1, x.2)).bind fun r =>
    ((spec_l2Spread N r.1.1 j).bind fun r1 =>
      (chk (inb r1.1.1 i)
        (br (ilt (rdI r1.1.1 i) 0)
        (some (([], ()), ()))
        (spec_l2Walk_l0 N (fun o => some ((o, ()), ())) N i j r.1.1 r1.1.1 [i])))))
noncomputable def spec_l2Walk_S (N : Nat) : FSum := ⟨spec_l2Walk_ps, spec_l2Walk_rs, fun x => spec_l2Walk N x.1 x.2.1 x.2.2.1⟩
theorem spec_l2Walk_run (N : Nat) (x : argsT spec_l2Walk_ps) : spec_l2Walk N x.1 x.2.1 x.2.2.1 = funF (spec_l2Walk_G N) tab [spec_l2Walk_l0_s N] Tryz.f154 spec_l2Walk_ps spec_l2Walk_rs x := by kernel_rfl
theorem spec_l2Walk_pc (N : Nat) : PC Tryz.prog 154 (spec_l2Walk_S N) := by
  have e : spec_l2Walk_S N = ⟨spec_l2Walk_ps, spec_l2Walk_rs, funF (spec_l2Walk_G N) tab [spec_l2Walk_l0_s N] Tryz.f154 spec_l2Walk_ps spec_l2Walk_rs⟩ := congrArg (FSum.mk spec_l2Walk_ps spec_l2Walk_rs) (funext (spec_l2Walk_run N))
  rw [e]
  exact fun_ok (c := spec_l2Walk_code) progOk (spec_l2Walk_gok N) (draw_ok progOk (spec_l2Walk_gok N)) Tryz.call154 Tryz.func154 (by kernel_rfl) (lsOk_at (L := [spec_l2Walk_l0_s N]) ⟨spec_l2Walk_l0_ok N, trivial⟩) (by kernel_rfl) (by kernel_rfl) (by kernel_rfl) (by kernel_rfl) (by kernel_rfl)

/-! ### spec_l1Own -/
abbrev spec_l1Own_ps : List (PV.Mode × Ty) := [(.ro, LI)]
abbrev spec_l1Own_rs : List (Bool × Ty) := [(true, LI)]
noncomputable def spec_l1Own_G (N : Nat) : GTab := gOf []
theorem spec_l1Own_gok (N : Nat) : GOk Tryz.prog (spec_l1Own_G N) := gOf_ok trivial
noncomputable def spec_l1Own_code : Code := (Tryz.f135.body).getD .skip
noncomputable def spec_l1Own (N : Nat) (l : (List Int)) : Option (((List Int) × Unit) × (Unit)) :=
  (chk (room (α := Int) (β := Int) [] l)
    (some (((tApp [] l), ()), ())))
noncomputable def spec_l1Own_S (N : Nat) : FSum := ⟨spec_l1Own_ps, spec_l1Own_rs, fun x => spec_l1Own N x.1⟩
theorem spec_l1Own_run (N : Nat) (x : argsT spec_l1Own_ps) : spec_l1Own N x.1 = funF (spec_l1Own_G N) tab [] Tryz.f135 spec_l1Own_ps spec_l1Own_rs x := by kernel_rfl
theorem spec_l1Own_pc (N : Nat) : PC Tryz.prog 135 (spec_l1Own_S N) := by
  have e : spec_l1Own_S N = ⟨spec_l1Own_ps, spec_l1Own_rs, funF (spec_l1Own_G N) tab [] Tryz.f135 spec_l1Own_ps spec_l1Own_rs⟩ := congrArg (FSum.mk spec_l1Own_ps spec_l1Own_rs) (funext (spec_l1Own_run N))
  rw [e]
  exact fun_ok (c := spec_l1Own_code) progOk (spec_l1Own_gok N) (draw_ok progOk (spec_l1Own_gok N)) Tryz.call135 Tryz.func135 (by kernel_rfl) (lsOk_at (L := []) trivial) (by kernel_rfl) (by kernel_rfl) (by kernel_rfl) (by kernel_rfl) (by kernel_rfl)

/-! ### spec_l4Named -/
abbrev spec_l4Named_ps : List (PV.Mode × Ty) := [(.ro, QLLILQII), (.ro, LI)]
abbrev spec_l4Named_rs : List (Bool × Ty) := [(true, LLI)]
noncomputable def spec_l4Named_G (N : Nat) : GTab := gOf [(135, spec_l1Own_S N)]
theorem spec_l4Named_gok (N : Nat) : GOk Tryz.prog (spec_l4Named_G N) := gOf_ok ⟨spec_l1Own_pc N, trivial⟩
noncomputable def spec_l4Named_code : Code := (Tryz.f156.body).getD .skip
noncomputable def spec_l4Named_l0_sh : Sh := ⟨[(1, .one (.ro LI)), (2, .one (.adr 0 0)), (5, .one (.ref 1)), (6, .one (.ro I))], [.box [.ro LLI, .ro LQII], .sl 25 LI .deep]⟩
noncomputable def spec_l4Named_l0_ex : List (Ex × Sh) := [(.exit 0, ⟨[(5, .one (.ref 0))], [.sl 25 LI .deep]⟩)]
noncomputable def spec_l4Named_l0 {R : Type} (N : Nat) (k0 : (List (List Int)) → Option R) : Nat → (List Int) → Int → (List (List Int)) → (List (Int × Int)) → (List (List Int)) → Option R
  | 0, _, _, _, _, _ => none
  | K + 1, walk1, i, o, o1, o2 =>
    (br (ilt i (tLen walk1))
      ((chk (inb walk1 i)
        (chk (inb o (rdI walk1 i))
        ((spec_l1Own N (rdL o (rdI walk1 i))).bind fun r =>
        (chk (room o2 [r.1.1])
          (spec_l4Named_l0 N k0 K walk1 (IntKind.i64.wrap (i + 1)) o o1 (tApp o2 [r.1.1])))))))
      (k0 o2))
noncomputable def spec_l4Named_l0_again {R : Type} (N : Nat) (ks : (j : Nat) → ((spec_l4Named_l0_ex.getD j (.ret, Sh.none)).2).T → Option R) (k : Nat) (x : spec_l4Named_l0_sh.T) : Option R :=
  spec_l4Named_l0 N (fun y0 => ks 0 (((), ()), (y0, ()))) k x.1.1 x.1.2.2.2.1 x.2.1.1 x.2.1.2.1 x.2.2.1
noncomputable def spec_l4Named_l0_s (N : Nat) : LSum := ⟨spec_l4Named_l0_sh, spec_l4Named_l0_ex, fun x ks => spec_l4Named_l0_again N ks N x⟩
theorem spec_l4Named_l0_step (N : Nat) (R : Type) (k : Nat) (x : spec_l4Named_l0_sh.T) (ks : (j : Nat) → ((spec_l4Named_l0_ex.getD j (.ret, Sh.none)).2).T → Option R) : spec_l4Named_l0_again N ks (k + 1) x = roundF (spec_l4Named_G N) tab [] (loopAt spec_l4Named_code 0) spec_l4Named_l0_sh spec_l4Named_l0_ex (fun y => spec_l4Named_l0_again N ks k y) ks x := by kernel_rfl
theorem spec_l4Named_l0_ok (N : Nat) : LoopOk Tryz.prog Tryz.f156.ntmps (spec_l4Named_l0_s N) (loopAt spec_l4Named_code 0) :=
  loop_ok (l := spec_l4Named_l0_s N) progOk (spec_l4Named_gok N) (draw_ok progOk (spec_l4Named_gok N)) (fun R k x ks => spec_l4Named_l0_again N ks k x) (fun _ _ _ => rfl) (fun R k x ks => spec_l4Named_l0_step N R k x ks) (fun R x ks r h => ⟨N, h⟩) (lsOk_at (L := []) trivial) (by kernel_rfl) (by kernel_rfl)
noncomputable def spec_l4Named (N : Nat) (x : ((List (List Int)) × (List (Int × Int)))) (walk : (List Int)) : Option (((List (List Int)) × Unit) × (Unit)) :=
  spec_l4Named_l0 N (fun o => some ((o, ()), ())) N walk 0 x.1 x.2 []
noncomputable def spec_l4Named_S (N : Nat) : FSum := ⟨spec_l4Named_ps, spec_l4Named_rs, fun x => spec_l4Named N x.1 x.2.1⟩
theorem spec_l4Named_run (N : Nat) (x : argsT spec_l4Named_ps) : spec_l4Named N x.1 x.2.1 = funF (spec_l4Named_G N) tab [spec_l4Named_l0_s N] Tryz.f156 spec_l4Named_ps spec_l4Named_rs x := by kernel_rfl
theorem spec_l4Named_pc (N : Nat) : PC Tryz.prog 156 (spec_l4Named_S N) := by
  have e : spec_l4Named_S N = ⟨spec_l4Named_ps, spec_l4Named_rs, funF (spec_l4Named_G N) tab [spec_l4Named_l0_s N] Tryz.f156 spec_l4Named_ps spec_l4Named_rs⟩ := congrArg (FSum.mk spec_l4Named_ps spec_l4Named_rs) (funext (spec_l4Named_run N))
  rw [e]
  exact fun_ok (c := spec_l4Named_code) progOk (spec_l4Named_gok N) (draw_ok progOk (spec_l4Named_gok N)) Tryz.call156 Tryz.func156 (by kernel_rfl) (lsOk_at (L := [spec_l4Named_l0_s N]) ⟨spec_l4Named_l0_ok N, trivial⟩) (by kernel_rfl) (by kernel_rfl) (by kernel_rfl) (by kernel_rfl) (by kernel_rfl)

/-! ### spec_l4Between -/
abbrev spec_l4Between_ps : List (PV.Mode × Ty) := [(.ro, QILQII), (.ro, I), (.ro, LI), (.ro, LI)]
abbrev spec_l4Between_rs : List (Bool × Ty) := [(true, I), (true, LLI)]
noncomputable def spec_l4Between_G (N : Nat) : GTab := gOf [(179, spec_l1Most_S N), (180, spec_l1Least_S N), (176, spec_l4Threshold_S N), (155, spec_l2Index_S N), (154, spec_l2Walk_S N), (156, spec_l4Named_S N)]
theorem spec_l4Between_gok (N : Nat) : GOk Tryz.prog (spec_l4Between_G N) := gOf_ok ⟨spec_l1Most_pc N, spec_l1Least_pc N, spec_l4Threshold_pc N, spec_l2Index_pc N, spec_l2Walk_pc N, spec_l4Named_pc N, trivial⟩
noncomputable def spec_l4Between_code : Code := (Tryz.f113.body).getD .skip
noncomputable def spec_l4Between_l0_sh : Sh := ⟨[(1, .one (.ro I)), (2, .one (.ro LI)), (3, .one (.ro LI)), (4, .one (.adr 0 0)), (10, .one (.ro I)), (11, .one (.ro I))], [.box [.ro I, .ro LQII]]⟩
noncomputable def spec_l4Between_l0_ex : List (Ex × Sh) := [(.ret, ⟨[(8, .one (.ro I)), (9, .one (.ref 0))], [.sl 25 LI .deep]⟩)]
noncomputable def spec_l4Between_l0 {R : Type} (N : Nat) (k0 : Int → (List (List Int)) → Option R) : Nat → Int → (List Int) → (List Int) → Int → Int → Int → (List (Int × Int)) → Option R
  | 0, _, _, _, _, _, _, _ => none
  | K + 1, kind1, a1, b1, kv, byv, o, o1 =>
    ((spec_l4Threshold N (o, o1) kind1 kv).bind fun r2 =>
      ((spec_l2Index N (r2.1.1.1, r2.1.1.2) a1).bind fun r3 =>
        ((spec_l2Index N (r2.1.1.1, r2.1.1.2) b1).bind fun r4 =>
          ((spec_l2Walk N (r2.1.1.1, r2.1.1.2) r3.1.1 r4.1.1).bind fun r5 =>
            (br (ilt 0 (tLen r5.1.1))
              (((spec_l4Named N (r2.1.1.1, r2.1.1.2) r5.1.1).bind fun r6 =>
                k0 kv r6.1.1))
              (spec_l4Between_l0 N k0 K kind1 a1 b1 (IntKind.i64.wrap (kv + byv)) byv o o1))))))
noncomputable def spec_l4Between_l0_again {R : Type} (N : Nat) (ks : (j : Nat) → ((spec_l4Between_l0_ex.getD j (.ret, Sh.none)).2).T → Option R) (k : Nat) (x : spec_l4Between_l0_sh.T) : Option R :=
  spec_l4Between_l0 N (fun y0 y1 => ks 0 ((y0, (), ()), (y1, ()))) k x.1.1 x.1.2.1 x.1.2.2.1 x.1.2.2.2.2.1 x.1.2.2.2.2.2.1 x.2.1.1 x.2.1.2.1
noncomputable def spec_l4Between_l0_s (N : Nat) : LSum := ⟨spec_l4Between_l0_sh, spec_l4Between_l0_ex, fun x ks => spec_l4Between_l0_again N ks N x⟩
theorem spec_l4Between_l0_step (N : Nat) (R : Type) (k : Nat) (x : spec_l4Between_l0_sh.T) (ks : (j : Nat) → ((spec_l4Between_l0_ex.getD j (.ret, Sh.none)).2).T → Option R) : spec_l4Between_l0_again N ks (k + 1) x = roundF (spec_l4Between_G N) tab [] (loopAt spec_l4Between_code 0) spec_l4Between_l0_sh spec_l4Between_l0_ex (fun y => spec_l4Between_l0_again N ks k y) ks x := by kernel_rfl
theorem spec_l4Between_l0_ok (N : Nat) : LoopOk Tryz.prog Tryz.f113.ntmps (spec_l4Between_l0_s N) (loopAt spec_l4Between_code 0) :=
  loop_ok (l := spec_l4Between_l0_s N) progOk (spec_l4Between_gok N) (draw_ok progOk (spec_l4Between_gok N)) (fun R k x ks => spec_l4Between_l0_again N ks k x) (fun _ _ _ => rfl) (fun R k x ks => spec_l4Between_l0_step N R k x ks) (fun R x ks r h => ⟨N, h⟩) (lsOk_at (L := []) trivial) (by kernel_rfl) (by kernel_rfl)
noncomputable def spec_l4Between (N : Nat) (g : (Int × (List (Int × Int)))) (kind : Int) (a : (List Int)) (b : (List Int)) : Option ((Int × (List (List Int)) × Unit) × (Unit)) :=
  ((spec_l1Most N (tLen a) (tLen b)).bind fun r =>
    (br (ieq kind 2)
      (((spec_l1Least N (tLen a) (tLen b)).bind fun r1 =>
        spec_l4Between_l0 N (fun x o => some ((x, o, ()), ())) N kind a b r1.1.1 (-1) g.1 g.2))
      (spec_l4Between_l0 N (fun x1 o1 => some ((x1, o1, ()), ())) N kind a b r.1.1 1 g.1 g.2)))
noncomputable def spec_l4Between_S (N : Nat) : FSum := ⟨spec_l4Between_ps, spec_l4Between_rs, fun x => spec_l4Between N x.1 x.2.1 x.2.2.1 x.2.2.2.1⟩
theorem spec_l4Between_run (N : Nat) (x : argsT spec_l4Between_ps) : spec_l4Between N x.1 x.2.1 x.2.2.1 x.2.2.2.1 = funF (spec_l4Between_G N) tab [spec_l4Between_l0_s N] Tryz.f113 spec_l4Between_ps spec_l4Between_rs x := by kernel_rfl
theorem spec_l4Between_pc (N : Nat) : PC Tryz.prog 113 (spec_l4Between_S N) := by
  have e : spec_l4Between_S N = ⟨spec_l4Between_ps, spec_l4Between_rs, funF (spec_l4Between_G N) tab [spec_l4Between_l0_s N] Tryz.f113 spec_l4Between_ps spec_l4Between_rs⟩ := congrArg (FSum.mk spec_l4Between_ps spec_l4Between_rs) (funext (spec_l4Between_run N))
  rw [e]
  exact fun_ok (c := spec_l4Between_code) progOk (spec_l4Between_gok N) (draw_ok progOk (spec_l4Between_gok N)) Tryz.call113 Tryz.func113 (by kernel_rfl) (lsOk_at (L := [spec_l4Between_l0_s N]) ⟨spec_l4Between_l0_ok N, trivial⟩) (by kernel_rfl) (by kernel_rfl) (by kernel_rfl) (by kernel_rfl) (by kernel_rfl)

/-! ### spec_ThresholdWay -/
abbrev spec_ThresholdWay_ps : List (PV.Mode × Ty) := [(.ro, QILQII), (.ro, I), (.ro, LI), (.ro, LI)]
abbrev spec_ThresholdWay_rs : List (Bool × Ty) := [(true, LLI), (true, .bool)]
noncomputable def spec_ThresholdWay_G (N : Nat) : GTab := gOf [(112, spec_l4One_S N), (113, spec_l4Between_S N)]
theorem spec_ThresholdWay_gok (N : Nat) : GOk Tryz.prog (spec_ThresholdWay_G N) := gOf_ok ⟨spec_l4One_pc N, spec_l4Between_pc N, trivial⟩
noncomputable def spec_ThresholdWay_code : Code := (Tryz.f18.body).getD .skip
noncomputable def spec_ThresholdWay (N : Nat) (g : (Int × (List (Int × Int)))) (kind : Int) (a : (List Int)) (b : (List Int)) : Option (((List (List Int)) × Bool × Unit) × (Unit)) :=
  ((spec_l4One N (g.1, g.2) kind a).bind fun r =>
    (br (!r.1.1)
      (some (([], false, ()), ()))
      (((spec_l4One N (g.1, g.2) kind b).bind fun r1 =>
        (br (!r1.1.1)
          (some (([], false, ()), ()))
          (((spec_l4Between N (g.1, g.2) kind a b).bind fun r2 =>
            some ((r2.1.2.1, true, ()), ()))))))))
noncomputable def spec_ThresholdWay_S (N : Nat) : FSum := ⟨spec_ThresholdWay_ps, spec_ThresholdWay_rs, fun x => spec_ThresholdWay N x.1 x.2.1 x.2.2.1 x.2.2.2.1⟩
theorem spec_ThresholdWay_run (N : Nat) (x : argsT spec_ThresholdWay_ps) : spec_ThresholdWay N x.1 x.2.1 x.2.2.1 x.2.2.2.1 = funF (spec_ThresholdWay_G N) tab [] Tryz.f18 spec_ThresholdWay_ps spec_ThresholdWay_rs x := by kernel_rfl
theorem spec_ThresholdWay_pc (N : Nat) : PC Tryz.prog 18 (spec_ThresholdWay_S N) := by
  have e : spec_ThresholdWay_S N = ⟨spec_ThresholdWay_ps, spec_ThresholdWay_rs, funF (spec_ThresholdWay_G N) tab [] Tryz.f18 spec_ThresholdWay_ps spec_ThresholdWay_rs⟩ := congrArg (FSum.mk spec_ThresholdWay_ps spec_ThresholdWay_rs) (funext (spec_ThresholdWay_run N))
  rw [e]
  exact fun_ok (c := spec_ThresholdWay_code) progOk (spec_ThresholdWay_gok N) (draw_ok progOk (spec_ThresholdWay_gok N)) Tryz.call18 Tryz.func18 (by kernel_rfl) (lsOk_at (L := []) trivial) (by kernel_rfl) (by kernel_rfl) (by kernel_rfl) (by kernel_rfl) (by kernel_rfl)

/-! ### impl_between -/
abbrev impl_between_ps : List (PV.Mode × Ty) := [(.ro, I), (.ro, I), (.ro, I)]
abbrev impl_between_rs : List (Bool × Ty) := [(true, .bool)]
noncomputable def impl_between_G (N : Nat) : GTab := gOf []
theorem impl_between_gok (N : Nat) : GOk Tryz.prog (impl_between_G N) := gOf_ok trivial
noncomputable def impl_between_code : Code := (Tryz.f204.body).getD .skip
noncomputable def impl_between (N : Nat) (n : Int) (low : Int) (high : Int) : Option ((Bool × Unit) × (Unit)) :=
  (br (ile low n)
    (some (((ile n high), ()), ()))
    (some ((false, ()), ())))
noncomputable def impl_between_S (N : Nat) : FSum := ⟨impl_between_ps, impl_between_rs, fun x => impl_between N x.1 x.2.1 x.2.2.1⟩
theorem impl_between_run (N : Nat) (x : argsT impl_between_ps) : impl_between N x.1 x.2.1 x.2.2.1 = funF (impl_between_G N) tab [] Tryz.f204 impl_between_ps impl_between_rs x := by kernel_rfl
theorem impl_between_pc (N : Nat) : PC Tryz.prog 204 (impl_between_S N) := by
  have e : impl_between_S N = ⟨impl_between_ps, impl_between_rs, funF (impl_between_G N) tab [] Tryz.f204 impl_between_ps impl_between_rs⟩ := congrArg (FSum.mk impl_between_ps impl_between_rs) (funext (impl_between_run N))
  rw [e]
  exact fun_ok (c := impl_between_code) progOk (impl_between_gok N) (draw_ok progOk (impl_between_gok N)) Tryz.call204 Tryz.func204 (by kernel_rfl) (lsOk_at (L := []) trivial) (by kernel_rfl) (by kernel_rfl) (by kernel_rfl) (by kernel_rfl) (by kernel_rfl)

/-! ### cmp_isNaN_int -/
abbrev cmp_isNaN_int_ps : List (PV.Mode × Ty) := [(.ro, I)]
abbrev cmp_isNaN_int_rs : List (Bool × Ty) := [(true, .bool)]
noncomputable def cmp_isNaN_int_G (N : Nat) : GTab := gOf []
theorem cmp_isNaN_int_gok (N : Nat) : GOk Tryz.prog (cmp_isNaN_int_G N) := gOf_ok trivial
noncomputable def cmp_isNaN_int_code : Code := (Tryz.f311.body).getD .skip
noncomputable def cmp_isNaN_int (N : Nat) (x : Int) : Option ((Bool × Unit) × (Unit)) :=
  some (((ine x x), ()), ())
noncomputable def cmp_isNaN_int_S (N : Nat) : FSum := ⟨cmp_isNaN_int_ps, cmp_isNaN_int_rs, fun x => cmp_isNaN_int N x.1⟩
theorem cmp_isNaN_int_run (N : Nat) (x : argsT cmp_isNaN_int_ps) : cmp_isNaN_int N x.1 = funF (cmp_isNaN_int_G N) tab [] Tryz.f311 cmp_isNaN_int_ps cmp_isNaN_int_rs x := by kernel_rfl
theorem cmp_isNaN_int_pc (N : Nat) : PC Tryz.prog 311 (cmp_isNaN_int_S N) := by
  have e : cmp_isNaN_int_S N = ⟨cmp_isNaN_int_ps, cmp_isNaN_int_rs, funF (cmp_isNaN_int_G N) tab [] Tryz.f311 cmp_isNaN_int_ps cmp_isNaN_int_rs⟩ := congrArg (FSum.mk cmp_isNaN_int_ps cmp_isNaN_int_rs) (funext (cmp_isNaN_int_run N))
  rw [e]
  exact fun_ok (c := cmp_isNaN_int_code) progOk (cmp_isNaN_int_gok N) (draw_ok progOk (cmp_isNaN_int_gok N)) Tryz.call311 Tryz.func311 (by kernel_rfl) (lsOk_at (L := []) trivial) (by kernel_rfl) (by kernel_rfl) (by kernel_rfl) (by kernel_rfl) (by kernel_rfl)

/-! ### cmp_Compare_int -/
abbrev cmp_Compare_int_ps : List (PV.Mode × Ty) := [(.ro, I), (.ro, I)]
abbrev cmp_Compare_int_rs : List (Bool × Ty) := [(true, I)]
noncomputable def cmp_Compare_int_G (N : Nat) : GTab := gOf [(311, cmp_isNaN_int_S N)]
theorem cmp_Compare_int_gok (N : Nat) : GOk Tryz.prog (cmp_Compare_int_G N) := gOf_ok ⟨cmp_isNaN_int_pc N, trivial⟩
noncomputable def cmp_Compare_int_code : Code := (Tryz.f253.body).getD .skip
noncomputable def cmp_Compare_int (N : Nat) (x : Int) (y : Int) : Option ((Int × Unit) × (Unit)) :=
  ((cmp_isNaN_int N x).bind fun r =>
    ((cmp_isNaN_int N y).bind fun r1 =>
      (br r.1.1
        ((br r1.1.1
          (some ((0, ()), ()))
          (some (((-1), ()), ()))))
        ((br r1.1.1
          (some ((1, ()), ()))
          ((br (ilt x y)
            (some (((-1), ()), ()))
            ((br (ilt y x)
              (some ((1, ()), ()))
              (some ((0, ()), ())))))))))))
noncomputable def cmp_Compare_int_S (N : Nat) : FSum := ⟨cmp_Compare_int_ps, cmp_Compare_int_rs, fun x => cmp_Compare_int N x.1 x.2.1⟩
theorem cmp_Compare_int_run (N : Nat) (x : argsT cmp_Compare_int_ps) : cmp_Compare_int N x.1 x.2.1 = funF (cmp_Compare_int_G N) tab [] Tryz.f253 cmp_Compare_int_ps cmp_Compare_int_rs x := by kernel_rfl
theorem cmp_Compare_int_pc (N : Nat) : PC Tryz.prog 253 (cmp_Compare_int_S N) := by
  have e : cmp_Compare_int_S N = ⟨cmp_Compare_int_ps, cmp_Compare_int_rs, funF (cmp_Compare_int_G N) tab [] Tryz.f253 cmp_Compare_int_ps cmp_Compare_int_rs⟩ := congrArg (FSum.mk cmp_Compare_int_ps cmp_Compare_int_rs) (funext (cmp_Compare_int_run N))
  rw [e]
  exact fun_ok (c := cmp_Compare_int_code) progOk (cmp_Compare_int_gok N) (draw_ok progOk (cmp_Compare_int_gok N)) Tryz.call253 Tryz.func253 (by kernel_rfl) (lsOk_at (L := []) trivial) (by kernel_rfl) (by kernel_rfl) (by kernel_rfl) (by kernel_rfl) (by kernel_rfl)

/-! ### cmp_Or_int -/
abbrev cmp_Or_int_ps : List (PV.Mode × Ty) := [(.ro, LI)]
abbrev cmp_Or_int_rs : List (Bool × Ty) := [(true, I)]
noncomputable def cmp_Or_int_G (N : Nat) : GTab := gOf []
theorem cmp_Or_int_gok (N : Nat) : GOk Tryz.prog (cmp_Or_int_G N) := gOf_ok trivial
noncomputable def cmp_Or_int_code : Code := (Tryz.f256.body).getD .skip
noncomputable def cmp_Or_int_l0_sh : Sh := ⟨[(3, .one (.ro I)), (6, .one (.ro LI)), (7, .one (.ro I)), (8, .one (.ro I))], []⟩
noncomputable def cmp_Or_int_l0_ex : List (Ex × Sh) := [(.ret, ⟨[(2, .one (.ro I))], []⟩), (.exit 0, ⟨[(3, .one (.ro I))], []⟩)]
noncomputable def cmp_Or_int_l0 {R : Type} (N : Nat) (k0 : Int → Option R) (k1 : Int → Option R) : Nat → Int → (List Int) → Int → Int → Option R
  | 0, _, _, _, _ => none
  | K + 1, zero, x, x1, x2 =>
    (br (ilt x2 x1)
      ((chk (inb x x2)
        (br (ine (rdI x x2) zero)
        (k0 (rdI x x2))
        (cmp_Or_int_l0 N k0 k1 K zero x x1 (IntKind.i64.wrap (x2 + 1))))))
      (k1 zero))
noncomputable def cmp_Or_int_l0_again {R : Type} (N : Nat) (ks : (j : Nat) → ((cmp_Or_int_l0_ex.getD j (.ret, Sh.none)).2).T → Option R) (k : Nat) (x : cmp_Or_int_l0_sh.T) : Option R :=
  cmp_Or_int_l0 N (fun y0 => ks 0 ((y0, ()), ())) (fun y0 => ks 1 ((y0, ()), ())) k x.1.1 x.1.2.1 x.1.2.2.1 x.1.2.2.2.1
noncomputable def cmp_Or_int_l0_s (N : Nat) : LSum := ⟨cmp_Or_int_l0_sh, cmp_Or_int_l0_ex, fun x ks => cmp_Or_int_l0_again N ks N x⟩
theorem cmp_Or_int_l0_step (N : Nat) (R : Type) (k : Nat) (x : cmp_Or_int_l0_sh.T) (ks : (j : Nat) → ((cmp_Or_int_l0_ex.getD j (.ret, Sh.none)).2).T → Option R) : cmp_Or_int_l0_again N ks (k + 1) x = roundF (cmp_Or_int_G N) tab [] (loopAt cmp_Or_int_code 0) cmp_Or_int_l0_sh cmp_Or_int_l0_ex (fun y => cmp_Or_int_l0_again N ks k y) ks x := by kernel_rfl
theorem cmp_Or_int_l0_ok (N : Nat) : LoopOk Tryz.prog Tryz.f256.ntmps (cmp_Or_int_l0_s N) (loopAt cmp_Or_int_code 0) :=
  loop_ok (l := cmp_Or_int_l0_s N) progOk (cmp_Or_int_gok N) (draw_ok progOk (cmp_Or_int_gok N)) (fun R k x ks => cmp_Or_int_l0_again N ks k x) (fun _ _ _ => rfl) (fun R k x ks => cmp_Or_int_l0_step N R k x ks) (fun R x ks r h => ⟨N, h⟩) (lsOk_at (L := []) trivial) (by kernel_rfl) (by kernel_rfl)
noncomputable def cmp_Or_int (N : Nat) (vals : (List Int)) : Option ((Int × Unit) × (Unit)) :=
  cmp_Or_int_l0 N (fun x => some ((x, ()), ())) (fun zero => some ((zero, ()), ())) N 0 vals (tLen vals) 0
noncomputable def cmp_Or_int_S (N : Nat) : FSum := ⟨cmp_Or_int_ps, cmp_Or_int_rs, fun x => cmp_Or_int N x.1⟩
theorem cmp_Or_int_run (N : Nat) (x : argsT cmp_Or_int_ps) : cmp_Or_int N x.1 = funF (cmp_Or_int_G N) tab [cmp_Or_int_l0_s N] Tryz.f256 cmp_Or_int_ps cmp_Or_int_rs x := by kernel_rfl
theorem cmp_Or_int_pc (N : Nat) : PC Tryz.prog 256 (cmp_Or_int_S N) := by
  have e : cmp_Or_int_S N = ⟨cmp_Or_int_ps, cmp_Or_int_rs, funF (cmp_Or_int_G N) tab [cmp_Or_int_l0_s N] Tryz.f256 cmp_Or_int_ps cmp_Or_int_rs⟩ := congrArg (FSum.mk cmp_Or_int_ps cmp_Or_int_rs) (funext (cmp_Or_int_run N))
  rw [e]
  exact fun_ok (c := cmp_Or_int_code) progOk (cmp_Or_int_gok N) (draw_ok progOk (cmp_Or_int_gok N)) Tryz.call256 Tryz.func256 (by kernel_rfl) (lsOk_at (L := [cmp_Or_int_l0_s N]) ⟨cmp_Or_int_l0_ok N, trivial⟩) (by kernel_rfl) (by kernel_rfl) (by kernel_rfl) (by kernel_rfl) (by kernel_rfl)

/-! ### impl_comparePairs -/
abbrev impl_comparePairs_ps : List (PV.Mode × Ty) := [(.ro, QII), (.ro, QII)]
abbrev impl_comparePairs_rs : List (Bool × Ty) := [(true, I)]
noncomputable def impl_comparePairs_G (N : Nat) : GTab := gOf [(253, cmp_Compare_int_S N), (256, cmp_Or_int_S N)]
theorem impl_comparePairs_gok (N : Nat) : GOk Tryz.prog (impl_comparePairs_G N) := gOf_ok ⟨cmp_Compare_int_pc N, cmp_Or_int_pc N, trivial⟩
noncomputable def impl_comparePairs_code : Code := (Tryz.f172.body).getD .skip
noncomputable def impl_comparePairs (N : Nat) (a : (Int × Int)) (b : (Int × Int)) : Option ((Int × Unit) × (Unit)) :=
  ((cmp_Compare_int N a.1 b.1).bind fun r =>
    ((cmp_Compare_int N a.2 b.2).bind fun r1 =>
      ((cmp_Or_int N [r.1.1, r1.1.1]).bind fun r2 =>
        some ((r2.1.1, ()), ()))))
noncomputable def impl_comparePairs_S (N : Nat) : FSum := ⟨impl_comparePairs_ps, impl_comparePairs_rs, fun x => impl_comparePairs N x.1 x.2.1⟩
theorem impl_comparePairs_run (N : Nat) (x : argsT impl_comparePairs_ps) : impl_comparePairs N x.1 x.2.1 = funF (impl_comparePairs_G N) tab [] Tryz.f172 impl_comparePairs_ps impl_comparePairs_rs x := by kernel_rfl
theorem impl_comparePairs_pc (N : Nat) : PC Tryz.prog 172 (impl_comparePairs_S N) := by
  have e : impl_comparePairs_S N = ⟨impl_comparePairs_ps, impl_comparePairs_rs, funF (impl_comparePairs_G N) tab [] Tryz.f172 impl_comparePairs_ps impl_comparePairs_rs⟩ := congrArg (FSum.mk impl_comparePairs_ps impl_comparePairs_rs) (funext (impl_comparePairs_run N))
  rw [e]
  exact fun_ok (c := impl_comparePairs_code) progOk (impl_comparePairs_gok N) (draw_ok progOk (impl_comparePairs_gok N)) Tryz.call172 Tryz.func172 (by kernel_rfl) (lsOk_at (L := []) trivial) (by kernel_rfl) (by kernel_rfl) (by kernel_rfl) (by kernel_rfl) (by kernel_rfl)

/-! ### impl_isPairs -/
abbrev impl_isPairs_ps : List (PV.Mode × Ty) := [(.ro, LQII), (.ro, I)]
abbrev impl_isPairs_rs : List (Bool × Ty) := [(true, .bool)]
noncomputable def impl_isPairs_G (N : Nat) : GTab := gOf [(172, impl_comparePairs_S N)]
theorem impl_isPairs_gok (N : Nat) : GOk Tryz.prog (impl_isPairs_G N) := gOf_ok ⟨impl_comparePairs_pc N, trivial⟩
noncomputable def impl_isPairs_code : Code := (Tryz.f232.body).getD .skip
noncomputable def impl_isPairs_l0_sh : Sh := ⟨[(0, .one (.ro LQII)), (1, .one (.ro I)), (7, .one (.ro LQII)), (8, .one (.ro I)), (9, .one (.ro I))], []⟩
noncomputable def impl_isPairs_l0_ex : List (Ex × Sh) := [(.ret, ⟨[(4, .one (.ro .bool))], []⟩), (.exit 0, ⟨[], []⟩)]
noncomputable def impl_isPairs_l0 {R : Type} (N : Nat) (k0 : Bool → Option R) (k1 : Unit → Option R) : Nat → (List (Int × Int)) → Int → (List (Int × Int)) → Int → Int → Option R
  | 0, _, _, _, _, _ => none
  | K + 1, list1, below1, x, x1, x2 =>
    (br (ilt x2 x1)
      ((chk (inb x x2)
        (br (ilt ((rdP x x2).1) 0)
        (k0 false)
        ((br (ile ((rdP x x2).2) ((rdP x x2).1))
          (k0 false)
          ((br (ile below1 ((rdP x x2).2))
            (k0 false)
            ((br (ilt 0 x2)
              ((chk (inb list1 (IntKind.i64.wrap (x2 - 1)))
                ((impl_comparePairs N (rdP list1 (IntKind.i64.wrap (x2 - 1))) ((rdP x x2).1, (rdP x x2).2)).bind fun r =>
                (br (ile 0 r.1.1)
                  (k0 false)
                  (impl_isPairs_l0 N k0 k1 K list1 below1 x x1 (IntKind.i64.wrap (x2 + 1)))))))
              (impl_isPairs_l0 N k0 k1 K list1 below1 x x1 (IntKind.i64.wrap (x2 + 1))))))))))))
      (k1 ()))
noncomputable def impl_isPairs_l0_again {R : Type} (N : Nat) (ks : (j : Nat) → ((impl_isPairs_l0_ex.getD j (.ret, Sh.none)).2).T → Option R) (k : Nat) (x : impl_isPairs_l0_sh.T) : Option R :=
  impl_isPairs_l0 N (fun y0 => ks 0 ((y0, ()), ())) (fun (_ : Unit) => ks 1 ((), ())) k x.1.1 x.1.2.1 x.1.2.2.1 x.1.2.2.2.1 x.1.2.2.2.2.1
noncomputable def impl_isPairs_l0_s (N : Nat) : LSum := ⟨impl_isPairs_l0_sh, impl_isPairs_l0_ex, fun x ks => impl_isPairs_l0_again N ks N x⟩
theorem impl_isPairs_l0_step (N : Nat) (R : Type) (k : Nat) (x : impl_isPairs_l0_sh.T) (ks : (j : Nat) → ((impl_isPairs_l0_ex.getD j (.ret, Sh.none)).2).T → Option R) : impl_isPairs_l0_again N ks (k + 1) x = roundF (impl_isPairs_G N) tab [] (loopAt impl_isPairs_code 0) impl_isPairs_l0_sh impl_isPairs_l0_ex (fun y => impl_isPairs_l0_again N ks k y) ks x := by kernel_rfl
theorem impl_isPairs_l0_ok (N : Nat) : LoopOk Tryz.prog Tryz.f232.ntmps (impl_isPairs_l0_s N) (loopAt impl_isPairs_code 0) :=
  loop_ok (l := impl_isPairs_l0_s N) progOk (impl_isPairs_gok N) (draw_ok progOk (impl_isPairs_gok N)) (fun R k x ks => impl_isPairs_l0_again N ks k x) (fun _ _ _ => rfl) (fun R k x ks => impl_isPairs_l0_step N R k x ks) (fun R x ks r h => ⟨N, h⟩) (lsOk_at (L := []) trivial) (by kernel_rfl) (by kernel_rfl)
noncomputable def impl_isPairs (N : Nat) (list : (List (Int × Int))) (below : Int) : Option ((Bool × Unit) × (Unit)) :=
  impl_isPairs_l0 N (fun x => some ((x, ()), ())) (fun (_ : Unit) => some ((true, ()), ())) N list below list (tLen list) 0
noncomputable def impl_isPairs_S (N : Nat) : FSum := ⟨impl_isPairs_ps, impl_isPairs_rs, fun x => impl_isPairs N x.1 x.2.1⟩
theorem impl_isPairs_run (N : Nat) (x : argsT impl_isPairs_ps) : impl_isPairs N x.1 x.2.1 = funF (impl_isPairs_G N) tab [impl_isPairs_l0_s N] Tryz.f232 impl_isPairs_ps impl_isPairs_rs x := by kernel_rfl
theorem impl_isPairs_pc (N : Nat) : PC Tryz.prog 232 (impl_isPairs_S N) := by
  have e : impl_isPairs_S N = ⟨impl_isPairs_ps, impl_isPairs_rs, funF (impl_isPairs_G N) tab [impl_isPairs_l0_s N] Tryz.f232 impl_isPairs_ps impl_isPairs_rs⟩ := congrArg (FSum.mk impl_isPairs_ps impl_isPairs_rs) (funext (impl_isPairs_run N))
  rw [e]
  exact fun_ok (c := impl_isPairs_code) progOk (impl_isPairs_gok N) (draw_ok progOk (impl_isPairs_gok N)) Tryz.call232 Tryz.func232 (by kernel_rfl) (lsOk_at (L := [impl_isPairs_l0_s N]) ⟨impl_isPairs_l0_ok N, trivial⟩) (by kernel_rfl) (by kernel_rfl) (by kernel_rfl) (by kernel_rfl) (by kernel_rfl)

/-! ### impl_IsGraph -/
abbrev impl_IsGraph_ps : List (PV.Mode × Ty) := [(.ro, QILQII)]
abbrev impl_IsGraph_rs : List (Bool × Ty) := [(true, .bool)]
noncomputable def impl_IsGraph_G (N : Nat) : GTab := gOf [(204, impl_between_S N), (232, impl_isPairs_S N)]
theorem impl_IsGraph_gok (N : Nat) : GOk Tryz.prog (impl_IsGraph_G N) := gOf_ok ⟨impl_between_pc N, impl_isPairs_pc N, trivial⟩
noncomputable def impl_IsGraph_code : Code := (Tryz.f138.body).getD .skip
noncomputable def impl_IsGraph (N : Nat) (g : (Int × (List (Int × Int)))) : Option ((Bool × Unit) × (Unit)) :=
  ((impl_between N g.1 0 8).bind fun r =>
    (br r.1.1
      (((impl_isPairs N g.2 g.1).bind fun r1 =>
        some ((r1.1.1, ()), ())))
      (some ((false, ()), ()))))
noncomputable def impl_IsGraph_S (N : Nat) : FSum := ⟨impl_IsGraph_ps, impl_IsGraph_rs, fun x => impl_IsGraph N x.1⟩
theorem impl_IsGraph_run (N : Nat) (x : argsT impl_IsGraph_ps) : impl_IsGraph N x.1 = funF (impl_IsGraph_G N) tab [] Tryz.f138 impl_IsGraph_ps impl_IsGraph_rs x := by kernel_rfl
theorem impl_IsGraph_pc (N : Nat) : PC Tryz.prog 138 (impl_IsGraph_S N) := by
  have e : impl_IsGraph_S N = ⟨impl_IsGraph_ps, impl_IsGraph_rs, funF (impl_IsGraph_G N) tab [] Tryz.f138 impl_IsGraph_ps impl_IsGraph_rs⟩ := congrArg (FSum.mk impl_IsGraph_ps impl_IsGraph_rs) (funext (impl_IsGraph_run N))
  rw [e]
  exact fun_ok (c := impl_IsGraph_code) progOk (impl_IsGraph_gok N) (draw_ok progOk (impl_IsGraph_gok N)) Tryz.call138 Tryz.func138 (by kernel_rfl) (lsOk_at (L := []) trivial) (by kernel_rfl) (by kernel_rfl) (by kernel_rfl) (by kernel_rfl) (by kernel_rfl)

/-! ### impl_isKind -/
abbrev impl_isKind_ps : List (PV.Mode × Ty) := [(.ro, I)]
abbrev impl_isKind_rs : List (Bool × Ty) := [(true, .bool)]
noncomputable def impl_isKind_G (N : Nat) : GTab := gOf [(204, impl_between_S N)]
theorem impl_isKind_gok (N : Nat) : GOk Tryz.prog (impl_isKind_G N) := gOf_ok ⟨impl_between_pc N, trivial⟩
noncomputable def impl_isKind_code : Code := (Tryz.f139.body).getD .skip
noncomputable def impl_isKind (N : Nat) (kind : Int) : Option ((Bool × Unit) × (Unit)) :=
  ((impl_between N kind 1 3).bind fun r =>
    some ((r.1.1, ()), ()))
noncomputable def impl_isKind_S (N : Nat) : FSum := ⟨impl_isKind_ps, impl_isKind_rs, fun x => impl_isKind N x.1⟩
theorem impl_isKind_run (N : Nat) (x : argsT impl_isKind_ps) : impl_isKind N x.1 = funF (impl_isKind_G N) tab [] Tryz.f139 impl_isKind_ps impl_isKind_rs x := by kernel_rfl
theorem impl_isKind_pc (N : Nat) : PC Tryz.prog 139 (impl_isKind_S N) := by
  have e : impl_isKind_S N = ⟨impl_isKind_ps, impl_isKind_rs, funF (impl_isKind_G N) tab [] Tryz.f139 impl_isKind_ps impl_isKind_rs⟩ := congrArg (FSum.mk impl_isKind_ps impl_isKind_rs) (funext (impl_isKind_run N))
  rw [e]
  exact fun_ok (c := impl_isKind_code) progOk (impl_isKind_gok N) (draw_ok progOk (impl_isKind_gok N)) Tryz.call139 Tryz.func139 (by kernel_rfl) (lsOk_at (L := []) trivial) (by kernel_rfl) (by kernel_rfl) (by kernel_rfl) (by kernel_rfl) (by kernel_rfl)

/-! ### impl_isRising -/
abbrev impl_isRising_ps : List (PV.Mode × Ty) := [(.ro, LI), (.ro, I)]
abbrev impl_isRising_rs : List (Bool × Ty) := [(true, .bool)]
noncomputable def impl_isRising_G (N : Nat) : GTab := gOf [(204, impl_between_S N)]
theorem impl_isRising_gok (N : Nat) : GOk Tryz.prog (impl_isRising_G N) := gOf_ok ⟨impl_between_pc N, trivial⟩
noncomputable def impl_isRising_code : Code := (Tryz.f144.body).getD .skip
noncomputable def impl_isRising_l0_sh : Sh := ⟨[(0, .one (.ro LI)), (1, .one (.ro I)), (7, .one (.ro LI)), (8, .one (.ro I)), (9, .one (.ro I))], []⟩
noncomputable def impl_isRising_l0_ex : List (Ex × Sh) := [(.ret, ⟨[(4, .one (.ro .bool))], []⟩), (.exit 0, ⟨[], []⟩)]
noncomputable def impl_isRising_l0 {R : Type} (N : Nat) (k0 : Bool → Option R) (k1 : Unit → Option R) : Nat → (List Int) → Int → (List Int) → Int → Int → Option R
  | 0, _, _, _, _, _ => none
  | K + 1, list1, below1, x, x1, x2 =>
    (br (ilt x2 x1)
      ((chk (inb x x2)
        ((impl_between N (rdI x x2) 0 (IntKind.i64.wrap (below1 - 1))).bind fun r =>
        (br (!r.1.1)
          (k0 false)
          ((br (ilt 0 x2)
            ((chk (inb list1 (IntKind.i64.wrap (x2 - 1)))
              (br (ile (rdI x x2) (rdI list1 (IntKind.i64.wrap (x2 - 1))))
              (k0 false)
              (impl_isRising_l0 N k0 k1 K list1 below1 x x1 (IntKind.i64.wrap (x2 + 1))))))
            (impl_isRising_l0 N k0 k1 K list1 below1 x x1 (IntKind.i64.wrap (x2 + 1)))))))))
      (k1 ()))
noncomputable def impl_isRising_l0_again {R : Type} (N : Nat) (ks : (j : Nat) → ((impl_isRising_l0_ex.getD j (.ret, Sh.none)).2).T → Option R) (k : Nat) (x : impl_isRising_l0_sh.T) : Option R :=
  impl_isRising_l0 N (fun y0 => ks 0 ((y0, ()), ())) (fun (_ : Unit) => ks 1 ((), ())) k x.1.1 x.1.2.1 x.1.2.2.1 x.1.2.2.2.1 x.1.2.2.2.2.1
noncomputable def impl_isRising_l0_s (N : Nat) : LSum := ⟨impl_isRising_l0_sh, impl_isRising_l0_ex, fun x ks => impl_isRising_l0_again N ks N x⟩
theorem impl_isRising_l0_step (N : Nat) (R : Type) (k : Nat) (x : impl_isRising_l0_sh.T) (ks : (j : Nat) → ((impl_isRising_l0_ex.getD j (.ret, Sh.none)).2).T → Option R) : impl_isRising_l0_again N ks (k + 1) x = roundF (impl_isRising_G N) tab [] (loopAt impl_isRising_code 0) impl_isRising_l0_sh impl_isRising_l0_ex (fun y => impl_isRising_l0_again N ks k y) ks x := by kernel_rfl
theorem impl_isRising_l0_ok (N : Nat) : LoopOk Tryz.prog Tryz.f144.ntmps (impl_isRising_l0_s N) (loopAt impl_isRising_code 0) :=
  loop_ok (l := impl_isRising_l0_s N) progOk (impl_isRising_gok N) (draw_ok progOk (impl_isRising_gok N)) (fun R k x ks => impl_isRising_l0_again N ks k x) (fun _ _ _ => rfl) (fun R k x ks => impl_isRising_l0_step N R k x ks) (fun R x ks r h => ⟨N, h⟩) (lsOk_at (L := []) trivial) (by kernel_rfl) (by kernel_rfl)
noncomputable def impl_isRising (N : Nat) (list : (List Int)) (below : Int) : Option ((Bool × Unit) × (Unit)) :=
  impl_isRising_l0 N (fun x => some ((x, ()), ())) (fun (_ : Unit) => some ((true, ()), ())) N list below list (tLen list) 0
noncomputable def impl_isRising_S (N : Nat) : FSum := ⟨impl_isRising_ps, impl_isRising_rs, fun x => impl_isRising N x.1 x.2.1⟩
theorem impl_isRising_run (N : Nat) (x : argsT impl_isRising_ps) : impl_isRising N x.1 x.2.1 = funF (impl_isRising_G N) tab [impl_isRising_l0_s N] Tryz.f144 impl_isRising_ps impl_isRising_rs x := by kernel_rfl
theorem impl_isRising_pc (N : Nat) : PC Tryz.prog 144 (impl_isRising_S N) := by
  have e : impl_isRising_S N = ⟨impl_isRising_ps, impl_isRising_rs, funF (impl_isRising_G N) tab [impl_isRising_l0_s N] Tryz.f144 impl_isRising_ps impl_isRising_rs⟩ := congrArg (FSum.mk impl_isRising_ps impl_isRising_rs) (funext (impl_isRising_run N))
  rw [e]
  exact fun_ok (c := impl_isRising_code) progOk (impl_isRising_gok N) (draw_ok progOk (impl_isRising_gok N)) Tryz.call144 Tryz.func144 (by kernel_rfl) (lsOk_at (L := [impl_isRising_l0_s N]) ⟨impl_isRising_l0_ok N, trivial⟩) (by kernel_rfl) (by kernel_rfl) (by kernel_rfl) (by kernel_rfl) (by kernel_rfl)
end Go.Proofs.YtbnjcjpnpidhmaaGreat
