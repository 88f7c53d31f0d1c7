/- Functions of the program as functions on data. -/
import Derived.Test.YtgelipdkheahdaaGreatKempeSpaceFb
set_option linter.all false
namespace Go.Proofs.YtgelipdkheahdaaGreat
open Go Go.PV
/-! ### slices_choosePivotCmpFunc_LI -/
abbrev slices_choosePivotCmpFunc_LI_ps : List (PV.Mode × Ty) := [(.ro, LLI), (.ro, I), (.ro, I), (.ro, GLILII)]
abbrev slices_choosePivotCmpFunc_LI_rs : List (Bool × Ty) := [(true, I), (true, I)]
noncomputable def slices_choosePivotCmpFunc_LI_G (N : Nat) : GTab := gOf [(208, slices_medianAdjacentCmpFunc_LI_S N), (209, slices_medianCmpFunc_LI_S N)]
theorem slices_choosePivotCmpFunc_LI_gok (N : Nat) : GOk Tryz.prog (slices_choosePivotCmpFunc_LI_G N) := gOf_ok ⟨slices_medianAdjacentCmpFunc_LI_pc N, slices_medianCmpFunc_LI_pc N, trivial⟩
noncomputable def slices_choosePivotCmpFunc_LI_code : Code := (Tryz.f169.body).getD .skip
noncomputable def slices_choosePivotCmpFunc_LI (N : Nat) (data : (List (List Int))) (a : Int) (b : Int) (cmp : ((List Int) → (List Int) → Option Int)) : Option ((Int × Int × Unit) × (Unit)) :=
  (br (ile 8 (IntKind.i64.wrap (b - a)))
    ((br (ile 50 (IntKind.i64.wrap (b - a)))
      (((slices_medianAdjacentCmpFunc_LI N data (IntKind.i64.wrap (a + (IntKind.i64.wrap ((IntKind.i64.wrap ((IntKind.i64.wrap (b - a)).tdiv 4)) * 1)))) 0 cmp).bind fun r =>
        ((slices_medianAdjacentCmpFunc_LI N data (IntKind.i64.wrap (a + (IntKind.i64.wrap ((IntKind.i64.wrap ((IntKind.i64.wrap (b - a)).tdiv 4)) * 2)))) r.2.1 cmp).bind fun r1 =>
          ((slices_medianAdjacentCmpFunc_LI N data (IntKind.i64.wrap (a + (IntKind.i64.wrap ((IntKind.i64.wrap ((IntKind.i64.wrap (b - a)).tdiv 4)) * 3)))) r1.2.1 cmp).bind fun r2 =>
            ((slices_medianCmpFunc_LI N data r.1.1 r1.1.1 r2.1.1 r2.2.1 cmp).bind fun r3 =>
              (br (ieq r3.2.1 0)
                (some ((r3.1.1, 1, ()), ()))
                ((br (ieq r3.2.1 12)
                  (some ((r3.1.1, 2, ()), ()))
                  (some ((r3.1.1, 0, ()), ()))))))))))
      (((slices_medianCmpFunc_LI N data (IntKind.i64.wrap (a + (IntKind.i64.wrap ((IntKind.i64.wrap ((IntKind.i64.wrap (b - a)).tdiv 4)) * 1)))) (IntKind.i64.wrap (a + (IntKind.i64.wrap ((IntKind.i64.wrap ((IntKind.i64.wrap (b - a)).tdiv 4)) * 2)))) (IntKind.i64.wrap (a + (IntKind.i64.wrap ((IntKind.i64.wrap ((IntKind.i64.wrap (b - a)).tdiv 4)) * 3)))) 0 cmp).bind fun r4 =>
        (br (ieq r4.2.1 0)
          (some ((r4.1.1, 1, ()), ()))
          ((br (ieq r4.2.1 12)
            (some ((r4.1.1, 2, ()), ()))
            (some ((r4.1.1, 0, ()), ())))))))))
    (some (((IntKind.i64.wrap (a + (IntKind.i64.wrap ((IntKind.i64.wrap ((IntKind.i64.wrap (b - a)).tdiv 4)) * 2)))), 1, ()), ())))
noncomputable def slices_choosePivotCmpFunc_LI_S (N : Nat) : FSum := ⟨slices_choosePivotCmpFunc_LI_ps, slices_choosePivotCmpFunc_LI_rs, fun x => slices_choosePivotCmpFunc_LI N x.1 x.2.1 x.2.2.1 x.2.2.2.1⟩
theorem slices_choosePivotCmpFunc_LI_run (N : Nat) (x : argsT slices_choosePivotCmpFunc_LI_ps) : slices_choosePivotCmpFunc_LI N x.1 x.2.1 x.2.2.1 x.2.2.2.1 = funF (slices_choosePivotCmpFunc_LI_G N) tab [] Tryz.f169 slices_choosePivotCmpFunc_LI_ps slices_choosePivotCmpFunc_LI_rs x := by kernel_rfl
theorem slices_choosePivotCmpFunc_LI_pc (N : Nat) : PC Tryz.prog 169 (slices_choosePivotCmpFunc_LI_S N) := by
  have e : slices_choosePivotCmpFunc_LI_S N = ⟨slices_choosePivotCmpFunc_LI_ps, slices_choosePivotCmpFunc_LI_rs, funF (slices_choosePivotCmpFunc_LI_G N) tab [] Tryz.f169 slices_choosePivotCmpFunc_LI_ps slices_choosePivotCmpFunc_LI_rs⟩ := congrArg (FSum.mk slices_choosePivotCmpFunc_LI_ps slices_choosePivotCmpFunc_LI_rs) (funext (slices_choosePivotCmpFunc_LI_run N))
  rw [e]
  exact fun_ok (c := slices_choosePivotCmpFunc_LI_code) progOk (slices_choosePivotCmpFunc_LI_gok N) (draw_ok progOk (slices_choosePivotCmpFunc_LI_gok N)) Tryz.call169 Tryz.func169 (by kernel_rfl) (lsOk_at (L := []) trivial) (by kernel_rfl) (by kernel_rfl) (by kernel_rfl) (by kernel_rfl) (by kernel_rfl)

/-! ### slices_partialInsertionSortCmpFunc_LI -/
abbrev slices_partialInsertionSortCmpFunc_LI_ps : List (PV.Mode × Ty) := [(.ro, LLI), (.ro, I), (.ro, I), (.ro, GLILII)]
abbrev slices_partialInsertionSortCmpFunc_LI_rs : List (Bool × Ty) := [(true, .bool)]
noncomputable def slices_partialInsertionSortCmpFunc_LI_G (N : Nat) : GTab := gOf []
theorem slices_partialInsertionSortCmpFunc_LI_gok (N : Nat) : GOk Tryz.prog (slices_partialInsertionSortCmpFunc_LI_G N) := gOf_ok trivial
noncomputable def slices_partialInsertionSortCmpFunc_LI_code : Code := (Tryz.f171.body).getD .skip
noncomputable def slices_partialInsertionSortCmpFunc_LI_l0_0_sh : Sh := ⟨[(0, .one (.ro LLI)), (1, .one (.ro I)), (2, .one (.ro I)), (3, .one (.ro GLILII)), (9, .one (.ro I)), (10, .one (.ro I))], []⟩
noncomputable def slices_partialInsertionSortCmpFunc_LI_l0_0_ex : List (Ex × Sh) := [(.exit 2, ⟨[(0, .one (.ro LLI)), (1, .one (.ro I)), (2, .one (.ro I)), (3, .one (.ro GLILII)), (9, .one (.ro I)), (10, .one (.ro I))], []⟩)]
noncomputable def slices_partialInsertionSortCmpFunc_LI_l0_0 {R : Type} (N : Nat) (k0 : (List (List Int)) → Int → Int → ((List Int) → (List Int) → Option Int) → Int → Int → Option R) : Nat → (List (List Int)) → Int → Int → ((List Int) → (List Int) → Option Int) → Int → Int → Option R
  | 0, _, _, _, _, _, _ => none
  | K + 1, x6, x7, x8, x9, x10, x11 =>
    (br (ilt x10 x8)
      ((chk (inb x6 x10)
        (chk (inb x6 (IntKind.i64.wrap (x10 - 1)))
        ((x9 (rdL x6 x10) (rdL x6 (IntKind.i64.wrap (x10 - 1)))).bind fun v =>
        (br (!(ilt v 0))
        (slices_partialInsertionSortCmpFunc_LI_l0_0 N k0 K x6 x7 x8 x9 (IntKind.i64.wrap (x10 + 1)) x11)
        (k0 x6 x7 x8 x9 x10 x11))))))
      (k0 x6 x7 x8 x9 x10 x11))
noncomputable def slices_partialInsertionSortCmpFunc_LI_l0_0_again {R : Type} (N : Nat) (ks : (j : Nat) → ((slices_partialInsertionSortCmpFunc_LI_l0_0_ex.getD j (.ret, Sh.none)).2).T → Option R) (k : Nat) (x : slices_partialInsertionSortCmpFunc_LI_l0_0_sh.T) : Option R :=
  slices_partialInsertionSortCmpFunc_LI_l0_0 N (fun y0 y1 y2 y3 y4 y5 => ks 0 ((y0, y1, y2, y3, y4, y5, ()), ())) k x.1.1 x.1.2.1 x.1.2.2.1 x.1.2.2.2.1 x.1.2.2.2.2.1 x.1.2.2.2.2.2.1
noncomputable def slices_partialInsertionSortCmpFunc_LI_l0_0_s (N : Nat) : LSum := ⟨slices_partialInsertionSortCmpFunc_LI_l0_0_sh, slices_partialInsertionSortCmpFunc_LI_l0_0_ex, fun x ks => slices_partialInsertionSortCmpFunc_LI_l0_0_again N ks N x⟩
theorem slices_partialInsertionSortCmpFunc_LI_l0_0_step (N : Nat) (R : Type) (k : Nat) (x : slices_partialInsertionSortCmpFunc_LI_l0_0_sh.T) (ks : (j : Nat) → ((slices_partialInsertionSortCmpFunc_LI_l0_0_ex.getD j (.ret, Sh.none)).2).T → Option R) : slices_partialInsertionSortCmpFunc_LI_l0_0_again N ks (k + 1) x = roundF (slices_partialInsertionSortCmpFunc_LI_G N) tab [] (loopAt (loopAt slices_partialInsertionSortCmpFunc_LI_code 0) 0) slices_partialInsertionSortCmpFunc_LI_l0_0_sh slices_partialInsertionSortCmpFunc_LI_l0_0_ex (fun y => slices_partialInsertionSortCmpFunc_LI_l0_0_again N ks k y) ks x := by kernel_rfl
theorem slices_partialInsertionSortCmpFunc_LI_l0_0_ok (N : Nat) : LoopOk Tryz.prog Tryz.f171.ntmps (slices_partialInsertionSortCmpFunc_LI_l0_0_s N) (loopAt (loopAt slices_partialInsertionSortCmpFunc_LI_code 0) 0) :=
  loop_ok (l := slices_partialInsertionSortCmpFunc_LI_l0_0_s N) progOk (slices_partialInsertionSortCmpFunc_LI_gok N) (draw_ok progOk (slices_partialInsertionSortCmpFunc_LI_gok N)) (fun R k x ks => slices_partialInsertionSortCmpFunc_LI_l0_0_again N ks k x) (fun _ _ _ => rfl) (fun R k x ks => slices_partialInsertionSortCmpFunc_LI_l0_0_step N R k x ks) (fun R x ks r h => ⟨N, h⟩) (lsOk_at (L := []) trivial) (by kernel_rfl) (by kernel_rfl)
noncomputable def slices_partialInsertionSortCmpFunc_LI_l0_sh : Sh := ⟨[(0, .one (.ro LLI)), (1, .one (.ro I)), (2, .one (.ro I)), (3, .one (.ro GLILII)), (9, .one (.ro I)), (10, .one (.ro I))], []⟩
noncomputable def slices_partialInsertionSortCmpFunc_LI_l0_ex : List (Ex × Sh) := [(.ret, ⟨[(8, .one (.ro .bool))], []⟩), (.exit 0, ⟨[], []⟩)]
noncomputable def slices_partialInsertionSortCmpFunc_LI_l0 {R : Type} (N : Nat) (k0 : Bool → Option R) (k1 : Unit → Option R) : Nat → (List (List Int)) → Int → Int → ((List Int) → (List Int) → Option Int) → Int → Int → Option R
  | 0, _, _, _, _, _, _ => none
  | K + 1, x, x1, x2, x3, x4, x5 =>
    (br (ilt x5 5)
      (slices_partialInsertionSortCmpFunc_LI_l0_0 N (fun x6 x7 x8 x9 x10 x11 => (br (ieq x10 x8)
        (k0 true)
        ((br (ilt (IntKind.i64.wrap (x8 - x7)) 50)
          (k0 false)
          ((chk (inb x6 (IntKind.i64.wrap (x10 - 1)))
            (chk (inb x6 x10)
            (chk (inb x6 x10)
            none)))))))) N x x1 x2 x3 x4 x5)
      (k1 ()))
noncomputable def slices_partialInsertionSortCmpFunc_LI_l0_again {R : Type} (N : Nat) (ks : (j : Nat) → ((slices_partialInsertionSortCmpFunc_LI_l0_ex.getD j (.ret, Sh.none)).2).T → Option R) (k : Nat) (x : slices_partialInsertionSortCmpFunc_LI_l0_sh.T) : Option R :=
  slices_partialInsertionSortCmpFunc_LI_l0 N (fun y0 => ks 0 ((y0, ()), ())) (fun (_ : Unit) => ks 1 ((), ())) k x.1.1 x.1.2.1 x.1.2.2.1 x.1.2.2.2.1 x.1.2.2.2.2.1 x.1.2.2.2.2.2.1
noncomputable def slices_partialInsertionSortCmpFunc_LI_l0_s (N : Nat) : LSum := ⟨slices_partialInsertionSortCmpFunc_LI_l0_sh, slices_partialInsertionSortCmpFunc_LI_l0_ex, fun x ks => slices_partialInsertionSortCmpFunc_LI_l0_again N ks N x⟩
theorem slices_partialInsertionSortCmpFunc_LI_l0_step (N : Nat) (R : Type) (k : Nat) (x : slices_partialInsertionSortCmpFunc_LI_l0_sh.T) (ks : (j : Nat) → ((slices_partialInsertionSortCmpFunc_LI_l0_ex.getD j (.ret, Sh.none)).2).T → Option R) : slices_partialInsertionSortCmpFunc_LI_l0_again N ks (k + 1) x = roundF (slices_partialInsertionSortCmpFunc_LI_G N) tab [slices_partialInsertionSortCmpFunc_LI_l0_0_s N] (loopAt slices_partialInsertionSortCmpFunc_LI_code 0) slices_partialInsertionSortCmpFunc_LI_l0_sh slices_partialInsertionSortCmpFunc_LI_l0_ex (fun y => slices_partialInsertionSortCmpFunc_LI_l0_again N ks k y) ks x := by kernel_rfl
theorem slices_partialInsertionSortCmpFunc_LI_l0_ok (N : Nat) : LoopOk Tryz.prog Tryz.f171.ntmps (slices_partialInsertionSortCmpFunc_LI_l0_s N) (loopAt slices_partialInsertionSortCmpFunc_LI_code 0) :=
  loop_ok (l := slices_partialInsertionSortCmpFunc_LI_l0_s N) progOk (slices_partialInsertionSortCmpFunc_LI_gok N) (draw_ok progOk (slices_partialInsertionSortCmpFunc_LI_gok N)) (fun R k x ks => slices_partialInsertionSortCmpFunc_LI_l0_again N ks k x) (fun _ _ _ => rfl) (fun R k x ks => slices_partialInsertionSortCmpFunc_LI_l0_step N R k x ks) (fun R x ks r h => ⟨N, h⟩) (lsOk_at (L := [slices_partialInsertionSortCmpFunc_LI_l0_0_s N]) ⟨slices_partialInsertionSortCmpFunc_LI_l0_0_ok N, trivial⟩) (by kernel_rfl) (by kernel_rfl)
noncomputable def slices_partialInsertionSortCmpFunc_LI (N : Nat) (c : (List (List Int))) (c1 : Int) (c2 : Int) (c3 : ((List Int) → (List Int) → Option Int)) : Option ((Bool × Unit) × (Unit)) :=
  slices_partialInsertionSortCmpFunc_LI_l0 N (fun x => some ((x, ()), ())) (fun (_ : Unit) => some ((false, ()), ())) N c c1 c2 c3 (IntKind.i64.wrap (c1 + 1)) 0
noncomputable def slices_partialInsertionSortCmpFunc_LI_S (N : Nat) : FSum := ⟨slices_partialInsertionSortCmpFunc_LI_ps, slices_partialInsertionSortCmpFunc_LI_rs, fun x => slices_partialInsertionSortCmpFunc_LI N x.1 x.2.1 x.2.2.1 x.2.2.2.1⟩
theorem slices_partialInsertionSortCmpFunc_LI_run (N : Nat) (x : argsT slices_partialInsertionSortCmpFunc_LI_ps) : slices_partialInsertionSortCmpFunc_LI N x.1 x.2.1 x.2.2.1 x.2.2.2.1 = funF (slices_partialInsertionSortCmpFunc_LI_G N) tab [slices_partialInsertionSortCmpFunc_LI_l0_s N] Tryz.f171 slices_partialInsertionSortCmpFunc_LI_ps slices_partialInsertionSortCmpFunc_LI_rs x := by kernel_rfl
theorem slices_partialInsertionSortCmpFunc_LI_pc (N : Nat) : PC Tryz.prog 171 (slices_partialInsertionSortCmpFunc_LI_S N) := by
  have e : slices_partialInsertionSortCmpFunc_LI_S N = ⟨slices_partialInsertionSortCmpFunc_LI_ps, slices_partialInsertionSortCmpFunc_LI_rs, funF (slices_partialInsertionSortCmpFunc_LI_G N) tab [slices_partialInsertionSortCmpFunc_LI_l0_s N] Tryz.f171 slices_partialInsertionSortCmpFunc_LI_ps slices_partialInsertionSortCmpFunc_LI_rs⟩ := congrArg (FSum.mk slices_partialInsertionSortCmpFunc_LI_ps slices_partialInsertionSortCmpFunc_LI_rs) (funext (slices_partialInsertionSortCmpFunc_LI_run N))
  rw [e]
  exact fun_ok (c := slices_partialInsertionSortCmpFunc_LI_code) progOk (slices_partialInsertionSortCmpFunc_LI_gok N) (draw_ok progOk (slices_partialInsertionSortCmpFunc_LI_gok N)) Tryz.call171 Tryz.func171 (by kernel_rfl) (lsOk_at (L := [slices_partialInsertionSortCmpFunc_LI_l0_s N]) ⟨slices_partialInsertionSortCmpFunc_LI_l0_ok N, trivial⟩) (by kernel_rfl) (by kernel_rfl) (by kernel_rfl) (by kernel_rfl) (by kernel_rfl)

/-! ### slices_pdqsortCmpFunc_LI -/
abbrev slices_pdqsortCmpFunc_LI_ps : List (PV.Mode × Ty) := [(.ro, LLI), (.ro, I), (.ro, I), (.ro, I), (.ro, GLILII)]
abbrev slices_pdqsortCmpFunc_LI_rs : List (Bool × Ty) := []
noncomputable def slices_pdqsortCmpFunc_LI_G (N : Nat) : GTab := gOf [(166, slices_insertionSortCmpFunc_LI_S N), (169, slices_choosePivotCmpFunc_LI_S N), (171, slices_partialInsertionSortCmpFunc_LI_S N)]
theorem slices_pdqsortCmpFunc_LI_gok (N : Nat) : GOk Tryz.prog (slices_pdqsortCmpFunc_LI_G N) := gOf_ok ⟨slices_insertionSortCmpFunc_LI_pc N, slices_choosePivotCmpFunc_LI_pc N, slices_partialInsertionSortCmpFunc_LI_pc N, trivial⟩
noncomputable def slices_pdqsortCmpFunc_LI_code : Code := (Tryz.f129.body).getD .skip
noncomputable def slices_pdqsortCmpFunc_LI_l0_sh : Sh := ⟨[(0, .one (.ro LLI)), (1, .one (.ro I)), (2, .one (.ro I)), (3, .one (.ro I)), (4, .one (.ro GLILII)), (10, .one (.ro .bool)), (11, .one (.ro .bool))], []⟩
noncomputable def slices_pdqsortCmpFunc_LI_l0_ex : List (Ex × Sh) := [(.ret, ⟨[], []⟩)]
noncomputable def slices_pdqsortCmpFunc_LI_l0 {R : Type} (N : Nat) (k0 : Unit → Option R) : Nat → (List (List Int)) → Int → Int → Int → ((List Int) → (List Int) → Option Int) → Bool → Bool → Option R
  | 0, _, _, _, _, _, _, _ => none
  | K + 1, x, x1, x2, x3, x4, x5, x6 =>
    (br (ile (IntKind.i64.wrap (x2 - x1)) 12)
      (((slices_insertionSortCmpFunc_LI N x x1 x2 x4).bind fun r =>
        k0 ()))
      ((br (ieq x3 0)
        (none)
        ((br (!x5)
          (none)
          (((slices_choosePivotCmpFunc_LI N x x1 x2 x4).bind fun r1 =>
            (br (ieq r1.1.2.1 2)
              (none)
              ((br x5
                ((br x6
                  ((br (ieq r1.1.2.1 1)
                    (((slices_partialInsertionSortCmpFunc_LI N x x1 x2 x4).bind fun r2 =>
                      (br r2.1.1
                        (k0 ())
                        ((br (ilt 0 x1)
                          ((chk (inb x (IntKind.i64.wrap (x1 - 1)))
                            (chk (inb x r1.1.1)
                            ((x4 (rdL x (IntKind.i64.wrap (x1 - 1))) (rdL x r1.1.1)).bind fun v =>
                            (br (!(ilt v 0))
                            (none)
                            (none))))))
                          (none))))))
                    ((br (ilt 0 x1)
                      ((chk (inb x (IntKind.i64.wrap (x1 - 1)))
                        (chk (inb x r1.1.1)
                        ((x4 (rdL x (IntKind.i64.wrap (x1 - 1))) (rdL x r1.1.1)).bind fun v1 =>
                        (br (!(ilt v1 0))
                        (none)
                        (none))))))
                      (none)))))
                  ((br (ilt 0 x1)
                    ((chk (inb x (IntKind.i64.wrap (x1 - 1)))
                      (chk (inb x r1.1.1)
                      ((x4 (rdL x (IntKind.i64.wrap (x1 - 1))) (rdL x r1.1.1)).bind fun v2 =>
                      (br (!(ilt v2 0))
                      (none)
                      (none))))))
                    (none)))))
                ((br (ilt 0 x1)
                  ((chk (inb x (IntKind.i64.wrap (x1 - 1)))
                    (chk (inb x r1.1.1)
                    ((x4 (rdL x (IntKind.i64.wrap (x1 - 1))) (rdL x r1.1.1)).bind fun v3 =>
                    (br (!(ilt v3 0))
                    (none)
                    (none))))))
                  (none)))))))))))))
noncomputable def slices_pdqsortCmpFunc_LI_l0_again {R : Type} (N : Nat) (ks : (j : Nat) → ((slices_pdqsortCmpFunc_LI_l0_ex.getD j (.ret, Sh.none)).2).T → Option R) (k : Nat) (x : slices_pdqsortCmpFunc_LI_l0_sh.T) : Option R :=
  slices_pdqsortCmpFunc_LI_l0 N (fun (_ : Unit) => ks 0 ((), ())) k x.1.1 x.1.2.1 x.1.2.2.1 x.1.2.2.2.1 x.1.2.2.2.2.1 x.1.2.2.2.2.2.1 x.1.2.2.2.2.2.2.1
noncomputable def slices_pdqsortCmpFunc_LI_l0_s (N : Nat) : LSum := ⟨slices_pdqsortCmpFunc_LI_l0_sh, slices_pdqsortCmpFunc_LI_l0_ex, fun x ks => slices_pdqsortCmpFunc_LI_l0_again N ks N x⟩
theorem slices_pdqsortCmpFunc_LI_l0_step (N : Nat) (R : Type) (k : Nat) (x : slices_pdqsortCmpFunc_LI_l0_sh.T) (ks : (j : Nat) → ((slices_pdqsortCmpFunc_LI_l0_ex.getD j (.ret, Sh.none)).2).T → Option R) : slices_pdqsortCmpFunc_LI_l0_again N ks (k + 1) x = roundF (slices_pdqsortCmpFunc_LI_G N) tab [] (loopAt slices_pdqsortCmpFunc_LI_code 0) slices_pdqsortCmpFunc_LI_l0_sh slices_pdqsortCmpFunc_LI_l0_ex (fun y => slices_pdqsortCmpFunc_LI_l0_again N ks k y) ks x := by kernel_rfl
theorem slices_pdqsortCmpFunc_LI_l0_ok (N : Nat) : LoopOk Tryz.prog Tryz.f129.ntmps (slices_pdqsortCmpFunc_LI_l0_s N) (loopAt slices_pdqsortCmpFunc_LI_code 0) :=
  loop_ok (l := slices_pdqsortCmpFunc_LI_l0_s N) progOk (slices_pdqsortCmpFunc_LI_gok N) (draw_ok progOk (slices_pdqsortCmpFunc_LI_gok N)) (fun R k x ks => slices_pdqsortCmpFunc_LI_l0_again N ks k x) (fun _ _ _ => rfl) (fun R k x ks => slices_pdqsortCmpFunc_LI_l0_step N R k x ks) (fun R x ks r h => ⟨N, h⟩) (lsOk_at (L := []) trivial) (by kernel_rfl) (by kernel_rfl)
noncomputable def slices_pdqsortCmpFunc_LI (N : Nat) (c : (List (List Int))) (c1 : Int) (c2 : Int) (c3 : Int) (c4 : ((List Int) → (List Int) → Option Int)) : Option ((Unit) × (Unit)) :=
  slices_pdqsortCmpFunc_LI_l0 N (fun (_ : Unit) => some ((), ())) N c c1 c2 c3 c4 true true
noncomputable def slices_pdqsortCmpFunc_LI_S (N : Nat) : FSum := ⟨slices_pdqsortCmpFunc_LI_ps, slices_pdqsortCmpFunc_LI_rs, fun x => slices_pdqsortCmpFunc_LI N x.1 x.2.1 x.2.2.1 x.2.2.2.1 x.2.2.2.2.1⟩
theorem slices_pdqsortCmpFunc_LI_run (N : Nat) (x : argsT slices_pdqsortCmpFunc_LI_ps) : slices_pdqsortCmpFunc_LI N x.1 x.2.1 x.2.2.1 x.2.2.2.1 x.2.2.2.2.1 = funF (slices_pdqsortCmpFunc_LI_G N) tab [slices_pdqsortCmpFunc_LI_l0_s N] Tryz.f129 slices_pdqsortCmpFunc_LI_ps slices_pdqsortCmpFunc_LI_rs x := by kernel_rfl
theorem slices_pdqsortCmpFunc_LI_pc (N : Nat) : PC Tryz.prog 129 (slices_pdqsortCmpFunc_LI_S N) := by
  have e : slices_pdqsortCmpFunc_LI_S N = ⟨slices_pdqsortCmpFunc_LI_ps, slices_pdqsortCmpFunc_LI_rs, funF (slices_pdqsortCmpFunc_LI_G N) tab [slices_pdqsortCmpFunc_LI_l0_s N] Tryz.f129 slices_pdqsortCmpFunc_LI_ps slices_pdqsortCmpFunc_LI_rs⟩ := congrArg (FSum.mk slices_pdqsortCmpFunc_LI_ps slices_pdqsortCmpFunc_LI_rs) (funext (slices_pdqsortCmpFunc_LI_run N))
  rw [e]
  exact fun_ok (c := slices_pdqsortCmpFunc_LI_code) progOk (slices_pdqsortCmpFunc_LI_gok N) (draw_ok progOk (slices_pdqsortCmpFunc_LI_gok N)) Tryz.call129 Tryz.func129 (by kernel_rfl) (lsOk_at (L := [slices_pdqsortCmpFunc_LI_l0_s N]) ⟨slices_pdqsortCmpFunc_LI_l0_ok N, trivial⟩) (by kernel_rfl) (by kernel_rfl) (by kernel_rfl) (by kernel_rfl) (by kernel_rfl)

/-! ### slices_SortFunc_LLI_LI -/
abbrev slices_SortFunc_LLI_LI_ps : List (PV.Mode × Ty) := [(.ro, LLI), (.ro, GLILII)]
abbrev slices_SortFunc_LLI_LI_rs : List (Bool × Ty) := []
noncomputable def slices_SortFunc_LLI_LI_G (N : Nat) : GTab := gOf [(130, math_bits_Len_S N), (129, slices_pdqsortCmpFunc_LI_S N)]
theorem slices_SortFunc_LLI_LI_gok (N : Nat) : GOk Tryz.prog (slices_SortFunc_LLI_LI_G N) := gOf_ok ⟨math_bits_Len_pc N, slices_pdqsortCmpFunc_LI_pc N, trivial⟩
noncomputable def slices_SortFunc_LLI_LI_code : Code := (Tryz.f82.body).getD .skip
noncomputable def slices_SortFunc_LLI_LI (N : Nat) (x : (List (List Int))) (cmp : ((List Int) → (List Int) → Option Int)) : Option ((Unit) × (Unit)) :=
  ((math_bits_Len N (IntKind.u64.wrap ((tLen x)))).bind fun r =>
    ((slices_pdqsortCmpFunc_LI N x 0 (tLen x) r.1.1 cmp).bind fun r1 =>
      some ((), ())))
noncomputable def slices_SortFunc_LLI_LI_S (N : Nat) : FSum := ⟨slices_SortFunc_LLI_LI_ps, slices_SortFunc_LLI_LI_rs, fun x => slices_SortFunc_LLI_LI N x.1 x.2.1⟩
theorem slices_SortFunc_LLI_LI_run (N : Nat) (x : argsT slices_SortFunc_LLI_LI_ps) : slices_SortFunc_LLI_LI N x.1 x.2.1 = funF (slices_SortFunc_LLI_LI_G N) tab [] Tryz.f82 slices_SortFunc_LLI_LI_ps slices_SortFunc_LLI_LI_rs x := by kernel_rfl
theorem slices_SortFunc_LLI_LI_pc (N : Nat) : PC Tryz.prog 82 (slices_SortFunc_LLI_LI_S N) := by
  have e : slices_SortFunc_LLI_LI_S N = ⟨slices_SortFunc_LLI_LI_ps, slices_SortFunc_LLI_LI_rs, funF (slices_SortFunc_LLI_LI_G N) tab [] Tryz.f82 slices_SortFunc_LLI_LI_ps slices_SortFunc_LLI_LI_rs⟩ := congrArg (FSum.mk slices_SortFunc_LLI_LI_ps slices_SortFunc_LLI_LI_rs) (funext (slices_SortFunc_LLI_LI_run N))
  rw [e]
  exact fun_ok (c := slices_SortFunc_LLI_LI_code) progOk (slices_SortFunc_LLI_LI_gok N) (draw_ok progOk (slices_SortFunc_LLI_LI_gok N)) Tryz.call82 Tryz.func82 (by kernel_rfl) (lsOk_at (L := []) trivial) (by kernel_rfl) (by kernel_rfl) (by kernel_rfl) (by kernel_rfl) (by kernel_rfl)

/-! ### slices_Compare_LI_int -/
abbrev slices_Compare_LI_int_ps : List (PV.Mode × Ty) := [(.ro, LI), (.ro, LI)]
abbrev slices_Compare_LI_int_rs : List (Bool × Ty) := [(true, I)]
noncomputable def slices_Compare_LI_int_G (N : Nat) : GTab := gOf [(131, cmp_Compare_int_S N)]
theorem slices_Compare_LI_int_gok (N : Nat) : GOk Tryz.prog (slices_Compare_LI_int_G N) := gOf_ok ⟨cmp_Compare_int_pc N, trivial⟩
noncomputable def slices_Compare_LI_int_code : Code := (Tryz.f83.body).getD .skip
noncomputable def slices_Compare_LI_int_l0_sh : Sh := ⟨[(0, .one (.ro LI)), (1, .one (.ro LI)), (9, .one (.ro LI)), (10, .one (.ro I)), (11, .one (.ro I))], []⟩
noncomputable def slices_Compare_LI_int_l0_ex : List (Ex × Sh) := [(.ret, ⟨[(4, .one (.ro I))], []⟩), (.exit 0, ⟨[(0, .one (.ro LI)), (1, .one (.ro LI))], []⟩)]
noncomputable def slices_Compare_LI_int_l0 {R : Type} (N : Nat) (k0 : Int → Option R) (k1 : (List Int) → (List Int) → Option R) : Nat → (List Int) → (List Int) → (List Int) → Int → Int → Option R
  | 0, _, _, _, _, _ => none
  | K + 1, s11, s21, x, x1, x2 =>
    (br (ilt x2 x1)
      ((chk (inb x x2)
        (br (ile (tLen s21) x2)
        (k0 1)
        ((chk (inb s21 x2)
          ((cmp_Compare_int N (rdI x x2) (rdI s21 x2)).bind fun r =>
          (br (ine r.1.1 0)
            (k0 r.1.1)
            (slices_Compare_LI_int_l0 N k0 k1 K s11 s21 x x1 (IntKind.i64.wrap (x2 + 1))))))))))
      (k1 s11 s21))
noncomputable def slices_Compare_LI_int_l0_again {R : Type} (N : Nat) (ks : (j : Nat) → ((slices_Compare_LI_int_l0_ex.getD j (.ret, Sh.none)).2).T → Option R) (k : Nat) (x : slices_Compare_LI_int_l0_sh.T) : Option R :=
  slices_Compare_LI_int_l0 N (fun y0 => ks 0 ((y0, ()), ())) (fun y0 y1 => ks 1 ((y0, y1, ()), ())) k x.1.1 x.1.2.1 x.1.2.2.1 x.1.2.2.2.1 x.1.2.2.2.2.1
noncomputable def slices_Compare_LI_int_l0_s (N : Nat) : LSum := ⟨slices_Compare_LI_int_l0_sh, slices_Compare_LI_int_l0_ex, fun x ks => slices_Compare_LI_int_l0_again N ks N x⟩
theorem slices_Compare_LI_int_l0_step (N : Nat) (R : Type) (k : Nat) (x : slices_Compare_LI_int_l0_sh.T) (ks : (j : Nat) → ((slices_Compare_LI_int_l0_ex.getD j (.ret, Sh.none)).2).T → Option R) : slices_Compare_LI_int_l0_again N ks (k + 1) x = roundF (slices_Compare_LI_int_G N) tab [] (loopAt slices_Compare_LI_int_code 0) slices_Compare_LI_int_l0_sh slices_Compare_LI_int_l0_ex (fun y => slices_Compare_LI_int_l0_again N ks k y) ks x := by kernel_rfl
theorem slices_Compare_LI_int_l0_ok (N : Nat) : LoopOk Tryz.prog Tryz.f83.ntmps (slices_Compare_LI_int_l0_s N) (loopAt slices_Compare_LI_int_code 0) :=
  loop_ok (l := slices_Compare_LI_int_l0_s N) progOk (slices_Compare_LI_int_gok N) (draw_ok progOk (slices_Compare_LI_int_gok N)) (fun R k x ks => slices_Compare_LI_int_l0_again N ks k x) (fun _ _ _ => rfl) (fun R k x ks => slices_Compare_LI_int_l0_step N R k x ks) (fun R x ks r h => ⟨N, h⟩) (lsOk_at (L := []) trivial) (by kernel_rfl) (by kernel_rfl)
noncomputable def slices_Compare_LI_int (N : Nat) (s1 : (List Int)) (s2 : (List Int)) : Option ((Int × Unit) × (Unit)) :=
  slices_Compare_LI_int_l0 N (fun x => some ((x, ()), ())) (fun s11 s21 => (br (ilt (tLen s11) (tLen s21))
    (some (((-1), ()), ()))
    (some ((0, ()), ())))) N s1 s2 s1 (tLen s1) 0
noncomputable def slices_Compare_LI_int_S (N : Nat) : FSum := ⟨slices_Compare_LI_int_ps, slices_Compare_LI_int_rs, fun x => slices_Compare_LI_int N x.1 x.2.1⟩
theorem slices_Compare_LI_int_run (N : Nat) (x : argsT slices_Compare_LI_int_ps) : slices_Compare_LI_int N x.1 x.2.1 = funF (slices_Compare_LI_int_G N) tab [slices_Compare_LI_int_l0_s N] Tryz.f83 slices_Compare_LI_int_ps slices_Compare_LI_int_rs x := by kernel_rfl
theorem slices_Compare_LI_int_pc (N : Nat) : PC Tryz.prog 83 (slices_Compare_LI_int_S N) := by
  have e : slices_Compare_LI_int_S N = ⟨slices_Compare_LI_int_ps, slices_Compare_LI_int_rs, funF (slices_Compare_LI_int_G N) tab [slices_Compare_LI_int_l0_s N] Tryz.f83 slices_Compare_LI_int_ps slices_Compare_LI_int_rs⟩ := congrArg (FSum.mk slices_Compare_LI_int_ps slices_Compare_LI_int_rs) (funext (slices_Compare_LI_int_run N))
  rw [e]
  exact fun_ok (c := slices_Compare_LI_int_code) progOk (slices_Compare_LI_int_gok N) (draw_ok progOk (slices_Compare_LI_int_gok N)) Tryz.call83 Tryz.func83 (by kernel_rfl) (lsOk_at (L := [slices_Compare_LI_int_l0_s N]) ⟨slices_Compare_LI_int_l0_ok N, trivial⟩) (by kernel_rfl) (by kernel_rfl) (by kernel_rfl) (by kernel_rfl) (by kernel_rfl)

/-! ### impl_spaceOf -/
abbrev impl_spaceOf_ps : List (PV.Mode × Ty) := [(.own, LLI), (.ro, GLILIBo)]
abbrev impl_spaceOf_rs : List (Bool × Ty) := [(true, QLLILQII)]
noncomputable def impl_spaceOf_G (N : Nat) : GTab := gOf [(82, slices_SortFunc_LLI_LI_S N), (83, slices_Compare_LI_int_S N)]
theorem impl_spaceOf_gok (N : Nat) : GOk Tryz.prog (impl_spaceOf_G N) := gOf_ok ⟨slices_SortFunc_LLI_LI_pc N, slices_Compare_LI_int_pc N, trivial⟩
noncomputable def impl_spaceOf_code : Code := (Tryz.f44.body).getD .skip
noncomputable def impl_spaceOf_l0_0_sh : Sh := ⟨[(1, .one (.ro GLILIBo)), (4, .one (.adr 0 0)), (5, .one (.adr 1 0)), (6, .one (.ro I)), (7, .one (.el 2)), (16, .one (.ref 2)), (17, .one (.ro I)), (18, .one (.ro I)), (27, .one (.sub 2 1)), (28, .one (.ro I)), (29, .one (.ro I))], [.box [.nilsl, .nilsl], .box [.ref 2, .ref 3], .sl 40 LI .deep, .sl 93 QII .own]⟩
noncomputable def impl_spaceOf_l0_0_ex : List (Ex × Sh) := [(.exit 2, ⟨[(1, .one (.ro GLILIBo)), (4, .one (.adr 0 0)), (5, .one (.adr 1 0)), (16, .one (.ref 2)), (17, .one (.ro I)), (18, .one (.ro I))], [.box [.nilsl, .nilsl], .box [.ref 2, .ref 3], .sl 40 LI .deep, .sl 93 QII .own]⟩)]
noncomputable def impl_spaceOf_l0_0 {R : Type} (N : Nat) (k0 : ((List Int) → (List Int) → Option Bool) → Int → Int → (List (List Int)) → (List (Int × Int)) → Option R) : Nat → ((List Int) → (List Int) → Option Bool) → Int → Int → Int → Int → Int → Int → Int → Int → (List (List Int)) → (List (Int × Int)) → Option R
  | 0, _, _, _, _, _, _, _, _, _, _, _ => none
  | K + 1, isStep2, i, a, x2, x3, x4, x5, x6, x7, o2, o3 =>
    (br (ilt x7 x6)
      ((chk (ile 0 x7 && ilt x7 (x5 - x4))
        ((isStep2 (rdL o2 a) (rdL o2 (x4 + x7))).bind fun v =>
        (br v
        ((chk (room o3 [(i, (IntKind.i64.wrap ((IntKind.i64.wrap (i + 1)) + x7)))])
          (impl_spaceOf_l0_0 N k0 K isStep2 i a x2 x3 x4 x5 x6 (IntKind.i64.wrap (x7 + 1)) o2 (tApp o3 [(i, (IntKind.i64.wrap ((IntKind.i64.wrap (i + 1)) + x7)))]))))
        (impl_spaceOf_l0_0 N k0 K isStep2 i a x2 x3 x4 x5 x6 (IntKind.i64.wrap (x7 + 1)) o2 o3)))))
      (k0 isStep2 x2 x3 o2 o3))
noncomputable def impl_spaceOf_l0_0_again {R : Type} (N : Nat) (ks : (j : Nat) → ((impl_spaceOf_l0_0_ex.getD j (.ret, Sh.none)).2).T → Option R) (k : Nat) (x : impl_spaceOf_l0_0_sh.T) : Option R :=
  impl_spaceOf_l0_0 N (fun y0 y1 y2 y3 y4 => ks 0 ((y0, (), (), (), y1, y2, ()), (((), (), ()), ((), (), ()), y3, y4, ()))) k x.1.1 x.1.2.2.2.1 x.1.2.2.2.2.1 x.1.2.2.2.2.2.2.1 x.1.2.2.2.2.2.2.2.1 x.1.2.2.2.2.2.2.2.2.1.1 x.1.2.2.2.2.2.2.2.2.1.2 x.1.2.2.2.2.2.2.2.2.2.1 x.1.2.2.2.2.2.2.2.2.2.2.1 x.2.2.2.1 x.2.2.2.2.1
noncomputable def impl_spaceOf_l0_0_s (N : Nat) : LSum := ⟨impl_spaceOf_l0_0_sh, impl_spaceOf_l0_0_ex, fun x ks => impl_spaceOf_l0_0_again N ks N x⟩
theorem impl_spaceOf_l0_0_step (N : Nat) (R : Type) (k : Nat) (x : impl_spaceOf_l0_0_sh.T) (ks : (j : Nat) → ((impl_spaceOf_l0_0_ex.getD j (.ret, Sh.none)).2).T → Option R) : impl_spaceOf_l0_0_again N ks (k + 1) x = roundF (impl_spaceOf_G N) tab [] (loopAt (loopAt impl_spaceOf_code 0) 0) impl_spaceOf_l0_0_sh impl_spaceOf_l0_0_ex (fun y => impl_spaceOf_l0_0_again N ks k y) ks x := by kernel_rfl
theorem impl_spaceOf_l0_0_ok (N : Nat) : LoopOk Tryz.prog Tryz.f44.ntmps (impl_spaceOf_l0_0_s N) (loopAt (loopAt impl_spaceOf_code 0) 0) :=
  loop_ok (l := impl_spaceOf_l0_0_s N) progOk (impl_spaceOf_gok N) (draw_ok progOk (impl_spaceOf_gok N)) (fun R k x ks => impl_spaceOf_l0_0_again N ks k x) (fun _ _ _ => rfl) (fun R k x ks => impl_spaceOf_l0_0_step N R k x ks) (fun R x ks r h => ⟨N, h⟩) (lsOk_at (L := []) trivial) (by kernel_rfl) (by kernel_rfl)
noncomputable def impl_spaceOf_l0_sh : Sh := ⟨[(1, .one (.ro GLILIBo)), (4, .one (.adr 0 0)), (5, .one (.adr 1 0)), (16, .one (.ref 2)), (17, .one (.ro I)), (18, .one (.ro I))], [.box [.nilsl, .nilsl], .box [.ref 2, .ref 3], .sl 40 LI .deep, .sl 93 QII .own]⟩
noncomputable def impl_spaceOf_l0_ex : List (Ex × Sh) := [(.exit 0, ⟨[(4, .one (.adr 0 0)), (5, .one (.adr 1 0))], [.box [.nilsl, .nilsl], .box [.ref 2, .ref 3], .sl 40 LI .deep, .sl 93 QII .own]⟩)]
noncomputable def impl_spaceOf_l0 {R : Type} (N : Nat) (k0 : (List (List Int)) → (List (Int × Int)) → Option R) : Nat → ((List Int) → (List Int) → Option Bool) → Int → Int → (List (List Int)) → (List (Int × Int)) → Option R
  | 0, _, _, _, _, _ => none
  | K + 1, isStep1, x, x1, o, o1 =>
    (br (ilt x1 x)
      ((chk (inb o x1)
        (chk (ile 0 (IntKind.i64.wrap (x1 + 1)) && ile (IntKind.i64.wrap (x1 + 1)) (tLen o) && ile (tLen o) (tLen o))
        (impl_spaceOf_l0_0 N (fun isStep2 x2 x3 o2 o3 => impl_spaceOf_l0 N k0 K isStep2 x2 (IntKind.i64.wrap (x3 + 1)) o2 o3) N isStep1 x1 x1 x x1 (IntKind.i64.wrap (x1 + 1)) (tLen o) ((tLen o) - (IntKind.i64.wrap (x1 + 1))) 0 o o1))))
      (k0 o o1))
noncomputable def impl_spaceOf_l0_again {R : Type} (N : Nat) (ks : (j : Nat) → ((impl_spaceOf_l0_ex.getD j (.ret, Sh.none)).2).T → Option R) (k : Nat) (x : impl_spaceOf_l0_sh.T) : Option R :=
  impl_spaceOf_l0 N (fun y0 y1 => ks 0 (((), (), ()), (((), (), ()), ((), (), ()), y0, y1, ()))) k x.1.1 x.1.2.2.2.2.1 x.1.2.2.2.2.2.1 x.2.2.2.1 x.2.2.2.2.1
noncomputable def impl_spaceOf_l0_s (N : Nat) : LSum := ⟨impl_spaceOf_l0_sh, impl_spaceOf_l0_ex, fun x ks => impl_spaceOf_l0_again N ks N x⟩
theorem impl_spaceOf_l0_step (N : Nat) (R : Type) (k : Nat) (x : impl_spaceOf_l0_sh.T) (ks : (j : Nat) → ((impl_spaceOf_l0_ex.getD j (.ret, Sh.none)).2).T → Option R) : impl_spaceOf_l0_again N ks (k + 1) x = roundF (impl_spaceOf_G N) tab [impl_spaceOf_l0_0_s N] (loopAt impl_spaceOf_code 0) impl_spaceOf_l0_sh impl_spaceOf_l0_ex (fun y => impl_spaceOf_l0_again N ks k y) ks x := by kernel_rfl
theorem impl_spaceOf_l0_ok (N : Nat) : LoopOk Tryz.prog Tryz.f44.ntmps (impl_spaceOf_l0_s N) (loopAt impl_spaceOf_code 0) :=
  loop_ok (l := impl_spaceOf_l0_s N) progOk (impl_spaceOf_gok N) (draw_ok progOk (impl_spaceOf_gok N)) (fun R k x ks => impl_spaceOf_l0_again N ks k x) (fun _ _ _ => rfl) (fun R k x ks => impl_spaceOf_l0_step N R k x ks) (fun R x ks r h => ⟨N, h⟩) (lsOk_at (L := [impl_spaceOf_l0_0_s N]) ⟨impl_spaceOf_l0_0_ok N, trivial⟩) (by kernel_rfl) (by kernel_rfl)
noncomputable def impl_spaceOf (N : Nat) (states : (List (List Int))) (isStep : ((List Int) → (List Int) → Option Bool)) : Option ((((List (List Int)) × (List (Int × Int))) × Unit) × (Unit)) :=
  ((slices_SortFunc_LLI_LI N states (fun y0 y1 => (slices_Compare_LI_int N y0 y1).bind fun z => some z.1.1)).bind fun r =>
    impl_spaceOf_l0 N (fun o o1 => some (((o, o1), ()), ())) N isStep (tLen states) 0 states [])
noncomputable def impl_spaceOf_S (N : Nat) : FSum := ⟨impl_spaceOf_ps, impl_spaceOf_rs, fun x => impl_spaceOf N x.1 x.2.1⟩
theorem impl_spaceOf_run (N : Nat) (x : argsT impl_spaceOf_ps) : impl_spaceOf N x.1 x.2.1 = funF (impl_spaceOf_G N) tab [impl_spaceOf_l0_s N] Tryz.f44 impl_spaceOf_ps impl_spaceOf_rs x := by kernel_rfl
theorem impl_spaceOf_pc (N : Nat) : PC Tryz.prog 44 (impl_spaceOf_S N) := by
  have e : impl_spaceOf_S N = ⟨impl_spaceOf_ps, impl_spaceOf_rs, funF (impl_spaceOf_G N) tab [impl_spaceOf_l0_s N] Tryz.f44 impl_spaceOf_ps impl_spaceOf_rs⟩ := congrArg (FSum.mk impl_spaceOf_ps impl_spaceOf_rs) (funext (impl_spaceOf_run N))
  rw [e]
  exact fun_ok (c := impl_spaceOf_code) progOk (impl_spaceOf_gok N) (draw_ok progOk (impl_spaceOf_gok N)) Tryz.call44 Tryz.func44 (by kernel_rfl) (lsOk_at (L := [impl_spaceOf_l0_s N]) ⟨impl_spaceOf_l0_ok N, trivial⟩) (by kernel_rfl) (by kernel_rfl) (by kernel_rfl) (by kernel_rfl) (by kernel_rfl)

/-! ### impl_places -/
abbrev impl_places_ps : List (PV.Mode × Ty) := [(.ro, LI), (.ro, LI)]
abbrev impl_places_rs : List (Bool × Ty) := [(true, LI)]
noncomputable def impl_places_G (N : Nat) : GTab := gOf []
theorem impl_places_gok (N : Nat) : GOk Tryz.prog (impl_places_G N) := gOf_ok trivial
noncomputable def impl_places_code : Code := (Tryz.f46.body).getD .skip
noncomputable def impl_places_l0_sh : Sh := ⟨[(1, .one (.ro LI)), (5, .one (.ref 0)), (9, .one (.ro LI)), (10, .one (.ro I)), (11, .one (.ro I))], [.sl 3 I .own]⟩
noncomputable def impl_places_l0_ex : List (Ex × Sh) := [(.exit 0, ⟨[(5, .one (.ref 0))], [.sl 3 I .own]⟩)]
noncomputable def impl_places_l0 {R : Type} (N : Nat) (k0 : (List Int) → Option R) : Nat → (List Int) → (List Int) → Int → Int → (List Int) → Option R
  | 0, _, _, _, _, _ => none
  | K + 1, b1, x, x1, x2, o =>
    (br (ilt x2 x1)
      ((chk (inb x x2)
        (chk (inb b1 x2)
        (br (ine (rdI b1 x2) (rdI x x2))
        ((chk (room o [x2])
          (impl_places_l0 N k0 K b1 x x1 (IntKind.i64.wrap (x2 + 1)) (tApp o [x2]))))
        (impl_places_l0 N k0 K b1 x x1 (IntKind.i64.wrap (x2 + 1)) o)))))
      (k0 o))
noncomputable def impl_places_l0_again {R : Type} (N : Nat) (ks : (j : Nat) → ((impl_places_l0_ex.getD j (.ret, Sh.none)).2).T → Option R) (k : Nat) (x : impl_places_l0_sh.T) : Option R :=
  impl_places_l0 N (fun y0 => ks 0 (((), ()), (y0, ()))) k x.1.1 x.1.2.2.1 x.1.2.2.2.1 x.1.2.2.2.2.1 x.2.1
noncomputable def impl_places_l0_s (N : Nat) : LSum := ⟨impl_places_l0_sh, impl_places_l0_ex, fun x ks => impl_places_l0_again N ks N x⟩
theorem impl_places_l0_step (N : Nat) (R : Type) (k : Nat) (x : impl_places_l0_sh.T) (ks : (j : Nat) → ((impl_places_l0_ex.getD j (.ret, Sh.none)).2).T → Option R) : impl_places_l0_again N ks (k + 1) x = roundF (impl_places_G N) tab [] (loopAt impl_places_code 0) impl_places_l0_sh impl_places_l0_ex (fun y => impl_places_l0_again N ks k y) ks x := by kernel_rfl
theorem impl_places_l0_ok (N : Nat) : LoopOk Tryz.prog Tryz.f46.ntmps (impl_places_l0_s N) (loopAt impl_places_code 0) :=
  loop_ok (l := impl_places_l0_s N) progOk (impl_places_gok N) (draw_ok progOk (impl_places_gok N)) (fun R k x ks => impl_places_l0_again N ks k x) (fun _ _ _ => rfl) (fun R k x ks => impl_places_l0_step N R k x ks) (fun R x ks r h => ⟨N, h⟩) (lsOk_at (L := []) trivial) (by kernel_rfl) (by kernel_rfl)
noncomputable def impl_places (N : Nat) (a : (List Int)) (b : (List Int)) : Option (((List Int) × Unit) × (Unit)) :=
  impl_places_l0 N (fun o => some ((o, ()), ())) N b a (tLen a) 0 []
noncomputable def impl_places_S (N : Nat) : FSum := ⟨impl_places_ps, impl_places_rs, fun x => impl_places N x.1 x.2.1⟩
theorem impl_places_run (N : Nat) (x : argsT impl_places_ps) : impl_places N x.1 x.2.1 = funF (impl_places_G N) tab [impl_places_l0_s N] Tryz.f46 impl_places_ps impl_places_rs x := by kernel_rfl
theorem impl_places_pc (N : Nat) : PC Tryz.prog 46 (impl_places_S N) := by
  have e : impl_places_S N = ⟨impl_places_ps, impl_places_rs, funF (impl_places_G N) tab [impl_places_l0_s N] Tryz.f46 impl_places_ps impl_places_rs⟩ := congrArg (FSum.mk impl_places_ps impl_places_rs) (funext (impl_places_run N))
  rw [e]
  exact fun_ok (c := impl_places_code) progOk (impl_places_gok N) (draw_ok progOk (impl_places_gok N)) Tryz.call46 Tryz.func46 (by kernel_rfl) (lsOk_at (L := [impl_places_l0_s N]) ⟨impl_places_l0_ok N, trivial⟩) (by kernel_rfl) (by kernel_rfl) (by kernel_rfl) (by kernel_rfl) (by kernel_rfl)

/-! ### slices_Index_LI_int -/
abbrev slices_Index_LI_int_ps : List (PV.Mode × Ty) := [(.ro, LI), (.ro, I)]
abbrev slices_Index_LI_int_rs : List (Bool × Ty) := [(true, I)]
noncomputable def slices_Index_LI_int_G (N : Nat) : GTab := gOf []
theorem slices_Index_LI_int_gok (N : Nat) : GOk Tryz.prog (slices_Index_LI_int_G N) := gOf_ok trivial
noncomputable def slices_Index_LI_int_code : Code := (Tryz.f177.body).getD .skip
noncomputable def slices_Index_LI_int_l0_sh : Sh := ⟨[(0, .one (.ro LI)), (1, .one (.ro I)), (7, .one (.ro I)), (8, .one (.ro I))], []⟩
noncomputable def slices_Index_LI_int_l0_ex : List (Ex × Sh) := [(.ret, ⟨[(4, .one (.ro I))], []⟩), (.exit 0, ⟨[], []⟩)]
noncomputable def slices_Index_LI_int_l0 {R : Type} (N : Nat) (k0 : Int → Option R) (k1 : Unit → Option R) : Nat → (List Int) → Int → Int → Int → Option R
  | 0, _, _, _, _ => none
  | K + 1, s1, v1, x, x1 =>
    (br (ilt x1 x)
      ((chk (inb s1 x1)
        (br (ieq v1 (rdI s1 x1))
        (k0 x1)
        (slices_Index_LI_int_l0 N k0 k1 K s1 v1 x (IntKind.i64.wrap (x1 + 1))))))
      (k1 ()))
noncomputable def slices_Index_LI_int_l0_again {R : Type} (N : Nat) (ks : (j : Nat) → ((slices_Index_LI_int_l0_ex.getD j (.ret, Sh.none)).2).T → Option R) (k : Nat) (x : slices_Index_LI_int_l0_sh.T) : Option R :=
  slices_Index_LI_int_l0 N (fun y0 => ks 0 ((y0, ()), ())) (fun (_ : Unit) => ks 1 ((), ())) k x.1.1 x.1.2.1 x.1.2.2.1 x.1.2.2.2.1
noncomputable def slices_Index_LI_int_l0_s (N : Nat) : LSum := ⟨slices_Index_LI_int_l0_sh, slices_Index_LI_int_l0_ex, fun x ks => slices_Index_LI_int_l0_again N ks N x⟩
theorem slices_Index_LI_int_l0_step (N : Nat) (R : Type) (k : Nat) (x : slices_Index_LI_int_l0_sh.T) (ks : (j : Nat) → ((slices_Index_LI_int_l0_ex.getD j (.ret, Sh.none)).2).T → Option R) : slices_Index_LI_int_l0_again N ks (k + 1) x = roundF (slices_Index_LI_int_G N) tab [] (loopAt slices_Index_LI_int_code 0) slices_Index_LI_int_l0_sh slices_Index_LI_int_l0_ex (fun y => slices_Index_LI_int_l0_again N ks k y) ks x := by kernel_rfl
theorem slices_Index_LI_int_l0_ok (N : Nat) : LoopOk Tryz.prog Tryz.f177.ntmps (slices_Index_LI_int_l0_s N) (loopAt slices_Index_LI_int_code 0) :=
  loop_ok (l := slices_Index_LI_int_l0_s N) progOk (slices_Index_LI_int_gok N) (draw_ok progOk (slices_Index_LI_int_gok N)) (fun R k x ks => slices_Index_LI_int_l0_again N ks k x) (fun _ _ _ => rfl) (fun R k x ks => slices_Index_LI_int_l0_step N R k x ks) (fun R x ks r h => ⟨N, h⟩) (lsOk_at (L := []) trivial) (by kernel_rfl) (by kernel_rfl)
noncomputable def slices_Index_LI_int (N : Nat) (s : (List Int)) (v : Int) : Option ((Int × Unit) × (Unit)) :=
  slices_Index_LI_int_l0 N (fun x => some ((x, ()), ())) (fun (_ : Unit) => some (((-1), ()), ())) N s v (tLen s) 0
noncomputable def slices_Index_LI_int_S (N : Nat) : FSum := ⟨slices_Index_LI_int_ps, slices_Index_LI_int_rs, fun x => slices_Index_LI_int N x.1 x.2.1⟩
theorem slices_Index_LI_int_run (N : Nat) (x : argsT slices_Index_LI_int_ps) : slices_Index_LI_int N x.1 x.2.1 = funF (slices_Index_LI_int_G N) tab [slices_Index_LI_int_l0_s N] Tryz.f177 slices_Index_LI_int_ps slices_Index_LI_int_rs x := by kernel_rfl
theorem slices_Index_LI_int_pc (N : Nat) : PC Tryz.prog 177 (slices_Index_LI_int_S N) := by
  have e : slices_Index_LI_int_S N = ⟨slices_Index_LI_int_ps, slices_Index_LI_int_rs, funF (slices_Index_LI_int_G N) tab [slices_Index_LI_int_l0_s N] Tryz.f177 slices_Index_LI_int_ps slices_Index_LI_int_rs⟩ := congrArg (FSum.mk slices_Index_LI_int_ps slices_Index_LI_int_rs) (funext (slices_Index_LI_int_run N))
  rw [e]
  exact fun_ok (c := slices_Index_LI_int_code) progOk (slices_Index_LI_int_gok N) (draw_ok progOk (slices_Index_LI_int_gok N)) Tryz.call177 Tryz.func177 (by kernel_rfl) (lsOk_at (L := [slices_Index_LI_int_l0_s N]) ⟨slices_Index_LI_int_l0_ok N, trivial⟩) (by kernel_rfl) (by kernel_rfl) (by kernel_rfl) (by kernel_rfl) (by kernel_rfl)

/-! ### slices_Contains_LI_int -/
abbrev slices_Contains_LI_int_ps : List (PV.Mode × Ty) := [(.ro, LI), (.ro, I)]
abbrev slices_Contains_LI_int_rs : List (Bool × Ty) := [(true, .bool)]
noncomputable def slices_Contains_LI_int_G (N : Nat) : GTab := gOf [(177, slices_Index_LI_int_S N)]
theorem slices_Contains_LI_int_gok (N : Nat) : GOk Tryz.prog (slices_Contains_LI_int_G N) := gOf_ok ⟨slices_Index_LI_int_pc N, trivial⟩
noncomputable def slices_Contains_LI_int_code : Code := (Tryz.f132.body).getD .skip
noncomputable def slices_Contains_LI_int (N : Nat) (s : (List Int)) (v : Int) : Option ((Bool × Unit) × (Unit)) :=
  ((slices_Index_LI_int N s v).bind fun r =>
    some (((ile 0 r.1.1), ()), ()))
noncomputable def slices_Contains_LI_int_S (N : Nat) : FSum := ⟨slices_Contains_LI_int_ps, slices_Contains_LI_int_rs, fun x => slices_Contains_LI_int N x.1 x.2.1⟩
theorem slices_Contains_LI_int_run (N : Nat) (x : argsT slices_Contains_LI_int_ps) : slices_Contains_LI_int N x.1 x.2.1 = funF (slices_Contains_LI_int_G N) tab [] Tryz.f132 slices_Contains_LI_int_ps slices_Contains_LI_int_rs x := by kernel_rfl
theorem slices_Contains_LI_int_pc (N : Nat) : PC Tryz.prog 132 (slices_Contains_LI_int_S N) := by
  have e : slices_Contains_LI_int_S N = ⟨slices_Contains_LI_int_ps, slices_Contains_LI_int_rs, funF (slices_Contains_LI_int_G N) tab [] Tryz.f132 slices_Contains_LI_int_ps slices_Contains_LI_int_rs⟩ := congrArg (FSum.mk slices_Contains_LI_int_ps slices_Contains_LI_int_rs) (funext (slices_Contains_LI_int_run N))
  rw [e]
  exact fun_ok (c := slices_Contains_LI_int_code) progOk (slices_Contains_LI_int_gok N) (draw_ok progOk (slices_Contains_LI_int_gok N)) Tryz.call132 Tryz.func132 (by kernel_rfl) (lsOk_at (L := []) trivial) (by kernel_rfl) (by kernel_rfl) (by kernel_rfl) (by kernel_rfl) (by kernel_rfl)

/-! ### cmp_Less_int -/
abbrev cmp_Less_int_ps : List (PV.Mode × Ty) := [(.ro, I), (.ro, I)]
abbrev cmp_Less_int_rs : List (Bool × Ty) := [(true, .bool)]
noncomputable def cmp_Less_int_G (N : Nat) : GTab := gOf [(176, cmp_isNaN_int_S N)]
theorem cmp_Less_int_gok (N : Nat) : GOk Tryz.prog (cmp_Less_int_G N) := gOf_ok ⟨cmp_isNaN_int_pc N, trivial⟩
noncomputable def cmp_Less_int_code : Code := (Tryz.f192.body).getD .skip
noncomputable def cmp_Less_int (N : Nat) (x : Int) (y : Int) : Option ((Bool × Unit) × (Unit)) :=
  ((cmp_isNaN_int N x).bind fun r =>
    (br r.1.1
      (((cmp_isNaN_int N y).bind fun r1 =>
        (br (!r1.1.1)
          (some ((true, ()), ()))
          (some (((ilt x y), ()), ())))))
      (some (((ilt x y), ()), ()))))
noncomputable def cmp_Less_int_S (N : Nat) : FSum := ⟨cmp_Less_int_ps, cmp_Less_int_rs, fun x => cmp_Less_int N x.1 x.2.1⟩
theorem cmp_Less_int_run (N : Nat) (x : argsT cmp_Less_int_ps) : cmp_Less_int N x.1 x.2.1 = funF (cmp_Less_int_G N) tab [] Tryz.f192 cmp_Less_int_ps cmp_Less_int_rs x := by kernel_rfl
theorem cmp_Less_int_pc (N : Nat) : PC Tryz.prog 192 (cmp_Less_int_S N) := by
  have e : cmp_Less_int_S N = ⟨cmp_Less_int_ps, cmp_Less_int_rs, funF (cmp_Less_int_G N) tab [] Tryz.f192 cmp_Less_int_ps cmp_Less_int_rs⟩ := congrArg (FSum.mk cmp_Less_int_ps cmp_Less_int_rs) (funext (cmp_Less_int_run N))
  rw [e]
  exact fun_ok (c := cmp_Less_int_code) progOk (cmp_Less_int_gok N) (draw_ok progOk (cmp_Less_int_gok N)) Tryz.call192 Tryz.func192 (by kernel_rfl) (lsOk_at (L := []) trivial) (by kernel_rfl) (by kernel_rfl) (by kernel_rfl) (by kernel_rfl) (by kernel_rfl)

/-! ### slices_insertionSortOrdered_int -/
abbrev slices_insertionSortOrdered_int_ps : List (PV.Mode × Ty) := [(.mut, LI), (.ro, I), (.ro, I)]
abbrev slices_insertionSortOrdered_int_rs : List (Bool × Ty) := []
noncomputable def slices_insertionSortOrdered_int_G (N : Nat) : GTab := gOf [(192, cmp_Less_int_S N)]
theorem slices_insertionSortOrdered_int_gok (N : Nat) : GOk Tryz.prog (slices_insertionSortOrdered_int_G N) := gOf_ok ⟨cmp_Less_int_pc N, trivial⟩
noncomputable def slices_insertionSortOrdered_int_code : Code := (Tryz.f186.body).getD .skip
noncomputable def slices_insertionSortOrdered_int_l0_0_sh : Sh := ⟨[(0, .one (.ref 0)), (1, .one (.ro I)), (2, .one (.ro I)), (6, .one (.ro I)), (7, .one (.ro I))], [.sl 3 I .own]⟩
noncomputable def slices_insertionSortOrdered_int_l0_0_ex : List (Ex × Sh) := [(.exit 2, ⟨[(0, .one (.ref 0)), (1, .one (.ro I)), (2, .one (.ro I)), (6, .one (.ro I))], [.sl 3 I .own]⟩)]
noncomputable def slices_insertionSortOrdered_int_l0_0 {R : Type} (N : Nat) (k0 : Int → Int → Int → (List Int) → Option R) : Nat → Int → Int → Int → Int → (List Int) → Option R
  | 0, _, _, _, _, _ => none
  | K + 1, a2, b2, i1, j, o1 =>
    (br (ilt a2 j)
      ((chk (inb o1 j)
        (chk (inb o1 (IntKind.i64.wrap (j - 1)))
        ((cmp_Less_int N (rdI o1 j) (rdI o1 (IntKind.i64.wrap (j - 1)))).bind fun r =>
        (br r.1.1
          ((chk (inb o1 (IntKind.i64.wrap (j - 1)))
            (chk (inb o1 j)
            (chk (inb o1 j)
            (chk (inb (tSet o1 j (rdI o1 (IntKind.i64.wrap (j - 1)))) (IntKind.i64.wrap (j - 1)))
            (slices_insertionSortOrdered_int_l0_0 N k0 K a2 b2 i1 (IntKind.i64.wrap (j - 1)) (tSet (tSet o1 j (rdI o1 (IntKind.i64.wrap (j - 1)))) (IntKind.i64.wrap (j - 1)) (rdI o1 j))))))))
          (k0 a2 b2 i1 o1))))))
      (k0 a2 b2 i1 o1))
noncomputable def slices_insertionSortOrdered_int_l0_0_again {R : Type} (N : Nat) (ks : (j : Nat) → ((slices_insertionSortOrdered_int_l0_0_ex.getD j (.ret, Sh.none)).2).T → Option R) (k : Nat) (x : slices_insertionSortOrdered_int_l0_0_sh.T) : Option R :=
  slices_insertionSortOrdered_int_l0_0 N (fun y0 y1 y2 y3 => ks 0 (((), y0, y1, y2, ()), (y3, ()))) k x.1.2.1 x.1.2.2.1 x.1.2.2.2.1 x.1.2.2.2.2.1 x.2.1
noncomputable def slices_insertionSortOrdered_int_l0_0_s (N : Nat) : LSum := ⟨slices_insertionSortOrdered_int_l0_0_sh, slices_insertionSortOrdered_int_l0_0_ex, fun x ks => slices_insertionSortOrdered_int_l0_0_again N ks N x⟩
theorem slices_insertionSortOrdered_int_l0_0_step (N : Nat) (R : Type) (k : Nat) (x : slices_insertionSortOrdered_int_l0_0_sh.T) (ks : (j : Nat) → ((slices_insertionSortOrdered_int_l0_0_ex.getD j (.ret, Sh.none)).2).T → Option R) : slices_insertionSortOrdered_int_l0_0_again N ks (k + 1) x = roundF (slices_insertionSortOrdered_int_G N) tab [] (loopAt (loopAt slices_insertionSortOrdered_int_code 0) 0) slices_insertionSortOrdered_int_l0_0_sh slices_insertionSortOrdered_int_l0_0_ex (fun y => slices_insertionSortOrdered_int_l0_0_again N ks k y) ks x := by kernel_rfl
theorem slices_insertionSortOrdered_int_l0_0_ok (N : Nat) : LoopOk Tryz.prog Tryz.f186.ntmps (slices_insertionSortOrdered_int_l0_0_s N) (loopAt (loopAt slices_insertionSortOrdered_int_code 0) 0) :=
  loop_ok (l := slices_insertionSortOrdered_int_l0_0_s N) progOk (slices_insertionSortOrdered_int_gok N) (draw_ok progOk (slices_insertionSortOrdered_int_gok N)) (fun R k x ks => slices_insertionSortOrdered_int_l0_0_again N ks k x) (fun _ _ _ => rfl) (fun R k x ks => slices_insertionSortOrdered_int_l0_0_step N R k x ks) (fun R x ks r h => ⟨N, h⟩) (lsOk_at (L := []) trivial) (by kernel_rfl) (by kernel_rfl)
noncomputable def slices_insertionSortOrdered_int_l0_sh : Sh := ⟨[(0, .one (.ref 0)), (1, .one (.ro I)), (2, .one (.ro I)), (6, .one (.ro I))], [.sl 3 I .own]⟩
noncomputable def slices_insertionSortOrdered_int_l0_ex : List (Ex × Sh) := [(.exit 0, ⟨[(0, .one (.ref 0))], [.sl 3 I .own]⟩)]
noncomputable def slices_insertionSortOrdered_int_l0 {R : Type} (N : Nat) (k0 : (List Int) → Option R) : Nat → Int → Int → Int → (List Int) → Option R
  | 0, _, _, _, _ => none
  | K + 1, a1, b1, i, o =>
    (br (ilt i b1)
      (slices_insertionSortOrdered_int_l0_0 N (fun a2 b2 i1 o1 => slices_insertionSortOrdered_int_l0 N k0 K a2 b2 (IntKind.i64.wrap (i1 + 1)) o1) N a1 b1 i i o)
      (k0 o))
noncomputable def slices_insertionSortOrdered_int_l0_again {R : Type} (N : Nat) (ks : (j : Nat) → ((slices_insertionSortOrdered_int_l0_ex.getD j (.ret, Sh.none)).2).T → Option R) (k : Nat) (x : slices_insertionSortOrdered_int_l0_sh.T) : Option R :=
  slices_insertionSortOrdered_int_l0 N (fun y0 => ks 0 (((), ()), (y0, ()))) k x.1.2.1 x.1.2.2.1 x.1.2.2.2.1 x.2.1
noncomputable def slices_insertionSortOrdered_int_l0_s (N : Nat) : LSum := ⟨slices_insertionSortOrdered_int_l0_sh, slices_insertionSortOrdered_int_l0_ex, fun x ks => slices_insertionSortOrdered_int_l0_again N ks N x⟩
theorem slices_insertionSortOrdered_int_l0_step (N : Nat) (R : Type) (k : Nat) (x : slices_insertionSortOrdered_int_l0_sh.T) (ks : (j : Nat) → ((slices_insertionSortOrdered_int_l0_ex.getD j (.ret, Sh.none)).2).T → Option R) : slices_insertionSortOrdered_int_l0_again N ks (k + 1) x = roundF (slices_insertionSortOrdered_int_G N) tab [slices_insertionSortOrdered_int_l0_0_s N] (loopAt slices_insertionSortOrdered_int_code 0) slices_insertionSortOrdered_int_l0_sh slices_insertionSortOrdered_int_l0_ex (fun y => slices_insertionSortOrdered_int_l0_again N ks k y) ks x := by kernel_rfl
theorem slices_insertionSortOrdered_int_l0_ok (N : Nat) : LoopOk Tryz.prog Tryz.f186.ntmps (slices_insertionSortOrdered_int_l0_s N) (loopAt slices_insertionSortOrdered_int_code 0) :=
  loop_ok (l := slices_insertionSortOrdered_int_l0_s N) progOk (slices_insertionSortOrdered_int_gok N) (draw_ok progOk (slices_insertionSortOrdered_int_gok N)) (fun R k x ks => slices_insertionSortOrdered_int_l0_again N ks k x) (fun _ _ _ => rfl) (fun R k x ks => slices_insertionSortOrdered_int_l0_step N R k x ks) (fun R x ks r h => ⟨N, h⟩) (lsOk_at (L := [slices_insertionSortOrdered_int_l0_0_s N]) ⟨slices_insertionSortOrdered_int_l0_0_ok N, trivial⟩) (by kernel_rfl) (by kernel_rfl)
noncomputable def slices_insertionSortOrdered_int (N : Nat) (data : (List Int)) (a : Int) (b : Int) : Option ((Unit) × ((List Int) × Unit)) :=
  slices_insertionSortOrdered_int_l0 N (fun o => some ((), (o, ()))) N a b (IntKind.i64.wrap (a + 1)) data
noncomputable def slices_insertionSortOrdered_int_S (N : Nat) : FSum := ⟨slices_insertionSortOrdered_int_ps, slices_insertionSortOrdered_int_rs, fun x => slices_insertionSortOrdered_int N x.1 x.2.1 x.2.2.1⟩
theorem slices_insertionSortOrdered_int_run (N : Nat) (x : argsT slices_insertionSortOrdered_int_ps) : slices_insertionSortOrdered_int N x.1 x.2.1 x.2.2.1 = funF (slices_insertionSortOrdered_int_G N) tab [slices_insertionSortOrdered_int_l0_s N] Tryz.f186 slices_insertionSortOrdered_int_ps slices_insertionSortOrdered_int_rs x := by kernel_rfl
theorem slices_insertionSortOrdered_int_pc (N : Nat) : PC Tryz.prog 186 (slices_insertionSortOrdered_int_S N) := by
  have e : slices_insertionSortOrdered_int_S N = ⟨slices_insertionSortOrdered_int_ps, slices_insertionSortOrdered_int_rs, funF (slices_insertionSortOrdered_int_G N) tab [slices_insertionSortOrdered_int_l0_s N] Tryz.f186 slices_insertionSortOrdered_int_ps slices_insertionSortOrdered_int_rs⟩ := congrArg (FSum.mk slices_insertionSortOrdered_int_ps slices_insertionSortOrdered_int_rs) (funext (slices_insertionSortOrdered_int_run N))
  rw [e]
  exact fun_ok (c := slices_insertionSortOrdered_int_code) progOk (slices_insertionSortOrdered_int_gok N) (draw_ok progOk (slices_insertionSortOrdered_int_gok N)) Tryz.call186 Tryz.func186 (by kernel_rfl) (lsOk_at (L := [slices_insertionSortOrdered_int_l0_s N]) ⟨slices_insertionSortOrdered_int_l0_ok N, trivial⟩) (by kernel_rfl) (by kernel_rfl) (by kernel_rfl) (by kernel_rfl) (by kernel_rfl)

/-! ### slices_order2Ordered_int -/
abbrev slices_order2Ordered_int_ps : List (PV.Mode × Ty) := [(.ro, LI), (.ro, I), (.ro, I), (.mut, BI)]
abbrev slices_order2Ordered_int_rs : List (Bool × Ty) := [(true, I), (true, I)]
noncomputable def slices_order2Ordered_int_G (N : Nat) : GTab := gOf [(192, cmp_Less_int_S N)]
theorem slices_order2Ordered_int_gok (N : Nat) : GOk Tryz.prog (slices_order2Ordered_int_G N) := gOf_ok ⟨cmp_Less_int_pc N, trivial⟩
noncomputable def slices_order2Ordered_int_code : Code := (Tryz.f221.body).getD .skip
noncomputable def slices_order2Ordered_int (N : Nat) (data : (List Int)) (a : Int) (b : Int) (swaps : Int) : Option ((Int × Int × Unit) × (Int × Unit)) :=
  (chk (inb data b)
    (chk (inb data a)
    ((cmp_Less_int N (rdI data b) (rdI data a)).bind fun r =>
    (br r.1.1
      (some ((b, a, ()), ((IntKind.i64.wrap (swaps + 1)), ())))
      (some ((a, b, ()), (swaps, ())))))))
noncomputable def slices_order2Ordered_int_S (N : Nat) : FSum := ⟨slices_order2Ordered_int_ps, slices_order2Ordered_int_rs, fun x => slices_order2Ordered_int N x.1 x.2.1 x.2.2.1 x.2.2.2.1⟩
theorem slices_order2Ordered_int_run (N : Nat) (x : argsT slices_order2Ordered_int_ps) : slices_order2Ordered_int N x.1 x.2.1 x.2.2.1 x.2.2.2.1 = funF (slices_order2Ordered_int_G N) tab [] Tryz.f221 slices_order2Ordered_int_ps slices_order2Ordered_int_rs x := by kernel_rfl
theorem slices_order2Ordered_int_pc (N : Nat) : PC Tryz.prog 221 (slices_order2Ordered_int_S N) := by
  have e : slices_order2Ordered_int_S N = ⟨slices_order2Ordered_int_ps, slices_order2Ordered_int_rs, funF (slices_order2Ordered_int_G N) tab [] Tryz.f221 slices_order2Ordered_int_ps slices_order2Ordered_int_rs⟩ := congrArg (FSum.mk slices_order2Ordered_int_ps slices_order2Ordered_int_rs) (funext (slices_order2Ordered_int_run N))
  rw [e]
  exact fun_ok (c := slices_order2Ordered_int_code) progOk (slices_order2Ordered_int_gok N) (draw_ok progOk (slices_order2Ordered_int_gok N)) Tryz.call221 Tryz.func221 (by kernel_rfl) (lsOk_at (L := []) trivial) (by kernel_rfl) (by kernel_rfl) (by kernel_rfl) (by kernel_rfl) (by kernel_rfl)

/-! ### slices_medianOrdered_int -/
abbrev slices_medianOrdered_int_ps : List (PV.Mode × Ty) := [(.ro, LI), (.ro, I), (.ro, I), (.ro, I), (.mut, BI)]
abbrev slices_medianOrdered_int_rs : List (Bool × Ty) := [(true, I)]
noncomputable def slices_medianOrdered_int_G (N : Nat) : GTab := gOf [(221, slices_order2Ordered_int_S N)]
theorem slices_medianOrdered_int_gok (N : Nat) : GOk Tryz.prog (slices_medianOrdered_int_G N) := gOf_ok ⟨slices_order2Ordered_int_pc N, trivial⟩
noncomputable def slices_medianOrdered_int_code : Code := (Tryz.f213.body).getD .skip
noncomputable def slices_medianOrdered_int (N : Nat) (data : (List Int)) (a : Int) (b : Int) (c : Int) (swaps : Int) : Option ((Int × Unit) × (Int × Unit)) :=
  ((slices_order2Ordered_int N data a b swaps).bind fun r =>
    ((slices_order2Ordered_int N data r.1.2.1 c r.2.1).bind fun r1 =>
      ((slices_order2Ordered_int N data r.1.1 r1.1.1 r1.2.1).bind fun r2 =>
        some ((r2.1.2.1, ()), (r2.2.1, ())))))
noncomputable def slices_medianOrdered_int_S (N : Nat) : FSum := ⟨slices_medianOrdered_int_ps, slices_medianOrdered_int_rs, fun x => slices_medianOrdered_int N x.1 x.2.1 x.2.2.1 x.2.2.2.1 x.2.2.2.2.1⟩
theorem slices_medianOrdered_int_run (N : Nat) (x : argsT slices_medianOrdered_int_ps) : slices_medianOrdered_int N x.1 x.2.1 x.2.2.1 x.2.2.2.1 x.2.2.2.2.1 = funF (slices_medianOrdered_int_G N) tab [] Tryz.f213 slices_medianOrdered_int_ps slices_medianOrdered_int_rs x := by kernel_rfl
theorem slices_medianOrdered_int_pc (N : Nat) : PC Tryz.prog 213 (slices_medianOrdered_int_S N) := by
  have e : slices_medianOrdered_int_S N = ⟨slices_medianOrdered_int_ps, slices_medianOrdered_int_rs, funF (slices_medianOrdered_int_G N) tab [] Tryz.f213 slices_medianOrdered_int_ps slices_medianOrdered_int_rs⟩ := congrArg (FSum.mk slices_medianOrdered_int_ps slices_medianOrdered_int_rs) (funext (slices_medianOrdered_int_run N))
  rw [e]
  exact fun_ok (c := slices_medianOrdered_int_code) progOk (slices_medianOrdered_int_gok N) (draw_ok progOk (slices_medianOrdered_int_gok N)) Tryz.call213 Tryz.func213 (by kernel_rfl) (lsOk_at (L := []) trivial) (by kernel_rfl) (by kernel_rfl) (by kernel_rfl) (by kernel_rfl) (by kernel_rfl)

/-! ### slices_medianAdjacentOrdered_int -/
abbrev slices_medianAdjacentOrdered_int_ps : List (PV.Mode × Ty) := [(.ro, LI), (.ro, I), (.mut, BI)]
abbrev slices_medianAdjacentOrdered_int_rs : List (Bool × Ty) := [(true, I)]
noncomputable def slices_medianAdjacentOrdered_int_G (N : Nat) : GTab := gOf [(213, slices_medianOrdered_int_S N)]
theorem slices_medianAdjacentOrdered_int_gok (N : Nat) : GOk Tryz.prog (slices_medianAdjacentOrdered_int_G N) := gOf_ok ⟨slices_medianOrdered_int_pc N, trivial⟩
noncomputable def slices_medianAdjacentOrdered_int_code : Code := (Tryz.f212.body).getD .skip
noncomputable def slices_medianAdjacentOrdered_int (N : Nat) (data : (List Int)) (a : Int) (swaps : Int) : Option ((Int × Unit) × (Int × Unit)) :=
  ((slices_medianOrdered_int N data (IntKind.i64.wrap (a - 1)) a (IntKind.i64.wrap (a + 1)) swaps).bind fun r =>
    some ((r.1.1, ()), (r.2.1, ())))
noncomputable def slices_medianAdjacentOrdered_int_S (N : Nat) : FSum := ⟨slices_medianAdjacentOrdered_int_ps, slices_medianAdjacentOrdered_int_rs, fun x => slices_medianAdjacentOrdered_int N x.1 x.2.1 x.2.2.1⟩
theorem slices_medianAdjacentOrdered_int_run (N : Nat) (x : argsT slices_medianAdjacentOrdered_int_ps) : slices_medianAdjacentOrdered_int N x.1 x.2.1 x.2.2.1 = funF (slices_medianAdjacentOrdered_int_G N) tab [] Tryz.f212 slices_medianAdjacentOrdered_int_ps slices_medianAdjacentOrdered_int_rs x := by kernel_rfl
theorem slices_medianAdjacentOrdered_int_pc (N : Nat) : PC Tryz.prog 212 (slices_medianAdjacentOrdered_int_S N) := by
  have e : slices_medianAdjacentOrdered_int_S N = ⟨slices_medianAdjacentOrdered_int_ps, slices_medianAdjacentOrdered_int_rs, funF (slices_medianAdjacentOrdered_int_G N) tab [] Tryz.f212 slices_medianAdjacentOrdered_int_ps slices_medianAdjacentOrdered_int_rs⟩ := congrArg (FSum.mk slices_medianAdjacentOrdered_int_ps slices_medianAdjacentOrdered_int_rs) (funext (slices_medianAdjacentOrdered_int_run N))
  rw [e]
  exact fun_ok (c := slices_medianAdjacentOrdered_int_code) progOk (slices_medianAdjacentOrdered_int_gok N) (draw_ok progOk (slices_medianAdjacentOrdered_int_gok N)) Tryz.call212 Tryz.func212 (by kernel_rfl) (lsOk_at (L := []) trivial) (by kernel_rfl) (by kernel_rfl) (by kernel_rfl) (by kernel_rfl) (by kernel_rfl)

/-! ### slices_choosePivotOrdered_int -/
abbrev slices_choosePivotOrdered_int_ps : List (PV.Mode × Ty) := [(.ro, LI), (.ro, I), (.ro, I)]
abbrev slices_choosePivotOrdered_int_rs : List (Bool × Ty) := [(true, I), (true, I)]
noncomputable def slices_choosePivotOrdered_int_G (N : Nat) : GTab := gOf [(212, slices_medianAdjacentOrdered_int_S N), (213, slices_medianOrdered_int_S N)]
theorem slices_choosePivotOrdered_int_gok (N : Nat) : GOk Tryz.prog (slices_choosePivotOrdered_int_G N) := gOf_ok ⟨slices_medianAdjacentOrdered_int_pc N, slices_medianOrdered_int_pc N, trivial⟩
noncomputable def slices_choosePivotOrdered_int_code : Code := (Tryz.f189.body).getD .skip
noncomputable def slices_choosePivotOrdered_int (N : Nat) (data : (List Int)) (a : Int) (b : Int) : Option ((Int × Int × Unit) × (Unit)) :=
  (br (ile 8 (IntKind.i64.wrap (b - a)))
    ((br (ile 50 (IntKind.i64.wrap (b - a)))
      (((slices_medianAdjacentOrdered_int N data (IntKind.i64.wrap (a + (IntKind.i64.wrap ((IntKind.i64.wrap ((IntKind.i64.wrap (b - a)).tdiv 4)) * 1)))) 0).bind fun r =>
        ((slices_medianAdjacentOrdered_int N data (IntKind.i64.wrap (a + (IntKind.i64.wrap ((IntKind.i64.wrap ((IntKind.i64.wrap (b - a)).tdiv 4)) * 2)))) r.2.1).bind fun r1 =>
          ((slices_medianAdjacentOrdered_int N data (IntKind.i64.wrap (a + (IntKind.i64.wrap ((IntKind.i64.wrap ((IntKind.i64.wrap (b - a)).tdiv 4)) * 3)))) r1.2.1).bind fun r2 =>
            ((slices_medianOrdered_int N data r.1.1 r1.1.1 r2.1.1 r2.2.1).bind fun r3 =>
              (br (ieq r3.2.1 0)
                (some ((r3.1.1, 1, ()), ()))
                ((br (ieq r3.2.1 12)
                  (some ((r3.1.1, 2, ()), ()))
                  (some ((r3.1.1, 0, ()), ()))))))))))
      (((slices_medianOrdered_int N data (IntKind.i64.wrap (a + (IntKind.i64.wrap ((IntKind.i64.wrap ((IntKind.i64.wrap (b - a)).tdiv 4)) * 1)))) (IntKind.i64.wrap (a + (IntKind.i64.wrap ((IntKind.i64.wrap ((IntKind.i64.wrap (b - a)).tdiv 4)) * 2)))) (IntKind.i64.wrap (a + (IntKind.i64.wrap ((IntKind.i64.wrap ((IntKind.i64.wrap (b - a)).tdiv 4)) * 3)))) 0).bind fun r4 =>
        (br (ieq r4.2.1 0)
          (some ((r4.1.1, 1, ()), ()))
          ((br (ieq r4.2.1 12)
            (some ((r4.1.1, 2, ()), ()))
            (some ((r4.1.1, 0, ()), ())))))))))
    (some (((IntKind.i64.wrap (a + (IntKind.i64.wrap ((IntKind.i64.wrap ((IntKind.i64.wrap (b - a)).tdiv 4)) * 2)))), 1, ()), ())))
noncomputable def slices_choosePivotOrdered_int_S (N : Nat) : FSum := ⟨slices_choosePivotOrdered_int_ps, slices_choosePivotOrdered_int_rs, fun x => slices_choosePivotOrdered_int N x.1 x.2.1 x.2.2.1⟩
theorem slices_choosePivotOrdered_int_run (N : Nat) (x : argsT slices_choosePivotOrdered_int_ps) : slices_choosePivotOrdered_int N x.1 x.2.1 x.2.2.1 = funF (slices_choosePivotOrdered_int_G N) tab [] Tryz.f189 slices_choosePivotOrdered_int_ps slices_choosePivotOrdered_int_rs x := by kernel_rfl
theorem slices_choosePivotOrdered_int_pc (N : Nat) : PC Tryz.prog 189 (slices_choosePivotOrdered_int_S N) := by
  have e : slices_choosePivotOrdered_int_S N = ⟨slices_choosePivotOrdered_int_ps, slices_choosePivotOrdered_int_rs, funF (slices_choosePivotOrdered_int_G N) tab [] Tryz.f189 slices_choosePivotOrdered_int_ps slices_choosePivotOrdered_int_rs⟩ := congrArg (FSum.mk slices_choosePivotOrdered_int_ps slices_choosePivotOrdered_int_rs) (funext (slices_choosePivotOrdered_int_run N))
  rw [e]
  exact fun_ok (c := slices_choosePivotOrdered_int_code) progOk (slices_choosePivotOrdered_int_gok N) (draw_ok progOk (slices_choosePivotOrdered_int_gok N)) Tryz.call189 Tryz.func189 (by kernel_rfl) (lsOk_at (L := []) trivial) (by kernel_rfl) (by kernel_rfl) (by kernel_rfl) (by kernel_rfl) (by kernel_rfl)

/-! ### slices_partialInsertionSortOrdered_int -/
abbrev slices_partialInsertionSortOrdered_int_ps : List (PV.Mode × Ty) := [(.mut, LI), (.ro, I), (.ro, I)]
abbrev slices_partialInsertionSortOrdered_int_rs : List (Bool × Ty) := [(true, .bool)]
noncomputable def slices_partialInsertionSortOrdered_int_G (N : Nat) : GTab := gOf [(192, cmp_Less_int_S N)]
theorem slices_partialInsertionSortOrdered_int_gok (N : Nat) : GOk Tryz.prog (slices_partialInsertionSortOrdered_int_G N) := gOf_ok ⟨cmp_Less_int_pc N, trivial⟩
noncomputable def slices_partialInsertionSortOrdered_int_code : Code := (Tryz.f191.body).getD .skip
noncomputable def slices_partialInsertionSortOrdered_int_l0_0_sh : Sh := ⟨[(0, .one (.ref 0)), (1, .one (.ro I)), (2, .one (.ro I)), (7, .one (.ro I)), (8, .one (.ro I))], [.sl 3 I .own]⟩
noncomputable def slices_partialInsertionSortOrdered_int_l0_0_ex : List (Ex × Sh) := [(.exit 2, ⟨[(0, .one (.ref 0)), (1, .one (.ro I)), (2, .one (.ro I)), (7, .one (.ro I)), (8, .one (.ro I))], [.sl 3 I .own]⟩)]
noncomputable def slices_partialInsertionSortOrdered_int_l0_0 {R : Type} (N : Nat) (k0 : Int → Int → Int → Int → (List Int) → Option R) : Nat → Int → Int → Int → Int → (List Int) → Option R
  | 0, _, _, _, _, _ => none
  | K + 1, x4, x5, x6, x7, o1 =>
    (br (ilt x6 x5)
      ((chk (inb o1 x6)
        (chk (inb o1 (IntKind.i64.wrap (x6 - 1)))
        ((cmp_Less_int N (rdI o1 x6) (rdI o1 (IntKind.i64.wrap (x6 - 1)))).bind fun r =>
        (br (!r.1.1)
          (slices_partialInsertionSortOrdered_int_l0_0 N k0 K x4 x5 (IntKind.i64.wrap (x6 + 1)) x7 o1)
          (k0 x4 x5 x6 x7 o1))))))
      (k0 x4 x5 x6 x7 o1))
noncomputable def slices_partialInsertionSortOrdered_int_l0_0_again {R : Type} (N : Nat) (ks : (j : Nat) → ((slices_partialInsertionSortOrdered_int_l0_0_ex.getD j (.ret, Sh.none)).2).T → Option R) (k : Nat) (x : slices_partialInsertionSortOrdered_int_l0_0_sh.T) : Option R :=
  slices_partialInsertionSortOrdered_int_l0_0 N (fun y0 y1 y2 y3 y4 => ks 0 (((), y0, y1, y2, y3, ()), (y4, ()))) k x.1.2.1 x.1.2.2.1 x.1.2.2.2.1 x.1.2.2.2.2.1 x.2.1
noncomputable def slices_partialInsertionSortOrdered_int_l0_0_s (N : Nat) : LSum := ⟨slices_partialInsertionSortOrdered_int_l0_0_sh, slices_partialInsertionSortOrdered_int_l0_0_ex, fun x ks => slices_partialInsertionSortOrdered_int_l0_0_again N ks N x⟩
theorem slices_partialInsertionSortOrdered_int_l0_0_step (N : Nat) (R : Type) (k : Nat) (x : slices_partialInsertionSortOrdered_int_l0_0_sh.T) (ks : (j : Nat) → ((slices_partialInsertionSortOrdered_int_l0_0_ex.getD j (.ret, Sh.none)).2).T → Option R) : slices_partialInsertionSortOrdered_int_l0_0_again N ks (k + 1) x = roundF (slices_partialInsertionSortOrdered_int_G N) tab [] (loopAt (loopAt slices_partialInsertionSortOrdered_int_code 0) 0) slices_partialInsertionSortOrdered_int_l0_0_sh slices_partialInsertionSortOrdered_int_l0_0_ex (fun y => slices_partialInsertionSortOrdered_int_l0_0_again N ks k y) ks x := by kernel_rfl
theorem slices_partialInsertionSortOrdered_int_l0_0_ok (N : Nat) : LoopOk Tryz.prog Tryz.f191.ntmps (slices_partialInsertionSortOrdered_int_l0_0_s N) (loopAt (loopAt slices_partialInsertionSortOrdered_int_code 0) 0) :=
  loop_ok (l := slices_partialInsertionSortOrdered_int_l0_0_s N) progOk (slices_partialInsertionSortOrdered_int_gok N) (draw_ok progOk (slices_partialInsertionSortOrdered_int_gok N)) (fun R k x ks => slices_partialInsertionSortOrdered_int_l0_0_again N ks k x) (fun _ _ _ => rfl) (fun R k x ks => slices_partialInsertionSortOrdered_int_l0_0_step N R k x ks) (fun R x ks r h => ⟨N, h⟩) (lsOk_at (L := []) trivial) (by kernel_rfl) (by kernel_rfl)
noncomputable def slices_partialInsertionSortOrdered_int_l0_1_sh : Sh := ⟨[(0, .one (.ref 0)), (1, .one (.ro I)), (2, .one (.ro I)), (7, .one (.ro I)), (8, .one (.ro I)), (9, .one (.ro I))], [.sl 3 I .own]⟩
noncomputable def slices_partialInsertionSortOrdered_int_l0_1_ex : List (Ex × Sh) := [(.exit 4, ⟨[(0, .one (.ref 0)), (1, .one (.ro I)), (2, .one (.ro I)), (7, .one (.ro I)), (8, .one (.ro I))], [.sl 3 I .own]⟩)]
noncomputable def slices_partialInsertionSortOrdered_int_l0_1 {R : Type} (N : Nat) (k0 : Int → Int → Int → Int → (List Int) → Option R) : Nat → Int → Int → Int → Int → Int → (List Int) → Option R
  | 0, _, _, _, _, _, _ => none
  | K + 1, x8, x9, x10, x11, x12, o2 =>
    (br (ile 1 x12)
      ((chk (inb o2 x12)
        (chk (inb o2 (IntKind.i64.wrap (x12 - 1)))
        ((cmp_Less_int N (rdI o2 x12) (rdI o2 (IntKind.i64.wrap (x12 - 1)))).bind fun r =>
        (br (!r.1.1)
          (k0 x8 x9 x10 x11 o2)
          ((chk (inb o2 (IntKind.i64.wrap (x12 - 1)))
            (chk (inb o2 x12)
            (chk (inb o2 x12)
            (chk (inb (tSet o2 x12 (rdI o2 (IntKind.i64.wrap (x12 - 1)))) (IntKind.i64.wrap (x12 - 1)))
            (slices_partialInsertionSortOrdered_int_l0_1 N k0 K x8 x9 x10 x11 (IntKind.i64.wrap (x12 - 1)) (tSet (tSet o2 x12 (rdI o2 (IntKind.i64.wrap (x12 - 1)))) (IntKind.i64.wrap (x12 - 1)) (rdI o2 x12)))))))))))))
      (k0 x8 x9 x10 x11 o2))
noncomputable def slices_partialInsertionSortOrdered_int_l0_1_again {R : Type} (N : Nat) (ks : (j : Nat) → ((slices_partialInsertionSortOrdered_int_l0_1_ex.getD j (.ret, Sh.none)).2).T → Option R) (k : Nat) (x : slices_partialInsertionSortOrdered_int_l0_1_sh.T) : Option R :=
  slices_partialInsertionSortOrdered_int_l0_1 N (fun y0 y1 y2 y3 y4 => ks 0 (((), y0, y1, y2, y3, ()), (y4, ()))) k x.1.2.1 x.1.2.2.1 x.1.2.2.2.1 x.1.2.2.2.2.1 x.1.2.2.2.2.2.1 x.2.1
noncomputable def slices_partialInsertionSortOrdered_int_l0_1_s (N : Nat) : LSum := ⟨slices_partialInsertionSortOrdered_int_l0_1_sh, slices_partialInsertionSortOrdered_int_l0_1_ex, fun x ks => slices_partialInsertionSortOrdered_int_l0_1_again N ks N x⟩
theorem slices_partialInsertionSortOrdered_int_l0_1_step (N : Nat) (R : Type) (k : Nat) (x : slices_partialInsertionSortOrdered_int_l0_1_sh.T) (ks : (j : Nat) → ((slices_partialInsertionSortOrdered_int_l0_1_ex.getD j (.ret, Sh.none)).2).T → Option R) : slices_partialInsertionSortOrdered_int_l0_1_again N ks (k + 1) x = roundF (slices_partialInsertionSortOrdered_int_G N) tab [] (loopAt (loopAt slices_partialInsertionSortOrdered_int_code 0) 1) slices_partialInsertionSortOrdered_int_l0_1_sh slices_partialInsertionSortOrdered_int_l0_1_ex (fun y => slices_partialInsertionSortOrdered_int_l0_1_again N ks k y) ks x := by kernel_rfl
theorem slices_partialInsertionSortOrdered_int_l0_1_ok (N : Nat) : LoopOk Tryz.prog Tryz.f191.ntmps (slices_partialInsertionSortOrdered_int_l0_1_s N) (loopAt (loopAt slices_partialInsertionSortOrdered_int_code 0) 1) :=
  loop_ok (l := slices_partialInsertionSortOrdered_int_l0_1_s N) progOk (slices_partialInsertionSortOrdered_int_gok N) (draw_ok progOk (slices_partialInsertionSortOrdered_int_gok N)) (fun R k x ks => slices_partialInsertionSortOrdered_int_l0_1_again N ks k x) (fun _ _ _ => rfl) (fun R k x ks => slices_partialInsertionSortOrdered_int_l0_1_step N R k x ks) (fun R x ks r h => ⟨N, h⟩) (lsOk_at (L := []) trivial) (by kernel_rfl) (by kernel_rfl)
noncomputable def slices_partialInsertionSortOrdered_int_l0_2_sh : Sh := ⟨[(0, .one (.ref 0)), (1, .one (.ro I)), (2, .one (.ro I)), (7, .one (.ro I)), (8, .one (.ro I)), (10, .one (.ro I))], [.sl 3 I .own]⟩
noncomputable def slices_partialInsertionSortOrdered_int_l0_2_ex : List (Ex × Sh) := [(.exit 6, ⟨[(0, .one (.ref 0)), (1, .one (.ro I)), (2, .one (.ro I)), (7, .one (.ro I)), (8, .one (.ro I))], [.sl 3 I .own]⟩)]
noncomputable def slices_partialInsertionSortOrdered_int_l0_2 {R : Type} (N : Nat) (k0 : Int → Int → Int → Int → (List Int) → Option R) : Nat → Int → Int → Int → Int → Int → (List Int) → Option R
  | 0, _, _, _, _, _, _ => none
  | K + 1, x12, x13, x14, x15, x16, o3 =>
    (br (ilt x16 x13)
      ((chk (inb o3 x16)
        (chk (inb o3 (IntKind.i64.wrap (x16 - 1)))
        ((cmp_Less_int N (rdI o3 x16) (rdI o3 (IntKind.i64.wrap (x16 - 1)))).bind fun r =>
        (br (!r.1.1)
          (k0 x12 x13 x14 x15 o3)
          ((chk (inb o3 (IntKind.i64.wrap (x16 - 1)))
            (chk (inb o3 x16)
            (chk (inb o3 x16)
            (chk (inb (tSet o3 x16 (rdI o3 (IntKind.i64.wrap (x16 - 1)))) (IntKind.i64.wrap (x16 - 1)))
            (slices_partialInsertionSortOrdered_int_l0_2 N k0 K x12 x13 x14 x15 (IntKind.i64.wrap (x16 + 1)) (tSet (tSet o3 x16 (rdI o3 (IntKind.i64.wrap (x16 - 1)))) (IntKind.i64.wrap (x16 - 1)) (rdI o3 x16)))))))))))))
      (k0 x12 x13 x14 x15 o3))
noncomputable def slices_partialInsertionSortOrdered_int_l0_2_again {R : Type} (N : Nat) (ks : (j : Nat) → ((slices_partialInsertionSortOrdered_int_l0_2_ex.getD j (.ret, Sh.none)).2).T → Option R) (k : Nat) (x : slices_partialInsertionSortOrdered_int_l0_2_sh.T) : Option R :=
  slices_partialInsertionSortOrdered_int_l0_2 N (fun y0 y1 y2 y3 y4 => ks 0 (((), y0, y1, y2, y3, ()), (y4, ()))) k x.1.2.1 x.1.2.2.1 x.1.2.2.2.1 x.1.2.2.2.2.1 x.1.2.2.2.2.2.1 x.2.1
noncomputable def slices_partialInsertionSortOrdered_int_l0_2_s (N : Nat) : LSum := ⟨slices_partialInsertionSortOrdered_int_l0_2_sh, slices_partialInsertionSortOrdered_int_l0_2_ex, fun x ks => slices_partialInsertionSortOrdered_int_l0_2_again N ks N x⟩
theorem slices_partialInsertionSortOrdered_int_l0_2_step (N : Nat) (R : Type) (k : Nat) (x : slices_partialInsertionSortOrdered_int_l0_2_sh.T) (ks : (j : Nat) → ((slices_partialInsertionSortOrdered_int_l0_2_ex.getD j (.ret, Sh.none)).2).T → Option R) : slices_partialInsertionSortOrdered_int_l0_2_again N ks (k + 1) x = roundF (slices_partialInsertionSortOrdered_int_G N) tab [] (loopAt (loopAt slices_partialInsertionSortOrdered_int_code 0) 2) slices_partialInsertionSortOrdered_int_l0_2_sh slices_partialInsertionSortOrdered_int_l0_2_ex (fun y => slices_partialInsertionSortOrdered_int_l0_2_again N ks k y) ks x := by kernel_rfl
theorem slices_partialInsertionSortOrdered_int_l0_2_ok (N : Nat) : LoopOk Tryz.prog Tryz.f191.ntmps (slices_partialInsertionSortOrdered_int_l0_2_s N) (loopAt (loopAt slices_partialInsertionSortOrdered_int_code 0) 2) :=
  loop_ok (l := slices_partialInsertionSortOrdered_int_l0_2_s N) progOk (slices_partialInsertionSortOrdered_int_gok N) (draw_ok progOk (slices_partialInsertionSortOrdered_int_gok N)) (fun R k x ks => slices_partialInsertionSortOrdered_int_l0_2_again N ks k x) (fun _ _ _ => rfl) (fun R k x ks => slices_partialInsertionSortOrdered_int_l0_2_step N R k x ks) (fun R x ks r h => ⟨N, h⟩) (lsOk_at (L := []) trivial) (by kernel_rfl) (by kernel_rfl)
noncomputable def slices_partialInsertionSortOrdered_int_l0_sh : Sh := ⟨[(0, .one (.ref 0)), (1, .one (.ro I)), (2, .one (.ro I)), (7, .one (.ro I)), (8, .one (.ro I))], [.sl 3 I .own]⟩
noncomputable def slices_partialInsertionSortOrdered_int_l0_ex : List (Ex × Sh) := [(.ret, ⟨[(0, .one (.ref 0)), (6, .one (.ro .bool))], [.sl 3 I .own]⟩), (.exit 0, ⟨[(0, .one (.ref 0))], [.sl 3 I .own]⟩)]
noncomputable def slices_partialInsertionSortOrdered_int_l0 {R : Type} (N : Nat) (k0 : Bool → (List Int) → Option R) (k1 : (List Int) → Option R) : Nat → Int → Int → Int → Int → (List Int) → Option R
  | 0, _, _, _, _, _ => none
  | K + 1, x, x1, x2, x3, o =>
    (br (ilt x3 5)
      (slices_partialInsertionSortOrdered_int_l0_0 N (fun x4 x5 x6 x7 o1 => (br (ieq x6 x5)
        (k0 true o1)
        ((br (ilt (IntKind.i64.wrap (x5 - x4)) 50)
          (k0 false o1)
          ((chk (inb o1 (IntKind.i64.wrap (x6 - 1)))
            (chk (inb o1 x6)
            (chk (inb o1 x6)
            (chk (inb (tSet o1 x6 (rdI o1 (IntKind.i64.wrap (x6 - 1)))) (IntKind.i64.wrap (x6 - 1)))
            (br (ile 2 (IntKind.i64.wrap (x6 - x4)))
            (slices_partialInsertionSortOrdered_int_l0_1 N (fun x8 x9 x10 x11 o2 => (br (ile 2 (IntKind.i64.wrap (x9 - x10)))
              (slices_partialInsertionSortOrdered_int_l0_2 N (fun x12 x13 x14 x15 o3 => slices_partialInsertionSortOrdered_int_l0 N k0 k1 K x12 x13 x14 (IntKind.i64.wrap (x15 + 1)) o3) N x8 x9 x10 x11 (IntKind.i64.wrap (x10 + 1)) o2)
              (slices_partialInsertionSortOrdered_int_l0 N k0 k1 K x8 x9 x10 (IntKind.i64.wrap (x11 + 1)) o2))) N x4 x5 x6 x7 (IntKind.i64.wrap (x6 - 1)) (tSet (tSet o1 x6 (rdI o1 (IntKind.i64.wrap (x6 - 1)))) (IntKind.i64.wrap (x6 - 1)) (rdI o1 x6)))
            ((br (ile 2 (IntKind.i64.wrap (x5 - x6)))
              (slices_partialInsertionSortOrdered_int_l0_2 N (fun x16 x17 x18 x19 o4 => slices_partialInsertionSortOrdered_int_l0 N k0 k1 K x16 x17 x18 (IntKind.i64.wrap (x19 + 1)) o4) N x4 x5 x6 x7 (IntKind.i64.wrap (x6 + 1)) (tSet (tSet o1 x6 (rdI o1 (IntKind.i64.wrap (x6 - 1)))) (IntKind.i64.wrap (x6 - 1)) (rdI o1 x6)))
              (slices_partialInsertionSortOrdered_int_l0 N k0 k1 K x4 x5 x6 (IntKind.i64.wrap (x7 + 1)) (tSet (tSet o1 x6 (rdI o1 (IntKind.i64.wrap (x6 - 1)))) (IntKind.i64.wrap (x6 - 1)) (rdI o1 x6))))))))))))))) N x x1 x2 x3 o)
      (k1 o))
noncomputable def slices_partialInsertionSortOrdered_int_l0_again {R : Type} (N : Nat) (ks : (j : Nat) → ((slices_partialInsertionSortOrdered_int_l0_ex.getD j (.ret, Sh.none)).2).T → Option R) (k : Nat) (x : slices_partialInsertionSortOrdered_int_l0_sh.T) : Option R :=
  slices_partialInsertionSortOrdered_int_l0 N (fun y0 y1 => ks 0 (((), y0, ()), (y1, ()))) (fun y0 => ks 1 (((), ()), (y0, ()))) k x.1.2.1 x.1.2.2.1 x.1.2.2.2.1 x.1.2.2.2.2.1 x.2.1
noncomputable def slices_partialInsertionSortOrdered_int_l0_s (N : Nat) : LSum := ⟨slices_partialInsertionSortOrdered_int_l0_sh, slices_partialInsertionSortOrdered_int_l0_ex, fun x ks => slices_partialInsertionSortOrdered_int_l0_again N ks N x⟩
theorem slices_partialInsertionSortOrdered_int_l0_step (N : Nat) (R : Type) (k : Nat) (x : slices_partialInsertionSortOrdered_int_l0_sh.T) (ks : (j : Nat) → ((slices_partialInsertionSortOrdered_int_l0_ex.getD j (.ret, Sh.none)).2).T → Option R) : slices_partialInsertionSortOrdered_int_l0_again N ks (k + 1) x = roundF (slices_partialInsertionSortOrdered_int_G N) tab [slices_partialInsertionSortOrdered_int_l0_0_s N, slices_partialInsertionSortOrdered_int_l0_1_s N, slices_partialInsertionSortOrdered_int_l0_2_s N] (loopAt slices_partialInsertionSortOrdered_int_code 0) slices_partialInsertionSortOrdered_int_l0_sh slices_partialInsertionSortOrdered_int_l0_ex (fun y => slices_partialInsertionSortOrdered_int_l0_again N ks k y) ks x := by kernel_rfl
theorem slices_partialInsertionSortOrdered_int_l0_ok (N : Nat) : LoopOk Tryz.prog Tryz.f191.ntmps (slices_partialInsertionSortOrdered_int_l0_s N) (loopAt slices_partialInsertionSortOrdered_int_code 0) :=
  loop_ok (l := slices_partialInsertionSortOrdered_int_l0_s N) progOk (slices_partialInsertionSortOrdered_int_gok N) (draw_ok progOk (slices_partialInsertionSortOrdered_int_gok N)) (fun R k x ks => slices_partialInsertionSortOrdered_int_l0_again N ks k x) (fun _ _ _ => rfl) (fun R k x ks => slices_partialInsertionSortOrdered_int_l0_step N R k x ks) (fun R x ks r h => ⟨N, h⟩) (lsOk_at (L := [slices_partialInsertionSortOrdered_int_l0_0_s N, slices_partialInsertionSortOrdered_int_l0_1_s N, slices_partialInsertionSortOrdered_int_l0_2_s N]) ⟨slices_partialInsertionSortOrdered_int_l0_0_ok N, slices_partialInsertionSortOrdered_int_l0_1_ok N, slices_partialInsertionSortOrdered_int_l0_2_ok N, trivial⟩) (by kernel_rfl) (by kernel_rfl)
noncomputable def slices_partialInsertionSortOrdered_int (N : Nat) (c : (List Int)) (c1 : Int) (c2 : Int) : Option ((Bool × Unit) × ((List Int) × Unit)) :=
  slices_partialInsertionSortOrdered_int_l0 N (fun x o => some ((x, ()), (o, ()))) (fun o1 => some ((false, ()), (o1, ()))) N c1 c2 (IntKind.i64.wrap (c1 + 1)) 0 c
noncomputable def slices_partialInsertionSortOrdered_int_S (N : Nat) : FSum := ⟨slices_partialInsertionSortOrdered_int_ps, slices_partialInsertionSortOrdered_int_rs, fun x => slices_partialInsertionSortOrdered_int N x.1 x.2.1 x.2.2.1⟩
theorem slices_partialInsertionSortOrdered_int_run (N : Nat) (x : argsT slices_partialInsertionSortOrdered_int_ps) : slices_partialInsertionSortOrdered_int N x.1 x.2.1 x.2.2.1 = funF (slices_partialInsertionSortOrdered_int_G N) tab [slices_partialInsertionSortOrdered_int_l0_s N] Tryz.f191 slices_partialInsertionSortOrdered_int_ps slices_partialInsertionSortOrdered_int_rs x := by kernel_rfl
theorem slices_partialInsertionSortOrdered_int_pc (N : Nat) : PC Tryz.prog 191 (slices_partialInsertionSortOrdered_int_S N) := by
  have e : slices_partialInsertionSortOrdered_int_S N = ⟨slices_partialInsertionSortOrdered_int_ps, slices_partialInsertionSortOrdered_int_rs, funF (slices_partialInsertionSortOrdered_int_G N) tab [slices_partialInsertionSortOrdered_int_l0_s N] Tryz.f191 slices_partialInsertionSortOrdered_int_ps slices_partialInsertionSortOrdered_int_rs⟩ := congrArg (FSum.mk slices_partialInsertionSortOrdered_int_ps slices_partialInsertionSortOrdered_int_rs) (funext (slices_partialInsertionSortOrdered_int_run N))
  rw [e]
  exact fun_ok (c := slices_partialInsertionSortOrdered_int_code) progOk (slices_partialInsertionSortOrdered_int_gok N) (draw_ok progOk (slices_partialInsertionSortOrdered_int_gok N)) Tryz.call191 Tryz.func191 (by kernel_rfl) (lsOk_at (L := [slices_partialInsertionSortOrdered_int_l0_s N]) ⟨slices_partialInsertionSortOrdered_int_l0_ok N, trivial⟩) (by kernel_rfl) (by kernel_rfl) (by kernel_rfl) (by kernel_rfl) (by kernel_rfl)

/-! ### slices_pdqsortOrdered_int -/
abbrev slices_pdqsortOrdered_int_ps : List (PV.Mode × Ty) := [(.mut, LI), (.ro, I), (.ro, I), (.ro, I)]
abbrev slices_pdqsortOrdered_int_rs : List (Bool × Ty) := []
noncomputable def slices_pdqsortOrdered_int_G (N : Nat) : GTab := gOf [(186, slices_insertionSortOrdered_int_S N), (189, slices_choosePivotOrdered_int_S N), (191, slices_partialInsertionSortOrdered_int_S N), (192, cmp_Less_int_S N)]
theorem slices_pdqsortOrdered_int_gok (N : Nat) : GOk Tryz.prog (slices_pdqsortOrdered_int_G N) := gOf_ok ⟨slices_insertionSortOrdered_int_pc N, slices_choosePivotOrdered_int_pc N, slices_partialInsertionSortOrdered_int_pc N, cmp_Less_int_pc N, trivial⟩
noncomputable def slices_pdqsortOrdered_int_code : Code := (Tryz.f148.body).getD .skip
noncomputable def slices_pdqsortOrdered_int_l0_sh : Sh := ⟨[(0, .one (.ref 0)), (1, .one (.ro I)), (2, .one (.ro I)), (3, .one (.ro I)), (8, .one (.ro .bool)), (9, .one (.ro .bool))], [.sl 3 I .own]⟩
noncomputable def slices_pdqsortOrdered_int_l0_ex : List (Ex × Sh) := [(.ret, ⟨[(0, .one (.ref 0))], [.sl 3 I .own]⟩)]
noncomputable def slices_pdqsortOrdered_int_l0 {R : Type} (N : Nat) (k0 : (List Int) → Option R) : Nat → Int → Int → Int → Bool → Bool → (List Int) → Option R
  | 0, _, _, _, _, _, _ => none
  | K + 1, x, x1, x2, x3, x4, o =>
    (br (ile (IntKind.i64.wrap (x1 - x)) 12)
      (((slices_insertionSortOrdered_int N o x x1).bind fun r =>
        k0 r.2.1))
      ((br (ieq x2 0)
        (none)
        ((br (!x3)
          (none)
          (((slices_choosePivotOrdered_int N o x x1).bind fun r1 =>
            (br (ieq r1.1.2.1 2)
              (none)
              ((br x3
                ((br x4
                  ((br (ieq r1.1.2.1 1)
                    (((slices_partialInsertionSortOrdered_int N o x x1).bind fun r2 =>
                      (br r2.1.1
                        (k0 r2.2.1)
                        ((br (ilt 0 x)
                          ((chk (inb r2.2.1 (IntKind.i64.wrap (x - 1)))
                            (chk (inb r2.2.1 r1.1.1)
                            ((cmp_Less_int N (rdI r2.2.1 (IntKind.i64.wrap (x - 1))) (rdI r2.2.1 r1.1.1)).bind fun r3 =>
                            (br (!r3.1.1)
                              (none)
                              (none))))))
                          (none))))))
                    ((br (ilt 0 x)
                      ((chk (inb o (IntKind.i64.wrap (x - 1)))
                        (chk (inb o r1.1.1)
                        ((cmp_Less_int N (rdI o (IntKind.i64.wrap (x - 1))) (rdI o r1.1.1)).bind fun r4 =>
                        (br (!r4.1.1)
                          (none)
                          (none))))))
                      (none)))))
                  ((br (ilt 0 x)
                    ((chk (inb o (IntKind.i64.wrap (x - 1)))
                      (chk (inb o r1.1.1)
                      ((cmp_Less_int N (rdI o (IntKind.i64.wrap (x - 1))) (rdI o r1.1.1)).bind fun r5 =>
                      (br (!r5.1.1)
                        (none)
                        (none))))))
                    (none)))))
                ((br (ilt 0 x)
                  ((chk (inb o (IntKind.i64.wrap (x - 1)))
                    (chk (inb o r1.1.1)
                    ((cmp_Less_int N (rdI o (IntKind.i64.wrap (x - 1))) (rdI o r1.1.1)).bind fun r6 =>
                    (br (!r6.1.1)
                      (none)
                      (none))))))
                  (none)))))))))))))
noncomputable def slices_pdqsortOrdered_int_l0_again {R : Type} (N : Nat) (ks : (j : Nat) → ((slices_pdqsortOrdered_int_l0_ex.getD j (.ret, Sh.none)).2).T → Option R) (k : Nat) (x : slices_pdqsortOrdered_int_l0_sh.T) : Option R :=
  slices_pdqsortOrdered_int_l0 N (fun y0 => ks 0 (((), ()), (y0, ()))) k x.1.2.1 x.1.2.2.1 x.1.2.2.2.1 x.1.2.2.2.2.1 x.1.2.2.2.2.2.1 x.2.1
noncomputable def slices_pdqsortOrdered_int_l0_s (N : Nat) : LSum := ⟨slices_pdqsortOrdered_int_l0_sh, slices_pdqsortOrdered_int_l0_ex, fun x ks => slices_pdqsortOrdered_int_l0_again N ks N x⟩
theorem slices_pdqsortOrdered_int_l0_step (N : Nat) (R : Type) (k : Nat) (x : slices_pdqsortOrdered_int_l0_sh.T) (ks : (j : Nat) → ((slices_pdqsortOrdered_int_l0_ex.getD j (.ret, Sh.none)).2).T → Option R) : slices_pdqsortOrdered_int_l0_again N ks (k + 1) x = roundF (slices_pdqsortOrdered_int_G N) tab [] (loopAt slices_pdqsortOrdered_int_code 0) slices_pdqsortOrdered_int_l0_sh slices_pdqsortOrdered_int_l0_ex (fun y => slices_pdqsortOrdered_int_l0_again N ks k y) ks x := by kernel_rfl
theorem slices_pdqsortOrdered_int_l0_ok (N : Nat) : LoopOk Tryz.prog Tryz.f148.ntmps (slices_pdqsortOrdered_int_l0_s N) (loopAt slices_pdqsortOrdered_int_code 0) :=
  loop_ok (l := slices_pdqsortOrdered_int_l0_s N) progOk (slices_pdqsortOrdered_int_gok N) (draw_ok progOk (slices_pdqsortOrdered_int_gok N)) (fun R k x ks => slices_pdqsortOrdered_int_l0_again N ks k x) (fun _ _ _ => rfl) (fun R k x ks => slices_pdqsortOrdered_int_l0_step N R k x ks) (fun R x ks r h => ⟨N, h⟩) (lsOk_at (L := []) trivial) (by kernel_rfl) (by kernel_rfl)
noncomputable def slices_pdqsortOrdered_int (N : Nat) (c : (List Int)) (c1 : Int) (c2 : Int) (c3 : Int) : Option ((Unit) × ((List Int) × Unit)) :=
  slices_pdqsortOrdered_int_l0 N (fun o => some ((), (o, ()))) N c1 c2 c3 true true c
noncomputable def slices_pdqsortOrdered_int_S (N : Nat) : FSum := ⟨slices_pdqsortOrdered_int_ps, slices_pdqsortOrdered_int_rs, fun x => slices_pdqsortOrdered_int N x.1 x.2.1 x.2.2.1 x.2.2.2.1⟩
theorem slices_pdqsortOrdered_int_run (N : Nat) (x : argsT slices_pdqsortOrdered_int_ps) : slices_pdqsortOrdered_int N x.1 x.2.1 x.2.2.1 x.2.2.2.1 = funF (slices_pdqsortOrdered_int_G N) tab [slices_pdqsortOrdered_int_l0_s N] Tryz.f148 slices_pdqsortOrdered_int_ps slices_pdqsortOrdered_int_rs x := by kernel_rfl
theorem slices_pdqsortOrdered_int_pc (N : Nat) : PC Tryz.prog 148 (slices_pdqsortOrdered_int_S N) := by
  have e : slices_pdqsortOrdered_int_S N = ⟨slices_pdqsortOrdered_int_ps, slices_pdqsortOrdered_int_rs, funF (slices_pdqsortOrdered_int_G N) tab [slices_pdqsortOrdered_int_l0_s N] Tryz.f148 slices_pdqsortOrdered_int_ps slices_pdqsortOrdered_int_rs⟩ := congrArg (FSum.mk slices_pdqsortOrdered_int_ps slices_pdqsortOrdered_int_rs) (funext (slices_pdqsortOrdered_int_run N))
  rw [e]
  exact fun_ok (c := slices_pdqsortOrdered_int_code) progOk (slices_pdqsortOrdered_int_gok N) (draw_ok progOk (slices_pdqsortOrdered_int_gok N)) Tryz.call148 Tryz.func148 (by kernel_rfl) (lsOk_at (L := [slices_pdqsortOrdered_int_l0_s N]) ⟨slices_pdqsortOrdered_int_l0_ok N, trivial⟩) (by kernel_rfl) (by kernel_rfl) (by kernel_rfl) (by kernel_rfl) (by kernel_rfl)

/-! ### slices_Sort_LI_int -/
abbrev slices_Sort_LI_int_ps : List (PV.Mode × Ty) := [(.mut, LI)]
abbrev slices_Sort_LI_int_rs : List (Bool × Ty) := []
noncomputable def slices_Sort_LI_int_G (N : Nat) : GTab := gOf [(130, math_bits_Len_S N), (148, slices_pdqsortOrdered_int_S N)]
theorem slices_Sort_LI_int_gok (N : Nat) : GOk Tryz.prog (slices_Sort_LI_int_G N) := gOf_ok ⟨math_bits_Len_pc N, slices_pdqsortOrdered_int_pc N, trivial⟩
noncomputable def slices_Sort_LI_int_code : Code := (Tryz.f107.body).getD .skip
noncomputable def slices_Sort_LI_int (N : Nat) (x : (List Int)) : Option ((Unit) × ((List Int) × Unit)) :=
  ((math_bits_Len N (IntKind.u64.wrap ((tLen x)))).bind fun r =>
    ((slices_pdqsortOrdered_int N x 0 (tLen x) r.1.1).bind fun r1 =>
      some ((), (r1.2.1, ()))))
noncomputable def slices_Sort_LI_int_S (N : Nat) : FSum := ⟨slices_Sort_LI_int_ps, slices_Sort_LI_int_rs, fun x => slices_Sort_LI_int N x.1⟩
theorem slices_Sort_LI_int_run (N : Nat) (x : argsT slices_Sort_LI_int_ps) : slices_Sort_LI_int N x.1 = funF (slices_Sort_LI_int_G N) tab [] Tryz.f107 slices_Sort_LI_int_ps slices_Sort_LI_int_rs x := by kernel_rfl
theorem slices_Sort_LI_int_pc (N : Nat) : PC Tryz.prog 107 (slices_Sort_LI_int_S N) := by
  have e : slices_Sort_LI_int_S N = ⟨slices_Sort_LI_int_ps, slices_Sort_LI_int_rs, funF (slices_Sort_LI_int_G N) tab [] Tryz.f107 slices_Sort_LI_int_ps slices_Sort_LI_int_rs⟩ := congrArg (FSum.mk slices_Sort_LI_int_ps slices_Sort_LI_int_rs) (funext (slices_Sort_LI_int_run N))
  rw [e]
  exact fun_ok (c := slices_Sort_LI_int_code) progOk (slices_Sort_LI_int_gok N) (draw_ok progOk (slices_Sort_LI_int_gok N)) Tryz.call107 Tryz.func107 (by kernel_rfl) (lsOk_at (L := []) trivial) (by kernel_rfl) (by kernel_rfl) (by kernel_rfl) (by kernel_rfl) (by kernel_rfl)

/-! ### impl_Graph_chain -/
abbrev impl_Graph_chain_ps : List (PV.Mode × Ty) := [(.ro, QILQII), (.ro, LI), (.ro, I), (.ro, I)]
abbrev impl_Graph_chain_rs : List (Bool × Ty) := [(true, LI)]
noncomputable def impl_Graph_chain_G (N : Nat) : GTab := gOf [(127, impl_Graph_neighbors_S N), (132, slices_Contains_LI_int_S N), (107, slices_Sort_LI_int_S N)]
theorem impl_Graph_chain_gok (N : Nat) : GOk Tryz.prog (impl_Graph_chain_G N) := gOf_ok ⟨impl_Graph_neighbors_pc N, slices_Contains_LI_int_pc N, slices_Sort_LI_int_pc N, trivial⟩
noncomputable def impl_Graph_chain_code : Code := (Tryz.f85.body).getD .skip
noncomputable def impl_Graph_chain_l0_0_sh : Sh := ⟨[(1, .one (.ro LI)), (3, .one (.ro I)), (4, .one (.adr 0 0)), (9, .one (.ro I)), (10, .one (.ref 1)), (11, .one (.ro I)), (31, .one (.ref 2)), (32, .one (.ro I)), (33, .one (.ro I))], [.box [.ro I, .ro LQII], .sl 3 I .own, .sl 3 I .own]⟩
noncomputable def impl_Graph_chain_l0_0_ex : List (Ex × Sh) := [(.exit 2, ⟨[(1, .one (.ro LI)), (3, .one (.ro I)), (4, .one (.adr 0 0)), (9, .one (.ro I)), (10, .one (.ref 1)), (11, .one (.ro I))], [.box [.ro I, .ro LQII], .sl 3 I .own]⟩)]
noncomputable def impl_Graph_chain_l0_0 {R : Type} (N : Nat) (k0 : (List Int) → Int → Int → Int → Int → (List (Int × Int)) → (List Int) → Option R) : Nat → (List Int) → Int → Int → Int → Int → Int → Int → (List (Int × Int)) → (List Int) → (List Int) → Option R
  | 0, _, _, _, _, _, _, _, _, _, _ => none
  | K + 1, x4, x5, x6, x7, x8, x9, o3, o4, o5, o6 =>
    (br (ilt x9 x8)
      ((chk (inb o6 x9)
        (chk (inb x4 (rdI o6 x9))
        (br (ieq (rdI x4 (rdI o6 x9)) x6)
        (((slices_Contains_LI_int N o5 (rdI o6 x9)).bind fun r1 =>
          (br (!r1.1.1)
            ((chk (room o5 [(rdI o6 x9)])
              (impl_Graph_chain_l0_0 N k0 K x4 x5 x6 x7 x8 (IntKind.i64.wrap (x9 + 1)) o3 o4 (tApp o5 [(rdI o6 x9)]) o6)))
            (impl_Graph_chain_l0_0 N k0 K x4 x5 x6 x7 x8 (IntKind.i64.wrap (x9 + 1)) o3 o4 o5 o6))))
        ((chk (inb x4 (rdI o6 x9))
          (br (ieq (rdI x4 (rdI o6 x9)) x5)
          (((slices_Contains_LI_int N o5 (rdI o6 x9)).bind fun r2 =>
            (br (!r2.1.1)
              ((chk (room o5 [(rdI o6 x9)])
                (impl_Graph_chain_l0_0 N k0 K x4 x5 x6 x7 x8 (IntKind.i64.wrap (x9 + 1)) o3 o4 (tApp o5 [(rdI o6 x9)]) o6)))
              (impl_Graph_chain_l0_0 N k0 K x4 x5 x6 x7 x8 (IntKind.i64.wrap (x9 + 1)) o3 o4 o5 o6))))
          (impl_Graph_chain_l0_0 N k0 K x4 x5 x6 x7 x8 (IntKind.i64.wrap (x9 + 1)) o3 o4 o5 o6))))))))
      (k0 x4 x5 x6 x7 o3 o4 o5))
noncomputable def impl_Graph_chain_l0_0_again {R : Type} (N : Nat) (ks : (j : Nat) → ((impl_Graph_chain_l0_0_ex.getD j (.ret, Sh.none)).2).T → Option R) (k : Nat) (x : impl_Graph_chain_l0_0_sh.T) : Option R :=
  impl_Graph_chain_l0_0 N (fun y0 y1 y2 y3 y4 y5 y6 => ks 0 ((y0, y1, (), y2, (), y3, ()), ((y4, y5, ()), y6, ()))) k x.1.1 x.1.2.1 x.1.2.2.2.1 x.1.2.2.2.2.2.1 x.1.2.2.2.2.2.2.2.1 x.1.2.2.2.2.2.2.2.2.1 x.2.1.1 x.2.1.2.1 x.2.2.1 x.2.2.2.1
noncomputable def impl_Graph_chain_l0_0_s (N : Nat) : LSum := ⟨impl_Graph_chain_l0_0_sh, impl_Graph_chain_l0_0_ex, fun x ks => impl_Graph_chain_l0_0_again N ks N x⟩
theorem impl_Graph_chain_l0_0_step (N : Nat) (R : Type) (k : Nat) (x : impl_Graph_chain_l0_0_sh.T) (ks : (j : Nat) → ((impl_Graph_chain_l0_0_ex.getD j (.ret, Sh.none)).2).T → Option R) : impl_Graph_chain_l0_0_again N ks (k + 1) x = roundF (impl_Graph_chain_G N) tab [] (loopAt (loopAt impl_Graph_chain_code 0) 0) impl_Graph_chain_l0_0_sh impl_Graph_chain_l0_0_ex (fun y => impl_Graph_chain_l0_0_again N ks k y) ks x := by kernel_rfl
theorem impl_Graph_chain_l0_0_ok (N : Nat) : LoopOk Tryz.prog Tryz.f85.ntmps (impl_Graph_chain_l0_0_s N) (loopAt (loopAt impl_Graph_chain_code 0) 0) :=
  loop_ok (l := impl_Graph_chain_l0_0_s N) progOk (impl_Graph_chain_gok N) (draw_ok progOk (impl_Graph_chain_gok N)) (fun R k x ks => impl_Graph_chain_l0_0_again N ks k x) (fun _ _ _ => rfl) (fun R k x ks => impl_Graph_chain_l0_0_step N R k x ks) (fun R x ks r h => ⟨N, h⟩) (lsOk_at (L := []) trivial) (by kernel_rfl) (by kernel_rfl)
noncomputable def impl_Graph_chain_l0_sh : Sh := ⟨[(1, .one (.ro LI)), (3, .one (.ro I)), (4, .one (.adr 0 0)), (9, .one (.ro I)), (10, .one (.ref 1)), (11, .one (.ro I))], [.box [.ro I, .ro LQII], .sl 3 I .own]⟩
noncomputable def impl_Graph_chain_l0_ex : List (Ex × Sh) := [(.exit 0, ⟨[(10, .one (.ref 0))], [.sl 3 I .own]⟩)]
noncomputable def impl_Graph_chain_l0 {R : Type} (N : Nat) (k0 : (List Int) → Option R) : Nat → (List Int) → Int → Int → Int → Int → (List (Int × Int)) → (List Int) → Option R
  | 0, _, _, _, _, _, _, _ => none
  | K + 1, x, x1, x2, x3, o, o1, o2 =>
    (br (ilt x3 (tLen o2))
      ((chk (inb o2 x3)
        ((impl_Graph_neighbors N (o, o1) (rdI o2 x3)).bind fun r =>
        impl_Graph_chain_l0_0 N (fun x4 x5 x6 x7 o3 o4 o5 => impl_Graph_chain_l0 N k0 K x4 x5 x6 (IntKind.i64.wrap (x7 + 1)) o3 o4 o5) N x x1 x2 x3 (tLen r.1.1) 0 o o1 o2 r.1.1)))
      (k0 o2))
noncomputable def impl_Graph_chain_l0_again {R : Type} (N : Nat) (ks : (j : Nat) → ((impl_Graph_chain_l0_ex.getD j (.ret, Sh.none)).2).T → Option R) (k : Nat) (x : impl_Graph_chain_l0_sh.T) : Option R :=
  impl_Graph_chain_l0 N (fun y0 => ks 0 (((), ()), (y0, ()))) k x.1.1 x.1.2.1 x.1.2.2.2.1 x.1.2.2.2.2.2.1 x.2.1.1 x.2.1.2.1 x.2.2.1
noncomputable def impl_Graph_chain_l0_s (N : Nat) : LSum := ⟨impl_Graph_chain_l0_sh, impl_Graph_chain_l0_ex, fun x ks => impl_Graph_chain_l0_again N ks N x⟩
theorem impl_Graph_chain_l0_step (N : Nat) (R : Type) (k : Nat) (x : impl_Graph_chain_l0_sh.T) (ks : (j : Nat) → ((impl_Graph_chain_l0_ex.getD j (.ret, Sh.none)).2).T → Option R) : impl_Graph_chain_l0_again N ks (k + 1) x = roundF (impl_Graph_chain_G N) tab [impl_Graph_chain_l0_0_s N] (loopAt impl_Graph_chain_code 0) impl_Graph_chain_l0_sh impl_Graph_chain_l0_ex (fun y => impl_Graph_chain_l0_again N ks k y) ks x := by kernel_rfl
theorem impl_Graph_chain_l0_ok (N : Nat) : LoopOk Tryz.prog Tryz.f85.ntmps (impl_Graph_chain_l0_s N) (loopAt impl_Graph_chain_code 0) :=
  loop_ok (l := impl_Graph_chain_l0_s N) progOk (impl_Graph_chain_gok N) (draw_ok progOk (impl_Graph_chain_gok N)) (fun R k x ks => impl_Graph_chain_l0_again N ks k x) (fun _ _ _ => rfl) (fun R k x ks => impl_Graph_chain_l0_step N R k x ks) (fun R x ks r h => ⟨N, h⟩) (lsOk_at (L := [impl_Graph_chain_l0_0_s N]) ⟨impl_Graph_chain_l0_0_ok N, trivial⟩) (by kernel_rfl) (by kernel_rfl)
noncomputable def impl_Graph_chain (N : Nat) (c : (Int × (List (Int × Int)))) (c1 : (List Int)) (c2 : Int) (c3 : Int) : Option (((List Int) × Unit) × (Unit)) :=
  (chk (inb c1 c2)
    (impl_Graph_chain_l0 N (fun o => ((slices_Sort_LI_int N o).bind fun r =>
    some ((r.2.1, ()), ()))) N c1 c3 (rdI c1 c2) 0 c.1 c.2 [c2]))
noncomputable def impl_Graph_chain_S (N : Nat) : FSum := ⟨impl_Graph_chain_ps, impl_Graph_chain_rs, fun x => impl_Graph_chain N x.1 x.2.1 x.2.2.1 x.2.2.2.1⟩
theorem impl_Graph_chain_run (N : Nat) (x : argsT impl_Graph_chain_ps) : impl_Graph_chain N x.1 x.2.1 x.2.2.1 x.2.2.2.1 = funF (impl_Graph_chain_G N) tab [impl_Graph_chain_l0_s N] Tryz.f85 impl_Graph_chain_ps impl_Graph_chain_rs x := by kernel_rfl
theorem impl_Graph_chain_pc (N : Nat) : PC Tryz.prog 85 (impl_Graph_chain_S N) := by
  have e : impl_Graph_chain_S N = ⟨impl_Graph_chain_ps, impl_Graph_chain_rs, funF (impl_Graph_chain_G N) tab [impl_Graph_chain_l0_s N] Tryz.f85 impl_Graph_chain_ps impl_Graph_chain_rs⟩ := congrArg (FSum.mk impl_Graph_chain_ps impl_Graph_chain_rs) (funext (impl_Graph_chain_run N))
  rw [e]
  exact fun_ok (c := impl_Graph_chain_code) progOk (impl_Graph_chain_gok N) (draw_ok progOk (impl_Graph_chain_gok N)) Tryz.call85 Tryz.func85 (by kernel_rfl) (lsOk_at (L := [impl_Graph_chain_l0_s N]) ⟨impl_Graph_chain_l0_ok N, trivial⟩) (by kernel_rfl) (by kernel_rfl) (by kernel_rfl) (by kernel_rfl) (by kernel_rfl)

/-! ### impl_Graph_kempe -/
abbrev impl_Graph_kempe_ps : List (PV.Mode × Ty) := [(.ro, QILQII), (.ro, LI), (.ro, I), (.ro, I)]
abbrev impl_Graph_kempe_rs : List (Bool × Ty) := [(true, LI)]
noncomputable def impl_Graph_kempe_G (N : Nat) : GTab := gOf [(84, slices_Clone_LI_int_S N), (85, impl_Graph_chain_S N)]
theorem impl_Graph_kempe_gok (N : Nat) : GOk Tryz.prog (impl_Graph_kempe_G N) := gOf_ok ⟨slices_Clone_LI_int_pc N, impl_Graph_chain_pc N, trivial⟩
noncomputable def impl_Graph_kempe_code : Code := (Tryz.f48.body).getD .skip
noncomputable def impl_Graph_kempe_l0_sh : Sh := ⟨[(1, .one (.ro LI)), (3, .one (.ro I)), (9, .one (.ref 0)), (10, .one (.ro I)), (23, .one (.ref 1)), (24, .one (.ro I)), (25, .one (.ro I))], [.sl 3 I .own, .sl 3 I .own]⟩
noncomputable def impl_Graph_kempe_l0_ex : List (Ex × Sh) := [(.exit 0, ⟨[(9, .one (.ref 0))], [.sl 3 I .own]⟩)]
noncomputable def impl_Graph_kempe_l0 {R : Type} (N : Nat) (k0 : (List Int) → Option R) : Nat → (List Int) → Int → Int → Int → Int → (List Int) → (List Int) → Option R
  | 0, _, _, _, _, _, _, _ => none
  | K + 1, colours1, c1, own, x1, x2, o, o1 =>
    (br (ilt x2 x1)
      ((chk (inb o1 x2)
        (chk (inb colours1 (rdI o1 x2))
        (br (ieq (rdI colours1 (rdI o1 x2)) own)
        ((chk (inb o (rdI o1 x2))
          (impl_Graph_kempe_l0 N k0 K colours1 c1 own x1 (IntKind.i64.wrap (x2 + 1)) (tSet o (rdI o1 x2) c1) o1)))
        ((chk (inb o (rdI o1 x2))
          (impl_Graph_kempe_l0 N k0 K colours1 c1 own x1 (IntKind.i64.wrap (x2 + 1)) (tSet o (rdI o1 x2) own) o1)))))))
      (k0 o))
noncomputable def impl_Graph_kempe_l0_again {R : Type} (N : Nat) (ks : (j : Nat) → ((impl_Graph_kempe_l0_ex.getD j (.ret, Sh.none)).2).T → Option R) (k : Nat) (x : impl_Graph_kempe_l0_sh.T) : Option R :=
  impl_Graph_kempe_l0 N (fun y0 => ks 0 (((), ()), (y0, ()))) k x.1.1 x.1.2.1 x.1.2.2.2.1 x.1.2.2.2.2.2.1 x.1.2.2.2.2.2.2.1 x.2.1 x.2.2.1
noncomputable def impl_Graph_kempe_l0_s (N : Nat) : LSum := ⟨impl_Graph_kempe_l0_sh, impl_Graph_kempe_l0_ex, fun x ks => impl_Graph_kempe_l0_again N ks N x⟩
theorem impl_Graph_kempe_l0_step (N : Nat) (R : Type) (k : Nat) (x : impl_Graph_kempe_l0_sh.T) (ks : (j : Nat) → ((impl_Graph_kempe_l0_ex.getD j (.ret, Sh.none)).2).T → Option R) : impl_Graph_kempe_l0_again N ks (k + 1) x = roundF (impl_Graph_kempe_G N) tab [] (loopAt impl_Graph_kempe_code 0) impl_Graph_kempe_l0_sh impl_Graph_kempe_l0_ex (fun y => impl_Graph_kempe_l0_again N ks k y) ks x := by kernel_rfl
theorem impl_Graph_kempe_l0_ok (N : Nat) : LoopOk Tryz.prog Tryz.f48.ntmps (impl_Graph_kempe_l0_s N) (loopAt impl_Graph_kempe_code 0) :=
  loop_ok (l := impl_Graph_kempe_l0_s N) progOk (impl_Graph_kempe_gok N) (draw_ok progOk (impl_Graph_kempe_gok N)) (fun R k x ks => impl_Graph_kempe_l0_again N ks k x) (fun _ _ _ => rfl) (fun R k x ks => impl_Graph_kempe_l0_step N R k x ks) (fun R x ks r h => ⟨N, h⟩) (lsOk_at (L := []) trivial) (by kernel_rfl) (by kernel_rfl)
noncomputable def impl_Graph_kempe (N : Nat) (g : (Int × (List (Int × Int)))) (colours : (List Int)) (x : Int) (c : Int) : Option (((List Int) × Unit) × (Unit)) :=
  ((slices_Clone_LI_int N colours).bind fun r =>
    (chk (inb colours x)
      ((impl_Graph_chain N (g.1, g.2) colours x c).bind fun r1 =>
      impl_Graph_kempe_l0 N (fun o => some ((o, ()), ())) N colours c (rdI colours x) (tLen r1.1.1) 0 r.1.1 r1.1.1)))
noncomputable def impl_Graph_kempe_S (N : Nat) : FSum := ⟨impl_Graph_kempe_ps, impl_Graph_kempe_rs, fun x => impl_Graph_kempe N x.1 x.2.1 x.2.2.1 x.2.2.2.1⟩
theorem impl_Graph_kempe_run (N : Nat) (x : argsT impl_Graph_kempe_ps) : impl_Graph_kempe N x.1 x.2.1 x.2.2.1 x.2.2.2.1 = funF (impl_Graph_kempe_G N) tab [impl_Graph_kempe_l0_s N] Tryz.f48 impl_Graph_kempe_ps impl_Graph_kempe_rs x := by kernel_rfl
theorem impl_Graph_kempe_pc (N : Nat) : PC Tryz.prog 48 (impl_Graph_kempe_S N) := by
  have e : impl_Graph_kempe_S N = ⟨impl_Graph_kempe_ps, impl_Graph_kempe_rs, funF (impl_Graph_kempe_G N) tab [impl_Graph_kempe_l0_s N] Tryz.f48 impl_Graph_kempe_ps impl_Graph_kempe_rs⟩ := congrArg (FSum.mk impl_Graph_kempe_ps impl_Graph_kempe_rs) (funext (impl_Graph_kempe_run N))
  rw [e]
  exact fun_ok (c := impl_Graph_kempe_code) progOk (impl_Graph_kempe_gok N) (draw_ok progOk (impl_Graph_kempe_gok N)) Tryz.call48 Tryz.func48 (by kernel_rfl) (lsOk_at (L := [impl_Graph_kempe_l0_s N]) ⟨impl_Graph_kempe_l0_ok N, trivial⟩) (by kernel_rfl) (by kernel_rfl) (by kernel_rfl) (by kernel_rfl) (by kernel_rfl)

/-! ### slices_Equal_LI_int -/
abbrev slices_Equal_LI_int_ps : List (PV.Mode × Ty) := [(.ro, LI), (.ro, LI)]
abbrev slices_Equal_LI_int_rs : List (Bool × Ty) := [(true, .bool)]
noncomputable def slices_Equal_LI_int_G (N : Nat) : GTab := gOf []
theorem slices_Equal_LI_int_gok (N : Nat) : GOk Tryz.prog (slices_Equal_LI_int_G N) := gOf_ok trivial
noncomputable def slices_Equal_LI_int_code : Code := (Tryz.f47.body).getD .skip
noncomputable def slices_Equal_LI_int_l0_sh : Sh := ⟨[(0, .one (.ro LI)), (1, .one (.ro LI)), (12, .one (.ro I)), (13, .one (.ro I))], []⟩
noncomputable def slices_Equal_LI_int_l0_ex : List (Ex × Sh) := [(.ret, ⟨[(4, .one (.ro .bool))], []⟩), (.exit 0, ⟨[], []⟩)]
noncomputable def slices_Equal_LI_int_l0 {R : Type} (N : Nat) (k0 : Bool → Option R) (k1 : Unit → Option R) : Nat → (List Int) → (List Int) → Int → Int → Option R
  | 0, _, _, _, _ => none
  | K + 1, s11, s21, x, x1 =>
    (br (ilt x1 x)
      ((chk (inb s11 x1)
        (chk (inb s21 x1)
        (br (ine (rdI s11 x1) (rdI s21 x1))
        (k0 false)
        (slices_Equal_LI_int_l0 N k0 k1 K s11 s21 x (IntKind.i64.wrap (x1 + 1)))))))
      (k1 ()))
noncomputable def slices_Equal_LI_int_l0_again {R : Type} (N : Nat) (ks : (j : Nat) → ((slices_Equal_LI_int_l0_ex.getD j (.ret, Sh.none)).2).T → Option R) (k : Nat) (x : slices_Equal_LI_int_l0_sh.T) : Option R :=
  slices_Equal_LI_int_l0 N (fun y0 => ks 0 ((y0, ()), ())) (fun (_ : Unit) => ks 1 ((), ())) k x.1.1 x.1.2.1 x.1.2.2.1 x.1.2.2.2.1
noncomputable def slices_Equal_LI_int_l0_s (N : Nat) : LSum := ⟨slices_Equal_LI_int_l0_sh, slices_Equal_LI_int_l0_ex, fun x ks => slices_Equal_LI_int_l0_again N ks N x⟩
theorem slices_Equal_LI_int_l0_step (N : Nat) (R : Type) (k : Nat) (x : slices_Equal_LI_int_l0_sh.T) (ks : (j : Nat) → ((slices_Equal_LI_int_l0_ex.getD j (.ret, Sh.none)).2).T → Option R) : slices_Equal_LI_int_l0_again N ks (k + 1) x = roundF (slices_Equal_LI_int_G N) tab [] (loopAt slices_Equal_LI_int_code 0) slices_Equal_LI_int_l0_sh slices_Equal_LI_int_l0_ex (fun y => slices_Equal_LI_int_l0_again N ks k y) ks x := by kernel_rfl
theorem slices_Equal_LI_int_l0_ok (N : Nat) : LoopOk Tryz.prog Tryz.f47.ntmps (slices_Equal_LI_int_l0_s N) (loopAt slices_Equal_LI_int_code 0) :=
  loop_ok (l := slices_Equal_LI_int_l0_s N) progOk (slices_Equal_LI_int_gok N) (draw_ok progOk (slices_Equal_LI_int_gok N)) (fun R k x ks => slices_Equal_LI_int_l0_again N ks k x) (fun _ _ _ => rfl) (fun R k x ks => slices_Equal_LI_int_l0_step N R k x ks) (fun R x ks r h => ⟨N, h⟩) (lsOk_at (L := []) trivial) (by kernel_rfl) (by kernel_rfl)
noncomputable def slices_Equal_LI_int (N : Nat) (s1 : (List Int)) (s2 : (List Int)) : Option ((Bool × Unit) × (Unit)) :=
  (br (ine (tLen s1) (tLen s2))
    (some ((false, ()), ()))
    (slices_Equal_LI_int_l0 N (fun x => some ((x, ()), ())) (fun (_ : Unit) => some ((true, ()), ())) N s1 s2 (tLen s1) 0))
noncomputable def slices_Equal_LI_int_S (N : Nat) : FSum := ⟨slices_Equal_LI_int_ps, slices_Equal_LI_int_rs, fun x => slices_Equal_LI_int N x.1 x.2.1⟩
theorem slices_Equal_LI_int_run (N : Nat) (x : argsT slices_Equal_LI_int_ps) : slices_Equal_LI_int N x.1 x.2.1 = funF (slices_Equal_LI_int_G N) tab [slices_Equal_LI_int_l0_s N] Tryz.f47 slices_Equal_LI_int_ps slices_Equal_LI_int_rs x := by kernel_rfl
theorem slices_Equal_LI_int_pc (N : Nat) : PC Tryz.prog 47 (slices_Equal_LI_int_S N) := by
  have e : slices_Equal_LI_int_S N = ⟨slices_Equal_LI_int_ps, slices_Equal_LI_int_rs, funF (slices_Equal_LI_int_G N) tab [slices_Equal_LI_int_l0_s N] Tryz.f47 slices_Equal_LI_int_ps slices_Equal_LI_int_rs⟩ := congrArg (FSum.mk slices_Equal_LI_int_ps slices_Equal_LI_int_rs) (funext (slices_Equal_LI_int_run N))
  rw [e]
  exact fun_ok (c := slices_Equal_LI_int_code) progOk (slices_Equal_LI_int_gok N) (draw_ok progOk (slices_Equal_LI_int_gok N)) Tryz.call47 Tryz.func47 (by kernel_rfl) (lsOk_at (L := [slices_Equal_LI_int_l0_s N]) ⟨slices_Equal_LI_int_l0_ok N, trivial⟩) (by kernel_rfl) (by kernel_rfl) (by kernel_rfl) (by kernel_rfl) (by kernel_rfl)

/-! ### impl_KempeSpace_c1 -/
abbrev impl_KempeSpace_c1_ps : List (PV.Mode × Ty) := [(.ro, LI), (.ro, LI), (.ro, AQILQII)]
abbrev impl_KempeSpace_c1_rs : List (Bool × Ty) := [(true, .bool)]
noncomputable def impl_KempeSpace_c1_G (N : Nat) : GTab := gOf [(46, impl_places_S N), (48, impl_Graph_kempe_S N), (47, slices_Equal_LI_int_S N)]
theorem impl_KempeSpace_c1_gok (N : Nat) : GOk Tryz.prog (impl_KempeSpace_c1_G N) := gOf_ok ⟨impl_places_pc N, impl_Graph_kempe_pc N, slices_Equal_LI_int_pc N, trivial⟩
noncomputable def impl_KempeSpace_c1_code : Code := (Tryz.f45.body).getD .skip
noncomputable def impl_KempeSpace_c1 (N : Nat) (a : (List Int)) (b : (List Int)) (c : (Int × (List (Int × Int)))) : Option ((Bool × Unit) × (Unit)) :=
  ((impl_places N a b).bind fun r =>
    (chk (inb r.1.1 0)
      (chk (inb r.1.1 0)
      (chk (inb b (rdI r.1.1 0))
      ((impl_Graph_kempe N c a (rdI r.1.1 0) (rdI b (rdI r.1.1 0))).bind fun r1 =>
      ((slices_Equal_LI_int N r1.1.1 b).bind fun r2 =>
        some ((r2.1.1, ()), ())))))))
noncomputable def impl_KempeSpace_c1_S (N : Nat) : FSum := ⟨impl_KempeSpace_c1_ps, impl_KempeSpace_c1_rs, fun x => impl_KempeSpace_c1 N x.1 x.2.1 x.2.2.1⟩
theorem impl_KempeSpace_c1_run (N : Nat) (x : argsT impl_KempeSpace_c1_ps) : impl_KempeSpace_c1 N x.1 x.2.1 x.2.2.1 = funF (impl_KempeSpace_c1_G N) tab [] Tryz.f45 impl_KempeSpace_c1_ps impl_KempeSpace_c1_rs x := by kernel_rfl
theorem impl_KempeSpace_c1_pc (N : Nat) : PC Tryz.prog 45 (impl_KempeSpace_c1_S N) := by
  have e : impl_KempeSpace_c1_S N = ⟨impl_KempeSpace_c1_ps, impl_KempeSpace_c1_rs, funF (impl_KempeSpace_c1_G N) tab [] Tryz.f45 impl_KempeSpace_c1_ps impl_KempeSpace_c1_rs⟩ := congrArg (FSum.mk impl_KempeSpace_c1_ps impl_KempeSpace_c1_rs) (funext (impl_KempeSpace_c1_run N))
  rw [e]
  exact fun_ok (c := impl_KempeSpace_c1_code) progOk (impl_KempeSpace_c1_gok N) (draw_ok progOk (impl_KempeSpace_c1_gok N)) Tryz.call45 Tryz.func45 (by kernel_rfl) (lsOk_at (L := []) trivial) (by kernel_rfl) (by kernel_rfl) (by kernel_rfl) (by kernel_rfl) (by kernel_rfl)

/-! ### impl_orNone -/
abbrev impl_orNone_ps : List (PV.Mode × Ty) := [(.own, QLLILQII)]
abbrev impl_orNone_rs : List (Bool × Ty) := [(true, QLLILQII), (true, .bool)]
noncomputable def impl_orNone_G (N : Nat) : GTab := gOf []
theorem impl_orNone_gok (N : Nat) : GOk Tryz.prog (impl_orNone_G N) := gOf_ok trivial
noncomputable def impl_orNone_code : Code := (Tryz.f43.body).getD .skip
noncomputable def impl_orNone (N : Nat) (x : ((List (List Int)) × (List (Int × Int)))) : Option ((((List (List Int)) × (List (Int × Int))) × Bool × Unit) × (Unit)) :=
  (br (ilt 300 (tLen x.1))
    (some ((([], []), false, ()), ()))
    ((br (ilt 6000 (tLen x.2))
      (some ((([], []), false, ()), ()))
      (some (((x.1, x.2), true, ()), ())))))
noncomputable def impl_orNone_S (N : Nat) : FSum := ⟨impl_orNone_ps, impl_orNone_rs, fun x => impl_orNone N x.1⟩
theorem impl_orNone_run (N : Nat) (x : argsT impl_orNone_ps) : impl_orNone N x.1 = funF (impl_orNone_G N) tab [] Tryz.f43 impl_orNone_ps impl_orNone_rs x := by kernel_rfl
theorem impl_orNone_pc (N : Nat) : PC Tryz.prog 43 (impl_orNone_S N) := by
  have e : impl_orNone_S N = ⟨impl_orNone_ps, impl_orNone_rs, funF (impl_orNone_G N) tab [] Tryz.f43 impl_orNone_ps impl_orNone_rs⟩ := congrArg (FSum.mk impl_orNone_ps impl_orNone_rs) (funext (impl_orNone_run N))
  rw [e]
  exact fun_ok (c := impl_orNone_code) progOk (impl_orNone_gok N) (draw_ok progOk (impl_orNone_gok N)) Tryz.call43 Tryz.func43 (by kernel_rfl) (lsOk_at (L := []) trivial) (by kernel_rfl) (by kernel_rfl) (by kernel_rfl) (by kernel_rfl) (by kernel_rfl)

/-! ### impl_KempeSpace -/
abbrev impl_KempeSpace_ps : List (PV.Mode × Ty) := [(.ro, QILQII), (.ro, I)]
abbrev impl_KempeSpace_rs : List (Bool × Ty) := [(true, QLLILQII), (true, .bool)]
noncomputable def impl_KempeSpace_G (N : Nat) : GTab := gOf [(42, impl_Colourings_S N), (44, impl_spaceOf_S N), (45, impl_KempeSpace_c1_S N), (43, impl_orNone_S N)]
theorem impl_KempeSpace_gok (N : Nat) : GOk Tryz.prog (impl_KempeSpace_G N) := gOf_ok ⟨impl_Colourings_pc N, impl_spaceOf_pc N, impl_KempeSpace_c1_pc N, impl_orNone_pc N, trivial⟩
noncomputable def impl_KempeSpace_code : Code := (Tryz.f12.body).getD .skip
noncomputable def impl_KempeSpace (N : Nat) (g : (Int × (List (Int × Int)))) (kv : Int) : Option ((((List (List Int)) × (List (Int × Int))) × Bool × Unit) × (Unit)) :=
  ((impl_Colourings N (g.1, g.2) kv).bind fun r =>
    (br (!r.1.2.1)
      (some ((([], []), false, ()), ()))
      (((impl_spaceOf N r.1.1 (fun y0 y1 => (impl_KempeSpace_c1 N y0 y1 (g.1, g.2)).bind fun z => some z.1.1)).bind fun r1 =>
        ((impl_orNone N (r1.1.1.1, r1.1.1.2)).bind fun r2 =>
          some (((r2.1.1.1, r2.1.1.2), r2.1.2.1, ()), ()))))))
noncomputable def impl_KempeSpace_S (N : Nat) : FSum := ⟨impl_KempeSpace_ps, impl_KempeSpace_rs, fun x => impl_KempeSpace N x.1 x.2.1⟩
theorem impl_KempeSpace_run (N : Nat) (x : argsT impl_KempeSpace_ps) : impl_KempeSpace N x.1 x.2.1 = funF (impl_KempeSpace_G N) tab [] Tryz.f12 impl_KempeSpace_ps impl_KempeSpace_rs x := by kernel_rfl
theorem impl_KempeSpace_pc (N : Nat) : PC Tryz.prog 12 (impl_KempeSpace_S N) := by
  have e : impl_KempeSpace_S N = ⟨impl_KempeSpace_ps, impl_KempeSpace_rs, funF (impl_KempeSpace_G N) tab [] Tryz.f12 impl_KempeSpace_ps impl_KempeSpace_rs⟩ := congrArg (FSum.mk impl_KempeSpace_ps impl_KempeSpace_rs) (funext (impl_KempeSpace_run N))
  rw [e]
  exact fun_ok (c := impl_KempeSpace_code) progOk (impl_KempeSpace_gok N) (draw_ok progOk (impl_KempeSpace_gok N)) Tryz.call12 Tryz.func12 (by kernel_rfl) (lsOk_at (L := []) trivial) (by kernel_rfl) (by kernel_rfl) (by kernel_rfl) (by kernel_rfl) (by kernel_rfl)

/-! ### laws_eqIntS -/
abbrev laws_eqIntS_ps : List (PV.Mode × Ty) := [(.ro, LI), (.ro, LI)]
abbrev laws_eqIntS_rs : List (Bool × Ty) := [(true, .bool)]
noncomputable def laws_eqIntS_G (N : Nat) : GTab := gOf []
theorem laws_eqIntS_gok (N : Nat) : GOk Tryz.prog (laws_eqIntS_G N) := gOf_ok trivial
noncomputable def laws_eqIntS_code : Code := (Tryz.f23.body).getD .skip
noncomputable def laws_eqIntS_l0_sh : Sh := ⟨[(0, .one (.ro LI)), (1, .one (.ro LI)), (5, .one (.ro I))], []⟩
noncomputable def laws_eqIntS_l0_ex : List (Ex × Sh) := [(.ret, ⟨[(4, .one (.ro .bool))], []⟩), (.exit 0, ⟨[], []⟩)]
noncomputable def laws_eqIntS_l0 {R : Type} (N : Nat) (k0 : Bool → Option R) (k1 : Unit → Option R) : Nat → (List Int) → (List Int) → Int → Option R
  | 0, _, _, _ => none
  | K + 1, a1, b1, i =>
    (br (ilt i (tLen a1))
      ((chk (inb a1 i)
        (chk (inb b1 i)
        (br (ine (rdI a1 i) (rdI b1 i))
        (k0 false)
        (laws_eqIntS_l0 N k0 k1 K a1 b1 (IntKind.i64.wrap (i + 1)))))))
      (k1 ()))
noncomputable def laws_eqIntS_l0_again {R : Type} (N : Nat) (ks : (j : Nat) → ((laws_eqIntS_l0_ex.getD j (.ret, Sh.none)).2).T → Option R) (k : Nat) (x : laws_eqIntS_l0_sh.T) : Option R :=
  laws_eqIntS_l0 N (fun y0 => ks 0 ((y0, ()), ())) (fun (_ : Unit) => ks 1 ((), ())) k x.1.1 x.1.2.1 x.1.2.2.1
noncomputable def laws_eqIntS_l0_s (N : Nat) : LSum := ⟨laws_eqIntS_l0_sh, laws_eqIntS_l0_ex, fun x ks => laws_eqIntS_l0_again N ks N x⟩
theorem laws_eqIntS_l0_step (N : Nat) (R : Type) (k : Nat) (x : laws_eqIntS_l0_sh.T) (ks : (j : Nat) → ((laws_eqIntS_l0_ex.getD j (.ret, Sh.none)).2).T → Option R) : laws_eqIntS_l0_again N ks (k + 1) x = roundF (laws_eqIntS_G N) tab [] (loopAt laws_eqIntS_code 0) laws_eqIntS_l0_sh laws_eqIntS_l0_ex (fun y => laws_eqIntS_l0_again N ks k y) ks x := by kernel_rfl
theorem laws_eqIntS_l0_ok (N : Nat) : LoopOk Tryz.prog Tryz.f23.ntmps (laws_eqIntS_l0_s N) (loopAt laws_eqIntS_code 0) :=
  loop_ok (l := laws_eqIntS_l0_s N) progOk (laws_eqIntS_gok N) (draw_ok progOk (laws_eqIntS_gok N)) (fun R k x ks => laws_eqIntS_l0_again N ks k x) (fun _ _ _ => rfl) (fun R k x ks => laws_eqIntS_l0_step N R k x ks) (fun R x ks r h => ⟨N, h⟩) (lsOk_at (L := []) trivial) (by kernel_rfl) (by kernel_rfl)
noncomputable def laws_eqIntS (N : Nat) (a : (List Int)) (b : (List Int)) : Option ((Bool × Unit) × (Unit)) :=
  (br (ine (tLen a) (tLen b))
    (some ((false, ()), ()))
    (laws_eqIntS_l0 N (fun x => some ((x, ()), ())) (fun (_ : Unit) => some ((true, ()), ())) N a b 0))
noncomputable def laws_eqIntS_S (N : Nat) : FSum := ⟨laws_eqIntS_ps, laws_eqIntS_rs, fun x => laws_eqIntS N x.1 x.2.1⟩
theorem laws_eqIntS_run (N : Nat) (x : argsT laws_eqIntS_ps) : laws_eqIntS N x.1 x.2.1 = funF (laws_eqIntS_G N) tab [laws_eqIntS_l0_s N] Tryz.f23 laws_eqIntS_ps laws_eqIntS_rs x := by kernel_rfl
theorem laws_eqIntS_pc (N : Nat) : PC Tryz.prog 23 (laws_eqIntS_S N) := by
  have e : laws_eqIntS_S N = ⟨laws_eqIntS_ps, laws_eqIntS_rs, funF (laws_eqIntS_G N) tab [laws_eqIntS_l0_s N] Tryz.f23 laws_eqIntS_ps laws_eqIntS_rs⟩ := congrArg (FSum.mk laws_eqIntS_ps laws_eqIntS_rs) (funext (laws_eqIntS_run N))
  rw [e]
  exact fun_ok (c := laws_eqIntS_code) progOk (laws_eqIntS_gok N) (draw_ok progOk (laws_eqIntS_gok N)) Tryz.call23 Tryz.func23 (by kernel_rfl) (lsOk_at (L := [laws_eqIntS_l0_s N]) ⟨laws_eqIntS_l0_ok N, trivial⟩) (by kernel_rfl) (by kernel_rfl) (by kernel_rfl) (by kernel_rfl) (by kernel_rfl)
end Go.Proofs.YtgelipdkheahdaaGreat
