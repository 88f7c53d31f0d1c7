/- Functions of the program as functions on data. -/
import Derived.Test.YtfbkjgeaoafejaaColourSpaceFb
set_option linter.all false
namespace Go.Proofs.Ytfbkjgeaoafejaa
open Go Go.PV
/-! ### slices_choosePivotCmpFunc_LI -/
abbrev slices_choosePivotCmpFunc_LI_ps : List (PV.Mode × Ty) := [(.ro, LLI), (.ro, I), (.ro, I), (.ro, GLILII)]
abbrev slices_choosePivotCmpFunc_LI_rs : List (Bool × Ty) := [(true, I), (true, I)]
noncomputable def slices_choosePivotCmpFunc_LI_G (N : Nat) : GTab := gOf [(268, slices_medianAdjacentCmpFunc_LI_S N), (269, slices_medianCmpFunc_LI_S N)]
theorem slices_choosePivotCmpFunc_LI_gok (N : Nat) : GOk Try.prog (slices_choosePivotCmpFunc_LI_G N) := gOf_ok ⟨slices_medianAdjacentCmpFunc_LI_pc N, slices_medianCmpFunc_LI_pc N, trivial⟩
noncomputable def slices_choosePivotCmpFunc_LI_code : Code := (Try.f245.body).getD .skip
noncomputable def slices_choosePivotCmpFunc_LI (N : Nat) (data : (List (List Int))) (a : Int) (b : Int) (cmp : ((List Int) → (List Int) → Option Int)) : Option ((Int × Int × Unit) × (Unit)) :=
  (br (ile 8 (IntKind.i64.wrap (b - a)))
    ((br (ile 50 (IntKind.i64.wrap (b - a)))
      (((slices_medianAdjacentCmpFunc_LI N data (IntKind.i64.wrap (a + (IntKind.i64.wrap ((IntKind.i64.wrap ((IntKind.i64.wrap (b - a)).tdiv 4)) * 1)))) 0 cmp).bind fun r =>
        ((slices_medianAdjacentCmpFunc_LI N data (IntKind.i64.wrap (a + (IntKind.i64.wrap ((IntKind.i64.wrap ((IntKind.i64.wrap (b - a)).tdiv 4)) * 2)))) r.2.1 cmp).bind fun r1 =>
          ((slices_medianAdjacentCmpFunc_LI N data (IntKind.i64.wrap (a + (IntKind.i64.wrap ((IntKind.i64.wrap ((IntKind.i64.wrap (b - a)).tdiv 4)) * 3)))) r1.2.1 cmp).bind fun r2 =>
            ((slices_medianCmpFunc_LI N data r.1.1 r1.1.1 r2.1.1 r2.2.1 cmp).bind fun r3 =>
              (br (ieq r3.2.1 0)
                (some ((r3.1.1, 1, ()), ()))
                ((br (ieq r3.2.1 12)
                  (some ((r3.1.1, 2, ()), ()))
                  (some ((r3.1.1, 0, ()), ()))))))))))
      (((slices_medianCmpFunc_LI N data (IntKind.i64.wrap (a + (IntKind.i64.wrap ((IntKind.i64.wrap ((IntKind.i64.wrap (b - a)).tdiv 4)) * 1)))) (IntKind.i64.wrap (a + (IntKind.i64.wrap ((IntKind.i64.wrap ((IntKind.i64.wrap (b - a)).tdiv 4)) * 2)))) (IntKind.i64.wrap (a + (IntKind.i64.wrap ((IntKind.i64.wrap ((IntKind.i64.wrap (b - a)).tdiv 4)) * 3)))) 0 cmp).bind fun r4 =>
        (br (ieq r4.2.1 0)
          (some ((r4.1.1, 1, ()), ()))
          ((br (ieq r4.2.1 12)
            (some ((r4.1.1, 2, ()), ()))
            (some ((r4.1.1, 0, ()), ())))))))))
    (some (((IntKind.i64.wrap (a + (IntKind.i64.wrap ((IntKind.i64.wrap ((IntKind.i64.wrap (b - a)).tdiv 4)) * 2)))), 1, ()), ())))
noncomputable def slices_choosePivotCmpFunc_LI_S (N : Nat) : FSum := ⟨slices_choosePivotCmpFunc_LI_ps, slices_choosePivotCmpFunc_LI_rs, fun x => slices_choosePivotCmpFunc_LI N x.1 x.2.1 x.2.2.1 x.2.2.2.1⟩
theorem slices_choosePivotCmpFunc_LI_run (N : Nat) (x : argsT slices_choosePivotCmpFunc_LI_ps) : slices_choosePivotCmpFunc_LI N x.1 x.2.1 x.2.2.1 x.2.2.2.1 = funF (slices_choosePivotCmpFunc_LI_G N) tab [] Try.f245 slices_choosePivotCmpFunc_LI_ps slices_choosePivotCmpFunc_LI_rs x := by kernel_rfl
theorem slices_choosePivotCmpFunc_LI_pc (N : Nat) : PC Try.prog 245 (slices_choosePivotCmpFunc_LI_S N) := by
  have e : slices_choosePivotCmpFunc_LI_S N = ⟨slices_choosePivotCmpFunc_LI_ps, slices_choosePivotCmpFunc_LI_rs, funF (slices_choosePivotCmpFunc_LI_G N) tab [] Try.f245 slices_choosePivotCmpFunc_LI_ps slices_choosePivotCmpFunc_LI_rs⟩ := congrArg (FSum.mk slices_choosePivotCmpFunc_LI_ps slices_choosePivotCmpFunc_LI_rs) (funext (slices_choosePivotCmpFunc_LI_run N))
  rw [e]
  exact fun_ok (c := slices_choosePivotCmpFunc_LI_code) progOk (slices_choosePivotCmpFunc_LI_gok N) (draw_ok progOk (slices_choosePivotCmpFunc_LI_gok N)) Try.call245 Try.func245 (by kernel_rfl) (lsOk_at (L := []) trivial) (by kernel_rfl) (by kernel_rfl) (by kernel_rfl) (by kernel_rfl) (by kernel_rfl)

/-! ### slices_partialInsertionSortCmpFunc_LI -/
abbrev slices_partialInsertionSortCmpFunc_LI_ps : List (PV.Mode × Ty) := [(.ro, LLI), (.ro, I), (.ro, I), (.ro, GLILII)]
abbrev slices_partialInsertionSortCmpFunc_LI_rs : List (Bool × Ty) := [(true, .bool)]
noncomputable def slices_partialInsertionSortCmpFunc_LI_G (N : Nat) : GTab := gOf []
theorem slices_partialInsertionSortCmpFunc_LI_gok (N : Nat) : GOk Try.prog (slices_partialInsertionSortCmpFunc_LI_G N) := gOf_ok trivial
noncomputable def slices_partialInsertionSortCmpFunc_LI_code : Code := (Try.f247.body).getD .skip
noncomputable def slices_partialInsertionSortCmpFunc_LI_l0_0_sh : Sh := ⟨[(0, .one (.ro LLI)), (1, .one (.ro I)), (2, .one (.ro I)), (3, .one (.ro GLILII)), (9, .one (.ro I)), (10, .one (.ro I))], []⟩
noncomputable def slices_partialInsertionSortCmpFunc_LI_l0_0_ex : List (Ex × Sh) := [(.exit 2, ⟨[(0, .one (.ro LLI)), (1, .one (.ro I)), (2, .one (.ro I)), (3, .one (.ro GLILII)), (9, .one (.ro I)), (10, .one (.ro I))], []⟩)]
noncomputable def slices_partialInsertionSortCmpFunc_LI_l0_0 {R : Type} (N : Nat) (k0 : (List (List Int)) → Int → Int → ((List Int) → (List Int) → Option Int) → Int → Int → Option R) : Nat → (List (List Int)) → Int → Int → ((List Int) → (List Int) → Option Int) → Int → Int → Option R
  | 0, _, _, _, _, _, _ => none
  | K + 1, x6, x7, x8, x9, x10, x11 =>
    (br (ilt x10 x8)
      ((chk (inb x6 x10)
        (chk (inb x6 (IntKind.i64.wrap (x10 - 1)))
        ((x9 (rdL x6 x10) (rdL x6 (IntKind.i64.wrap (x10 - 1)))).bind fun v =>
        (br (!(ilt v 0))
        (slices_partialInsertionSortCmpFunc_LI_l0_0 N k0 K x6 x7 x8 x9 (IntKind.i64.wrap (x10 + 1)) x11)
        (k0 x6 x7 x8 x9 x10 x11))))))
      (k0 x6 x7 x8 x9 x10 x11))
noncomputable def slices_partialInsertionSortCmpFunc_LI_l0_0_again {R : Type} (N : Nat) (ks : (j : Nat) → ((slices_partialInsertionSortCmpFunc_LI_l0_0_ex.getD j (.ret, Sh.none)).2).T → Option R) (k : Nat) (x : slices_partialInsertionSortCmpFunc_LI_l0_0_sh.T) : Option R :=
  slices_partialInsertionSortCmpFunc_LI_l0_0 N (fun y0 y1 y2 y3 y4 y5 => ks 0 ((y0, y1, y2, y3, y4, y5, ()), ())) k x.1.1 x.1.2.1 x.1.2.2.1 x.1.2.2.2.1 x.1.2.2.2.2.1 x.1.2.2.2.2.2.1
noncomputable def slices_partialInsertionSortCmpFunc_LI_l0_0_s (N : Nat) : LSum := ⟨slices_partialInsertionSortCmpFunc_LI_l0_0_sh, slices_partialInsertionSortCmpFunc_LI_l0_0_ex, fun x ks => slices_partialInsertionSortCmpFunc_LI_l0_0_again N ks N x⟩
theorem slices_partialInsertionSortCmpFunc_LI_l0_0_step (N : Nat) (R : Type) (k : Nat) (x : slices_partialInsertionSortCmpFunc_LI_l0_0_sh.T) (ks : (j : Nat) → ((slices_partialInsertionSortCmpFunc_LI_l0_0_ex.getD j (.ret, Sh.none)).2).T → Option R) : slices_partialInsertionSortCmpFunc_LI_l0_0_again N ks (k + 1) x = roundF (slices_partialInsertionSortCmpFunc_LI_G N) tab [] (loopAt (loopAt slices_partialInsertionSortCmpFunc_LI_code 0) 0) slices_partialInsertionSortCmpFunc_LI_l0_0_sh slices_partialInsertionSortCmpFunc_LI_l0_0_ex (fun y => slices_partialInsertionSortCmpFunc_LI_l0_0_again N ks k y) ks x := by kernel_rfl
theorem slices_partialInsertionSortCmpFunc_LI_l0_0_ok (N : Nat) : LoopOk Try.prog Try.f247.ntmps (slices_partialInsertionSortCmpFunc_LI_l0_0_s N) (loopAt (loopAt slices_partialInsertionSortCmpFunc_LI_code 0) 0) :=
  loop_ok (l := slices_partialInsertionSortCmpFunc_LI_l0_0_s N) progOk (slices_partialInsertionSortCmpFunc_LI_gok N) (draw_ok progOk (slices_partialInsertionSortCmpFunc_LI_gok N)) (fun R k x ks => slices_partialInsertionSortCmpFunc_LI_l0_0_again N ks k x) (fun _ _ _ => rfl) (fun R k x ks => slices_partialInsertionSortCmpFunc_LI_l0_0_step N R k x ks) (fun R x ks r h => ⟨N, h⟩) (lsOk_at (L := []) trivial) (by kernel_rfl) (by kernel_rfl)
noncomputable def slices_partialInsertionSortCmpFunc_LI_l0_sh : Sh := ⟨[(0, .one (.ro LLI)), (1, .one (.ro I)), (2, .one (.ro I)), (3, .one (.ro GLILII)), (9, .one (.ro I)), (10, .one (.ro I))], []⟩
noncomputable def slices_partialInsertionSortCmpFunc_LI_l0_ex : List (Ex × Sh) := [(.ret, ⟨[(8, .one (.ro .bool))], []⟩), (.exit 0, ⟨[], []⟩)]
noncomputable def slices_partialInsertionSortCmpFunc_LI_l0 {R : Type} (N : Nat) (k0 : Bool → Option R) (k1 : Unit → Option R) : Nat → (List (List Int)) → Int → Int → ((List Int) → (List Int) → Option Int) → Int → Int → Option R
  | 0, _, _, _, _, _, _ => none
  | K + 1, x, x1, x2, x3, x4, x5 =>
    (br (ilt x5 5)
      (slices_partialInsertionSortCmpFunc_LI_l0_0 N (fun x6 x7 x8 x9 x10 x11 => (br (ieq x10 x8)
        (k0 true)
        ((br (ilt (IntKind.i64.wrap (x8 - x7)) 50)
          (k0 false)
          ((chk (inb x6 (IntKind.i64.wrap (x10 - 1)))
            (chk (inb x6 x10)
            (chk (inb x6 x10)
            none)))))))) N x x1 x2 x3 x4 x5)
      (k1 ()))
noncomputable def slices_partialInsertionSortCmpFunc_LI_l0_again {R : Type} (N : Nat) (ks : (j : Nat) → ((slices_partialInsertionSortCmpFunc_LI_l0_ex.getD j (.ret, Sh.none)).2).T → Option R) (k : Nat) (x : slices_partialInsertionSortCmpFunc_LI_l0_sh.T) : Option R :=
  slices_partialInsertionSortCmpFunc_LI_l0 N (fun y0 => ks 0 ((y0, ()), ())) (fun (_ : Unit) => ks 1 ((), ())) k x.1.1 x.1.2.1 x.1.2.2.1 x.1.2.2.2.1 x.1.2.2.2.2.1 x.1.2.2.2.2.2.1
noncomputable def slices_partialInsertionSortCmpFunc_LI_l0_s (N : Nat) : LSum := ⟨slices_partialInsertionSortCmpFunc_LI_l0_sh, slices_partialInsertionSortCmpFunc_LI_l0_ex, fun x ks => slices_partialInsertionSortCmpFunc_LI_l0_again N ks N x⟩
theorem slices_partialInsertionSortCmpFunc_LI_l0_step (N : Nat) (R : Type) (k : Nat) (x : slices_partialInsertionSortCmpFunc_LI_l0_sh.T) (ks : (j : Nat) → ((slices_partialInsertionSortCmpFunc_LI_l0_ex.getD j (.ret, Sh.none)).2).T → Option R) : slices_partialInsertionSortCmpFunc_LI_l0_again N ks (k + 1) x = roundF (slices_partialInsertionSortCmpFunc_LI_G N) tab [slices_partialInsertionSortCmpFunc_LI_l0_0_s N] (loopAt slices_partialInsertionSortCmpFunc_LI_code 0) slices_partialInsertionSortCmpFunc_LI_l0_sh slices_partialInsertionSortCmpFunc_LI_l0_ex (fun y => slices_partialInsertionSortCmpFunc_LI_l0_again N ks k y) ks x := by kernel_rfl
theorem slices_partialInsertionSortCmpFunc_LI_l0_ok (N : Nat) : LoopOk Try.prog Try.f247.ntmps (slices_partialInsertionSortCmpFunc_LI_l0_s N) (loopAt slices_partialInsertionSortCmpFunc_LI_code 0) :=
  loop_ok (l := slices_partialInsertionSortCmpFunc_LI_l0_s N) progOk (slices_partialInsertionSortCmpFunc_LI_gok N) (draw_ok progOk (slices_partialInsertionSortCmpFunc_LI_gok N)) (fun R k x ks => slices_partialInsertionSortCmpFunc_LI_l0_again N ks k x) (fun _ _ _ => rfl) (fun R k x ks => slices_partialInsertionSortCmpFunc_LI_l0_step N R k x ks) (fun R x ks r h => ⟨N, h⟩) (lsOk_at (L := [slices_partialInsertionSortCmpFunc_LI_l0_0_s N]) ⟨slices_partialInsertionSortCmpFunc_LI_l0_0_ok N, trivial⟩) (by kernel_rfl) (by kernel_rfl)
noncomputable def slices_partialInsertionSortCmpFunc_LI (N : Nat) (c : (List (List Int))) (c1 : Int) (c2 : Int) (c3 : ((List Int) → (List Int) → Option Int)) : Option ((Bool × Unit) × (Unit)) :=
  slices_partialInsertionSortCmpFunc_LI_l0 N (fun x => some ((x, ()), ())) (fun (_ : Unit) => some ((false, ()), ())) N c c1 c2 c3 (IntKind.i64.wrap (c1 + 1)) 0
noncomputable def slices_partialInsertionSortCmpFunc_LI_S (N : Nat) : FSum := ⟨slices_partialInsertionSortCmpFunc_LI_ps, slices_partialInsertionSortCmpFunc_LI_rs, fun x => slices_partialInsertionSortCmpFunc_LI N x.1 x.2.1 x.2.2.1 x.2.2.2.1⟩
theorem slices_partialInsertionSortCmpFunc_LI_run (N : Nat) (x : argsT slices_partialInsertionSortCmpFunc_LI_ps) : slices_partialInsertionSortCmpFunc_LI N x.1 x.2.1 x.2.2.1 x.2.2.2.1 = funF (slices_partialInsertionSortCmpFunc_LI_G N) tab [slices_partialInsertionSortCmpFunc_LI_l0_s N] Try.f247 slices_partialInsertionSortCmpFunc_LI_ps slices_partialInsertionSortCmpFunc_LI_rs x := by kernel_rfl
theorem slices_partialInsertionSortCmpFunc_LI_pc (N : Nat) : PC Try.prog 247 (slices_partialInsertionSortCmpFunc_LI_S N) := by
  have e : slices_partialInsertionSortCmpFunc_LI_S N = ⟨slices_partialInsertionSortCmpFunc_LI_ps, slices_partialInsertionSortCmpFunc_LI_rs, funF (slices_partialInsertionSortCmpFunc_LI_G N) tab [slices_partialInsertionSortCmpFunc_LI_l0_s N] Try.f247 slices_partialInsertionSortCmpFunc_LI_ps slices_partialInsertionSortCmpFunc_LI_rs⟩ := congrArg (FSum.mk slices_partialInsertionSortCmpFunc_LI_ps slices_partialInsertionSortCmpFunc_LI_rs) (funext (slices_partialInsertionSortCmpFunc_LI_run N))
  rw [e]
  exact fun_ok (c := slices_partialInsertionSortCmpFunc_LI_code) progOk (slices_partialInsertionSortCmpFunc_LI_gok N) (draw_ok progOk (slices_partialInsertionSortCmpFunc_LI_gok N)) Try.call247 Try.func247 (by kernel_rfl) (lsOk_at (L := [slices_partialInsertionSortCmpFunc_LI_l0_s N]) ⟨slices_partialInsertionSortCmpFunc_LI_l0_ok N, trivial⟩) (by kernel_rfl) (by kernel_rfl) (by kernel_rfl) (by kernel_rfl) (by kernel_rfl)

/-! ### slices_pdqsortCmpFunc_LI -/
abbrev slices_pdqsortCmpFunc_LI_ps : List (PV.Mode × Ty) := [(.ro, LLI), (.ro, I), (.ro, I), (.ro, I), (.ro, GLILII)]
abbrev slices_pdqsortCmpFunc_LI_rs : List (Bool × Ty) := []
noncomputable def slices_pdqsortCmpFunc_LI_G (N : Nat) : GTab := gOf [(242, slices_insertionSortCmpFunc_LI_S N), (245, slices_choosePivotCmpFunc_LI_S N), (247, slices_partialInsertionSortCmpFunc_LI_S N)]
theorem slices_pdqsortCmpFunc_LI_gok (N : Nat) : GOk Try.prog (slices_pdqsortCmpFunc_LI_G N) := gOf_ok ⟨slices_insertionSortCmpFunc_LI_pc N, slices_choosePivotCmpFunc_LI_pc N, slices_partialInsertionSortCmpFunc_LI_pc N, trivial⟩
noncomputable def slices_pdqsortCmpFunc_LI_code : Code := (Try.f218.body).getD .skip
noncomputable def slices_pdqsortCmpFunc_LI_l0_sh : Sh := ⟨[(0, .one (.ro LLI)), (1, .one (.ro I)), (2, .one (.ro I)), (3, .one (.ro I)), (4, .one (.ro GLILII)), (10, .one (.ro .bool)), (11, .one (.ro .bool))], []⟩
noncomputable def slices_pdqsortCmpFunc_LI_l0_ex : List (Ex × Sh) := [(.ret, ⟨[], []⟩)]
noncomputable def slices_pdqsortCmpFunc_LI_l0 {R : Type} (N : Nat) (k0 : Unit → Option R) : Nat → (List (List Int)) → Int → Int → Int → ((List Int) → (List Int) → Option Int) → Bool → Bool → Option R
  | 0, _, _, _, _, _, _, _ => none
  | K + 1, x, x1, x2, x3, x4, x5, x6 =>
    (br (ile (IntKind.i64.wrap (x2 - x1)) 12)
      (((slices_insertionSortCmpFunc_LI N x x1 x2 x4).bind fun r =>
        k0 ()))
      ((br (ieq x3 0)
        (none)
        ((br (!x5)
          (none)
          (((slices_choosePivotCmpFunc_LI N x x1 x2 x4).bind fun r1 =>
            (br (ieq r1.1.2.1 2)
              (none)
              ((br x5
                ((br x6
                  ((br (ieq r1.1.2.1 1)
                    (((slices_partialInsertionSortCmpFunc_LI N x x1 x2 x4).bind fun r2 =>
                      (br r2.1.1
                        (k0 ())
                        ((br (ilt 0 x1)
                          ((chk (inb x (IntKind.i64.wrap (x1 - 1)))
                            (chk (inb x r1.1.1)
                            ((x4 (rdL x (IntKind.i64.wrap (x1 - 1))) (rdL x r1.1.1)).bind fun v =>
                            (br (!(ilt v 0))
                            (none)
                            (none))))))
                          (none))))))
                    ((br (ilt 0 x1)
                      ((chk (inb x (IntKind.i64.wrap (x1 - 1)))
                        (chk (inb x r1.1.1)
                        ((x4 (rdL x (IntKind.i64.wrap (x1 - 1))) (rdL x r1.1.1)).bind fun v1 =>
                        (br (!(ilt v1 0))
                        (none)
                        (none))))))
                      (none)))))
                  ((br (ilt 0 x1)
                    ((chk (inb x (IntKind.i64.wrap (x1 - 1)))
                      (chk (inb x r1.1.1)
                      ((x4 (rdL x (IntKind.i64.wrap (x1 - 1))) (rdL x r1.1.1)).bind fun v2 =>
                      (br (!(ilt v2 0))
                      (none)
                      (none))))))
                    (none)))))
                ((br (ilt 0 x1)
                  ((chk (inb x (IntKind.i64.wrap (x1 - 1)))
                    (chk (inb x r1.1.1)
                    ((x4 (rdL x (IntKind.i64.wrap (x1 - 1))) (rdL x r1.1.1)).bind fun v3 =>
                    (br (!(ilt v3 0))
                    (none)
                    (none))))))
                  (none)))))))))))))
noncomputable def slices_pdqsortCmpFunc_LI_l0_again {R : Type} (N : Nat) (ks : (j : Nat) → ((slices_pdqsortCmpFunc_LI_l0_ex.getD j (.ret, Sh.none)).2).T → Option R) (k : Nat) (x : slices_pdqsortCmpFunc_LI_l0_sh.T) : Option R :=
  slices_pdqsortCmpFunc_LI_l0 N (fun (_ : Unit) => ks 0 ((), ())) k x.1.1 x.1.2.1 x.1.2.2.1 x.1.2.2.2.1 x.1.2.2.2.2.1 x.1.2.2.2.2.2.1 x.1.2.2.2.2.2.2.1
noncomputable def slices_pdqsortCmpFunc_LI_l0_s (N : Nat) : LSum := ⟨slices_pdqsortCmpFunc_LI_l0_sh, slices_pdqsortCmpFunc_LI_l0_ex, fun x ks => slices_pdqsortCmpFunc_LI_l0_again N ks N x⟩
theorem slices_pdqsortCmpFunc_LI_l0_step (N : Nat) (R : Type) (k : Nat) (x : slices_pdqsortCmpFunc_LI_l0_sh.T) (ks : (j : Nat) → ((slices_pdqsortCmpFunc_LI_l0_ex.getD j (.ret, Sh.none)).2).T → Option R) : slices_pdqsortCmpFunc_LI_l0_again N ks (k + 1) x = roundF (slices_pdqsortCmpFunc_LI_G N) tab [] (loopAt slices_pdqsortCmpFunc_LI_code 0) slices_pdqsortCmpFunc_LI_l0_sh slices_pdqsortCmpFunc_LI_l0_ex (fun y => slices_pdqsortCmpFunc_LI_l0_again N ks k y) ks x := by kernel_rfl
theorem slices_pdqsortCmpFunc_LI_l0_ok (N : Nat) : LoopOk Try.prog Try.f218.ntmps (slices_pdqsortCmpFunc_LI_l0_s N) (loopAt slices_pdqsortCmpFunc_LI_code 0) :=
  loop_ok (l := slices_pdqsortCmpFunc_LI_l0_s N) progOk (slices_pdqsortCmpFunc_LI_gok N) (draw_ok progOk (slices_pdqsortCmpFunc_LI_gok N)) (fun R k x ks => slices_pdqsortCmpFunc_LI_l0_again N ks k x) (fun _ _ _ => rfl) (fun R k x ks => slices_pdqsortCmpFunc_LI_l0_step N R k x ks) (fun R x ks r h => ⟨N, h⟩) (lsOk_at (L := []) trivial) (by kernel_rfl) (by kernel_rfl)
noncomputable def slices_pdqsortCmpFunc_LI (N : Nat) (c : (List (List Int))) (c1 : Int) (c2 : Int) (c3 : Int) (c4 : ((List Int) → (List Int) → Option Int)) : Option ((Unit) × (Unit)) :=
  slices_pdqsortCmpFunc_LI_l0 N (fun (_ : Unit) => some ((), ())) N c c1 c2 c3 c4 true true
noncomputable def slices_pdqsortCmpFunc_LI_S (N : Nat) : FSum := ⟨slices_pdqsortCmpFunc_LI_ps, slices_pdqsortCmpFunc_LI_rs, fun x => slices_pdqsortCmpFunc_LI N x.1 x.2.1 x.2.2.1 x.2.2.2.1 x.2.2.2.2.1⟩
theorem slices_pdqsortCmpFunc_LI_run (N : Nat) (x : argsT slices_pdqsortCmpFunc_LI_ps) : slices_pdqsortCmpFunc_LI N x.1 x.2.1 x.2.2.1 x.2.2.2.1 x.2.2.2.2.1 = funF (slices_pdqsortCmpFunc_LI_G N) tab [slices_pdqsortCmpFunc_LI_l0_s N] Try.f218 slices_pdqsortCmpFunc_LI_ps slices_pdqsortCmpFunc_LI_rs x := by kernel_rfl
theorem slices_pdqsortCmpFunc_LI_pc (N : Nat) : PC Try.prog 218 (slices_pdqsortCmpFunc_LI_S N) := by
  have e : slices_pdqsortCmpFunc_LI_S N = ⟨slices_pdqsortCmpFunc_LI_ps, slices_pdqsortCmpFunc_LI_rs, funF (slices_pdqsortCmpFunc_LI_G N) tab [slices_pdqsortCmpFunc_LI_l0_s N] Try.f218 slices_pdqsortCmpFunc_LI_ps slices_pdqsortCmpFunc_LI_rs⟩ := congrArg (FSum.mk slices_pdqsortCmpFunc_LI_ps slices_pdqsortCmpFunc_LI_rs) (funext (slices_pdqsortCmpFunc_LI_run N))
  rw [e]
  exact fun_ok (c := slices_pdqsortCmpFunc_LI_code) progOk (slices_pdqsortCmpFunc_LI_gok N) (draw_ok progOk (slices_pdqsortCmpFunc_LI_gok N)) Try.call218 Try.func218 (by kernel_rfl) (lsOk_at (L := [slices_pdqsortCmpFunc_LI_l0_s N]) ⟨slices_pdqsortCmpFunc_LI_l0_ok N, trivial⟩) (by kernel_rfl) (by kernel_rfl) (by kernel_rfl) (by kernel_rfl) (by kernel_rfl)

/-! ### slices_SortFunc_LLI_LI -/
abbrev slices_SortFunc_LLI_LI_ps : List (PV.Mode × Ty) := [(.ro, LLI), (.ro, GLILII)]
abbrev slices_SortFunc_LLI_LI_rs : List (Bool × Ty) := []
noncomputable def slices_SortFunc_LLI_LI_G (N : Nat) : GTab := gOf [(219, math_bits_Len_S N), (218, slices_pdqsortCmpFunc_LI_S N)]
theorem slices_SortFunc_LLI_LI_gok (N : Nat) : GOk Try.prog (slices_SortFunc_LLI_LI_G N) := gOf_ok ⟨math_bits_Len_pc N, slices_pdqsortCmpFunc_LI_pc N, trivial⟩
noncomputable def slices_SortFunc_LLI_LI_code : Code := (Try.f176.body).getD .skip
noncomputable def slices_SortFunc_LLI_LI (N : Nat) (x : (List (List Int))) (cmp : ((List Int) → (List Int) → Option Int)) : Option ((Unit) × (Unit)) :=
  ((math_bits_Len N (IntKind.u64.wrap ((tLen x)))).bind fun r =>
    ((slices_pdqsortCmpFunc_LI N x 0 (tLen x) r.1.1 cmp).bind fun r1 =>
      some ((), ())))
noncomputable def slices_SortFunc_LLI_LI_S (N : Nat) : FSum := ⟨slices_SortFunc_LLI_LI_ps, slices_SortFunc_LLI_LI_rs, fun x => slices_SortFunc_LLI_LI N x.1 x.2.1⟩
theorem slices_SortFunc_LLI_LI_run (N : Nat) (x : argsT slices_SortFunc_LLI_LI_ps) : slices_SortFunc_LLI_LI N x.1 x.2.1 = funF (slices_SortFunc_LLI_LI_G N) tab [] Try.f176 slices_SortFunc_LLI_LI_ps slices_SortFunc_LLI_LI_rs x := by kernel_rfl
theorem slices_SortFunc_LLI_LI_pc (N : Nat) : PC Try.prog 176 (slices_SortFunc_LLI_LI_S N) := by
  have e : slices_SortFunc_LLI_LI_S N = ⟨slices_SortFunc_LLI_LI_ps, slices_SortFunc_LLI_LI_rs, funF (slices_SortFunc_LLI_LI_G N) tab [] Try.f176 slices_SortFunc_LLI_LI_ps slices_SortFunc_LLI_LI_rs⟩ := congrArg (FSum.mk slices_SortFunc_LLI_LI_ps slices_SortFunc_LLI_LI_rs) (funext (slices_SortFunc_LLI_LI_run N))
  rw [e]
  exact fun_ok (c := slices_SortFunc_LLI_LI_code) progOk (slices_SortFunc_LLI_LI_gok N) (draw_ok progOk (slices_SortFunc_LLI_LI_gok N)) Try.call176 Try.func176 (by kernel_rfl) (lsOk_at (L := []) trivial) (by kernel_rfl) (by kernel_rfl) (by kernel_rfl) (by kernel_rfl) (by kernel_rfl)

/-! ### slices_Compare_LI_int -/
abbrev slices_Compare_LI_int_ps : List (PV.Mode × Ty) := [(.ro, LI), (.ro, LI)]
abbrev slices_Compare_LI_int_rs : List (Bool × Ty) := [(true, I)]
noncomputable def slices_Compare_LI_int_G (N : Nat) : GTab := gOf [(220, cmp_Compare_int_S N)]
theorem slices_Compare_LI_int_gok (N : Nat) : GOk Try.prog (slices_Compare_LI_int_G N) := gOf_ok ⟨cmp_Compare_int_pc N, trivial⟩
noncomputable def slices_Compare_LI_int_code : Code := (Try.f177.body).getD .skip
noncomputable def slices_Compare_LI_int_l0_sh : Sh := ⟨[(0, .one (.ro LI)), (1, .one (.ro LI)), (9, .one (.ro LI)), (10, .one (.ro I)), (11, .one (.ro I))], []⟩
noncomputable def slices_Compare_LI_int_l0_ex : List (Ex × Sh) := [(.ret, ⟨[(4, .one (.ro I))], []⟩), (.exit 0, ⟨[(0, .one (.ro LI)), (1, .one (.ro LI))], []⟩)]
noncomputable def slices_Compare_LI_int_l0 {R : Type} (N : Nat) (k0 : Int → Option R) (k1 : (List Int) → (List Int) → Option R) : Nat → (List Int) → (List Int) → (List Int) → Int → Int → Option R
  | 0, _, _, _, _, _ => none
  | K + 1, s11, s21, x, x1, x2 =>
    (br (ilt x2 x1)
      ((chk (inb x x2)
        (br (ile (tLen s21) x2)
        (k0 1)
        ((chk (inb s21 x2)
          ((cmp_Compare_int N (rdI x x2) (rdI s21 x2)).bind fun r =>
          (br (ine r.1.1 0)
            (k0 r.1.1)
            (slices_Compare_LI_int_l0 N k0 k1 K s11 s21 x x1 (IntKind.i64.wrap (x2 + 1))))))))))
      (k1 s11 s21))
noncomputable def slices_Compare_LI_int_l0_again {R : Type} (N : Nat) (ks : (j : Nat) → ((slices_Compare_LI_int_l0_ex.getD j (.ret, Sh.none)).2).T → Option R) (k : Nat) (x : slices_Compare_LI_int_l0_sh.T) : Option R :=
  slices_Compare_LI_int_l0 N (fun y0 => ks 0 ((y0, ()), ())) (fun y0 y1 => ks 1 ((y0, y1, ()), ())) k x.1.1 x.1.2.1 x.1.2.2.1 x.1.2.2.2.1 x.1.2.2.2.2.1
noncomputable def slices_Compare_LI_int_l0_s (N : Nat) : LSum := ⟨slices_Compare_LI_int_l0_sh, slices_Compare_LI_int_l0_ex, fun x ks => slices_Compare_LI_int_l0_again N ks N x⟩
theorem slices_Compare_LI_int_l0_step (N : Nat) (R : Type) (k : Nat) (x : slices_Compare_LI_int_l0_sh.T) (ks : (j : Nat) → ((slices_Compare_LI_int_l0_ex.getD j (.ret, Sh.none)).2).T → Option R) : slices_Compare_LI_int_l0_again N ks (k + 1) x = roundF (slices_Compare_LI_int_G N) tab [] (loopAt slices_Compare_LI_int_code 0) slices_Compare_LI_int_l0_sh slices_Compare_LI_int_l0_ex (fun y => slices_Compare_LI_int_l0_again N ks k y) ks x := by kernel_rfl
theorem slices_Compare_LI_int_l0_ok (N : Nat) : LoopOk Try.prog Try.f177.ntmps (slices_Compare_LI_int_l0_s N) (loopAt slices_Compare_LI_int_code 0) :=
  loop_ok (l := slices_Compare_LI_int_l0_s N) progOk (slices_Compare_LI_int_gok N) (draw_ok progOk (slices_Compare_LI_int_gok N)) (fun R k x ks => slices_Compare_LI_int_l0_again N ks k x) (fun _ _ _ => rfl) (fun R k x ks => slices_Compare_LI_int_l0_step N R k x ks) (fun R x ks r h => ⟨N, h⟩) (lsOk_at (L := []) trivial) (by kernel_rfl) (by kernel_rfl)
noncomputable def slices_Compare_LI_int (N : Nat) (s1 : (List Int)) (s2 : (List Int)) : Option ((Int × Unit) × (Unit)) :=
  slices_Compare_LI_int_l0 N (fun x => some ((x, ()), ())) (fun s11 s21 => (br (ilt (tLen s11) (tLen s21))
    (some (((-1), ()), ()))
    (some ((0, ()), ())))) N s1 s2 s1 (tLen s1) 0
noncomputable def slices_Compare_LI_int_S (N : Nat) : FSum := ⟨slices_Compare_LI_int_ps, slices_Compare_LI_int_rs, fun x => slices_Compare_LI_int N x.1 x.2.1⟩
theorem slices_Compare_LI_int_run (N : Nat) (x : argsT slices_Compare_LI_int_ps) : slices_Compare_LI_int N x.1 x.2.1 = funF (slices_Compare_LI_int_G N) tab [slices_Compare_LI_int_l0_s N] Try.f177 slices_Compare_LI_int_ps slices_Compare_LI_int_rs x := by kernel_rfl
theorem slices_Compare_LI_int_pc (N : Nat) : PC Try.prog 177 (slices_Compare_LI_int_S N) := by
  have e : slices_Compare_LI_int_S N = ⟨slices_Compare_LI_int_ps, slices_Compare_LI_int_rs, funF (slices_Compare_LI_int_G N) tab [slices_Compare_LI_int_l0_s N] Try.f177 slices_Compare_LI_int_ps slices_Compare_LI_int_rs⟩ := congrArg (FSum.mk slices_Compare_LI_int_ps slices_Compare_LI_int_rs) (funext (slices_Compare_LI_int_run N))
  rw [e]
  exact fun_ok (c := slices_Compare_LI_int_code) progOk (slices_Compare_LI_int_gok N) (draw_ok progOk (slices_Compare_LI_int_gok N)) Try.call177 Try.func177 (by kernel_rfl) (lsOk_at (L := [slices_Compare_LI_int_l0_s N]) ⟨slices_Compare_LI_int_l0_ok N, trivial⟩) (by kernel_rfl) (by kernel_rfl) (by kernel_rfl) (by kernel_rfl) (by kernel_rfl)

/-! ### impl_spaceOf -/
abbrev impl_spaceOf_ps : List (PV.Mode × Ty) := [(.own, LLI), (.ro, GLILIBo)]
abbrev impl_spaceOf_rs : List (Bool × Ty) := [(true, QLLILQII)]
noncomputable def impl_spaceOf_G (N : Nat) : GTab := gOf [(176, slices_SortFunc_LLI_LI_S N), (177, slices_Compare_LI_int_S N)]
theorem impl_spaceOf_gok (N : Nat) : GOk Try.prog (impl_spaceOf_G N) := gOf_ok ⟨slices_SortFunc_LLI_LI_pc N, slices_Compare_LI_int_pc N, trivial⟩
noncomputable def impl_spaceOf_code : Code := (Try.f114.body).getD .skip
noncomputable def impl_spaceOf_l0_0_sh : Sh := ⟨[(1, .one (.ro GLILIBo)), (4, .one (.adr 0 0)), (5, .one (.adr 1 0)), (6, .one (.ro I)), (7, .one (.el 2)), (16, .one (.ref 2)), (17, .one (.ro I)), (18, .one (.ro I)), (27, .one (.sub 2 1)), (28, .one (.ro I)), (29, .one (.ro I))], [.box [.nilsl, .nilsl], .box [.ref 2, .ref 3], .sl 42 LI .deep, .sl 137 QII .own]⟩
noncomputable def impl_spaceOf_l0_0_ex : List (Ex × Sh) := [(.exit 2, ⟨[(1, .one (.ro GLILIBo)), (4, .one (.adr 0 0)), (5, .one (.adr 1 0)), (16, .one (.ref 2)), (17, .one (.ro I)), (18, .one (.ro I))], [.box [.nilsl, .nilsl], .box [.ref 2, .ref 3], .sl 42 LI .deep, .sl 137 QII .own]⟩)]
noncomputable def impl_spaceOf_l0_0 {R : Type} (N : Nat) (k0 : ((List Int) → (List Int) → Option Bool) → Int → Int → (List (List Int)) → (List (Int × Int)) → Option R) : Nat → ((List Int) → (List Int) → Option Bool) → Int → Int → Int → Int → Int → Int → Int → Int → (List (List Int)) → (List (Int × Int)) → Option R
  | 0, _, _, _, _, _, _, _, _, _, _, _ => none
  | K + 1, isStep2, i, a, x2, x3, x4, x5, x6, x7, o2, o3 =>
    (br (ilt x7 x6)
      ((chk (ile 0 x7 && ilt x7 (x5 - x4))
        ((isStep2 (rdL o2 a) (rdL o2 (x4 + x7))).bind fun v =>
        (br v
        ((chk (room o3 [(i, (IntKind.i64.wrap ((IntKind.i64.wrap (i + 1)) + x7)))])
          (impl_spaceOf_l0_0 N k0 K isStep2 i a x2 x3 x4 x5 x6 (IntKind.i64.wrap (x7 + 1)) o2 (tApp o3 [(i, (IntKind.i64.wrap ((IntKind.i64.wrap (i + 1)) + x7)))]))))
        (impl_spaceOf_l0_0 N k0 K isStep2 i a x2 x3 x4 x5 x6 (IntKind.i64.wrap (x7 + 1)) o2 o3)))))
      (k0 isStep2 x2 x3 o2 o3))
noncomputable def impl_spaceOf_l0_0_again {R : Type} (N : Nat) (ks : (j : Nat) → ((impl_spaceOf_l0_0_ex.getD j (.ret, Sh.none)).2).T → Option R) (k : Nat) (x : impl_spaceOf_l0_0_sh.T) : Option R :=
  impl_spaceOf_l0_0 N (fun y0 y1 y2 y3 y4 => ks 0 ((y0, (), (), (), y1, y2, ()), (((), (), ()), ((), (), ()), y3, y4, ()))) k x.1.1 x.1.2.2.2.1 x.1.2.2.2.2.1 x.1.2.2.2.2.2.2.1 x.1.2.2.2.2.2.2.2.1 x.1.2.2.2.2.2.2.2.2.1.1 x.1.2.2.2.2.2.2.2.2.1.2 x.1.2.2.2.2.2.2.2.2.2.1 x.1.2.2.2.2.2.2.2.2.2.2.1 x.2.2.2.1 x.2.2.2.2.1
noncomputable def impl_spaceOf_l0_0_s (N : Nat) : LSum := ⟨impl_spaceOf_l0_0_sh, impl_spaceOf_l0_0_ex, fun x ks => impl_spaceOf_l0_0_again N ks N x⟩
theorem impl_spaceOf_l0_0_step (N : Nat) (R : Type) (k : Nat) (x : impl_spaceOf_l0_0_sh.T) (ks : (j : Nat) → ((impl_spaceOf_l0_0_ex.getD j (.ret, Sh.none)).2).T → Option R) : impl_spaceOf_l0_0_again N ks (k + 1) x = roundF (impl_spaceOf_G N) tab [] (loopAt (loopAt impl_spaceOf_code 0) 0) impl_spaceOf_l0_0_sh impl_spaceOf_l0_0_ex (fun y => impl_spaceOf_l0_0_again N ks k y) ks x := by kernel_rfl
theorem impl_spaceOf_l0_0_ok (N : Nat) : LoopOk Try.prog Try.f114.ntmps (impl_spaceOf_l0_0_s N) (loopAt (loopAt impl_spaceOf_code 0) 0) :=
  loop_ok (l := impl_spaceOf_l0_0_s N) progOk (impl_spaceOf_gok N) (draw_ok progOk (impl_spaceOf_gok N)) (fun R k x ks => impl_spaceOf_l0_0_again N ks k x) (fun _ _ _ => rfl) (fun R k x ks => impl_spaceOf_l0_0_step N R k x ks) (fun R x ks r h => ⟨N, h⟩) (lsOk_at (L := []) trivial) (by kernel_rfl) (by kernel_rfl)
noncomputable def impl_spaceOf_l0_sh : Sh := ⟨[(1, .one (.ro GLILIBo)), (4, .one (.adr 0 0)), (5, .one (.adr 1 0)), (16, .one (.ref 2)), (17, .one (.ro I)), (18, .one (.ro I))], [.box [.nilsl, .nilsl], .box [.ref 2, .ref 3], .sl 42 LI .deep, .sl 137 QII .own]⟩
noncomputable def impl_spaceOf_l0_ex : List (Ex × Sh) := [(.exit 0, ⟨[(4, .one (.adr 0 0)), (5, .one (.adr 1 0))], [.box [.nilsl, .nilsl], .box [.ref 2, .ref 3], .sl 42 LI .deep, .sl 137 QII .own]⟩)]
noncomputable def impl_spaceOf_l0 {R : Type} (N : Nat) (k0 : (List (List Int)) → (List (Int × Int)) → Option R) : Nat → ((List Int) → (List Int) → Option Bool) → Int → Int → (List (List Int)) → (List (Int × Int)) → Option R
  | 0, _, _, _, _, _ => none
  | K + 1, isStep1, x, x1, o, o1 =>
    (br (ilt x1 x)
      ((chk (inb o x1)
        (chk (ile 0 (IntKind.i64.wrap (x1 + 1)) && ile (IntKind.i64.wrap (x1 + 1)) (tLen o) && ile (tLen o) (tLen o))
        (impl_spaceOf_l0_0 N (fun isStep2 x2 x3 o2 o3 => impl_spaceOf_l0 N k0 K isStep2 x2 (IntKind.i64.wrap (x3 + 1)) o2 o3) N isStep1 x1 x1 x x1 (IntKind.i64.wrap (x1 + 1)) (tLen o) ((tLen o) - (IntKind.i64.wrap (x1 + 1))) 0 o o1))))
      (k0 o o1))
noncomputable def impl_spaceOf_l0_again {R : Type} (N : Nat) (ks : (j : Nat) → ((impl_spaceOf_l0_ex.getD j (.ret, Sh.none)).2).T → Option R) (k : Nat) (x : impl_spaceOf_l0_sh.T) : Option R :=
  impl_spaceOf_l0 N (fun y0 y1 => ks 0 (((), (), ()), (((), (), ()), ((), (), ()), y0, y1, ()))) k x.1.1 x.1.2.2.2.2.1 x.1.2.2.2.2.2.1 x.2.2.2.1 x.2.2.2.2.1
noncomputable def impl_spaceOf_l0_s (N : Nat) : LSum := ⟨impl_spaceOf_l0_sh, impl_spaceOf_l0_ex, fun x ks => impl_spaceOf_l0_again N ks N x⟩
theorem impl_spaceOf_l0_step (N : Nat) (R : Type) (k : Nat) (x : impl_spaceOf_l0_sh.T) (ks : (j : Nat) → ((impl_spaceOf_l0_ex.getD j (.ret, Sh.none)).2).T → Option R) : impl_spaceOf_l0_again N ks (k + 1) x = roundF (impl_spaceOf_G N) tab [impl_spaceOf_l0_0_s N] (loopAt impl_spaceOf_code 0) impl_spaceOf_l0_sh impl_spaceOf_l0_ex (fun y => impl_spaceOf_l0_again N ks k y) ks x := by kernel_rfl
theorem impl_spaceOf_l0_ok (N : Nat) : LoopOk Try.prog Try.f114.ntmps (impl_spaceOf_l0_s N) (loopAt impl_spaceOf_code 0) :=
  loop_ok (l := impl_spaceOf_l0_s N) progOk (impl_spaceOf_gok N) (draw_ok progOk (impl_spaceOf_gok N)) (fun R k x ks => impl_spaceOf_l0_again N ks k x) (fun _ _ _ => rfl) (fun R k x ks => impl_spaceOf_l0_step N R k x ks) (fun R x ks r h => ⟨N, h⟩) (lsOk_at (L := [impl_spaceOf_l0_0_s N]) ⟨impl_spaceOf_l0_0_ok N, trivial⟩) (by kernel_rfl) (by kernel_rfl)
noncomputable def impl_spaceOf (N : Nat) (states : (List (List Int))) (isStep : ((List Int) → (List Int) → Option Bool)) : Option ((((List (List Int)) × (List (Int × Int))) × Unit) × (Unit)) :=
  ((slices_SortFunc_LLI_LI N states (fun y0 y1 => (slices_Compare_LI_int N y0 y1).bind fun z => some z.1.1)).bind fun r =>
    impl_spaceOf_l0 N (fun o o1 => some (((o, o1), ()), ())) N isStep (tLen states) 0 states [])
noncomputable def impl_spaceOf_S (N : Nat) : FSum := ⟨impl_spaceOf_ps, impl_spaceOf_rs, fun x => impl_spaceOf N x.1 x.2.1⟩
theorem impl_spaceOf_run (N : Nat) (x : argsT impl_spaceOf_ps) : impl_spaceOf N x.1 x.2.1 = funF (impl_spaceOf_G N) tab [impl_spaceOf_l0_s N] Try.f114 impl_spaceOf_ps impl_spaceOf_rs x := by kernel_rfl
theorem impl_spaceOf_pc (N : Nat) : PC Try.prog 114 (impl_spaceOf_S N) := by
  have e : impl_spaceOf_S N = ⟨impl_spaceOf_ps, impl_spaceOf_rs, funF (impl_spaceOf_G N) tab [impl_spaceOf_l0_s N] Try.f114 impl_spaceOf_ps impl_spaceOf_rs⟩ := congrArg (FSum.mk impl_spaceOf_ps impl_spaceOf_rs) (funext (impl_spaceOf_run N))
  rw [e]
  exact fun_ok (c := impl_spaceOf_code) progOk (impl_spaceOf_gok N) (draw_ok progOk (impl_spaceOf_gok N)) Try.call114 Try.func114 (by kernel_rfl) (lsOk_at (L := [impl_spaceOf_l0_s N]) ⟨impl_spaceOf_l0_ok N, trivial⟩) (by kernel_rfl) (by kernel_rfl) (by kernel_rfl) (by kernel_rfl) (by kernel_rfl)

/-! ### impl_places -/
abbrev impl_places_ps : List (PV.Mode × Ty) := [(.ro, LI), (.ro, LI)]
abbrev impl_places_rs : List (Bool × Ty) := [(true, LI)]
noncomputable def impl_places_G (N : Nat) : GTab := gOf []
theorem impl_places_gok (N : Nat) : GOk Try.prog (impl_places_G N) := gOf_ok trivial
noncomputable def impl_places_code : Code := (Try.f180.body).getD .skip
noncomputable def impl_places_l0_sh : Sh := ⟨[(1, .one (.ro LI)), (5, .one (.ref 0)), (9, .one (.ro LI)), (10, .one (.ro I)), (11, .one (.ro I))], [.sl 3 I .own]⟩
noncomputable def impl_places_l0_ex : List (Ex × Sh) := [(.exit 0, ⟨[(5, .one (.ref 0))], [.sl 3 I .own]⟩)]
noncomputable def impl_places_l0 {R : Type} (N : Nat) (k0 : (List Int) → Option R) : Nat → (List Int) → (List Int) → Int → Int → (List Int) → Option R
  | 0, _, _, _, _, _ => none
  | K + 1, b1, x, x1, x2, o =>
    (br (ilt x2 x1)
      ((chk (inb x x2)
        (chk (inb b1 x2)
        (br (ine (rdI b1 x2) (rdI x x2))
        ((chk (room o [x2])
          (impl_places_l0 N k0 K b1 x x1 (IntKind.i64.wrap (x2 + 1)) (tApp o [x2]))))
        (impl_places_l0 N k0 K b1 x x1 (IntKind.i64.wrap (x2 + 1)) o)))))
      (k0 o))
noncomputable def impl_places_l0_again {R : Type} (N : Nat) (ks : (j : Nat) → ((impl_places_l0_ex.getD j (.ret, Sh.none)).2).T → Option R) (k : Nat) (x : impl_places_l0_sh.T) : Option R :=
  impl_places_l0 N (fun y0 => ks 0 (((), ()), (y0, ()))) k x.1.1 x.1.2.2.1 x.1.2.2.2.1 x.1.2.2.2.2.1 x.2.1
noncomputable def impl_places_l0_s (N : Nat) : LSum := ⟨impl_places_l0_sh, impl_places_l0_ex, fun x ks => impl_places_l0_again N ks N x⟩
theorem impl_places_l0_step (N : Nat) (R : Type) (k : Nat) (x : impl_places_l0_sh.T) (ks : (j : Nat) → ((impl_places_l0_ex.getD j (.ret, Sh.none)).2).T → Option R) : impl_places_l0_again N ks (k + 1) x = roundF (impl_places_G N) tab [] (loopAt impl_places_code 0) impl_places_l0_sh impl_places_l0_ex (fun y => impl_places_l0_again N ks k y) ks x := by kernel_rfl
theorem impl_places_l0_ok (N : Nat) : LoopOk Try.prog Try.f180.ntmps (impl_places_l0_s N) (loopAt impl_places_code 0) :=
  loop_ok (l := impl_places_l0_s N) progOk (impl_places_gok N) (draw_ok progOk (impl_places_gok N)) (fun R k x ks => impl_places_l0_again N ks k x) (fun _ _ _ => rfl) (fun R k x ks => impl_places_l0_step N R k x ks) (fun R x ks r h => ⟨N, h⟩) (lsOk_at (L := []) trivial) (by kernel_rfl) (by kernel_rfl)
noncomputable def impl_places (N : Nat) (a : (List Int)) (b : (List Int)) : Option (((List Int) × Unit) × (Unit)) :=
  impl_places_l0 N (fun o => some ((o, ()), ())) N b a (tLen a) 0 []
noncomputable def impl_places_S (N : Nat) : FSum := ⟨impl_places_ps, impl_places_rs, fun x => impl_places N x.1 x.2.1⟩
theorem impl_places_run (N : Nat) (x : argsT impl_places_ps) : impl_places N x.1 x.2.1 = funF (impl_places_G N) tab [impl_places_l0_s N] Try.f180 impl_places_ps impl_places_rs x := by kernel_rfl
theorem impl_places_pc (N : Nat) : PC Try.prog 180 (impl_places_S N) := by
  have e : impl_places_S N = ⟨impl_places_ps, impl_places_rs, funF (impl_places_G N) tab [impl_places_l0_s N] Try.f180 impl_places_ps impl_places_rs⟩ := congrArg (FSum.mk impl_places_ps impl_places_rs) (funext (impl_places_run N))
  rw [e]
  exact fun_ok (c := impl_places_code) progOk (impl_places_gok N) (draw_ok progOk (impl_places_gok N)) Try.call180 Try.func180 (by kernel_rfl) (lsOk_at (L := [impl_places_l0_s N]) ⟨impl_places_l0_ok N, trivial⟩) (by kernel_rfl) (by kernel_rfl) (by kernel_rfl) (by kernel_rfl) (by kernel_rfl)

/-! ### impl_isChange -/
abbrev impl_isChange_ps : List (PV.Mode × Ty) := [(.ro, LI), (.ro, LI)]
abbrev impl_isChange_rs : List (Bool × Ty) := [(true, .bool)]
noncomputable def impl_isChange_G (N : Nat) : GTab := gOf [(180, impl_places_S N)]
theorem impl_isChange_gok (N : Nat) : GOk Try.prog (impl_isChange_G N) := gOf_ok ⟨impl_places_pc N, trivial⟩
noncomputable def impl_isChange_code : Code := (Try.f116.body).getD .skip
noncomputable def impl_isChange (N : Nat) (a : (List Int)) (b : (List Int)) : Option ((Bool × Unit) × (Unit)) :=
  ((impl_places N a b).bind fun r =>
    some (((ieq (tLen r.1.1) 1), ()), ()))
noncomputable def impl_isChange_S (N : Nat) : FSum := ⟨impl_isChange_ps, impl_isChange_rs, fun x => impl_isChange N x.1 x.2.1⟩
theorem impl_isChange_run (N : Nat) (x : argsT impl_isChange_ps) : impl_isChange N x.1 x.2.1 = funF (impl_isChange_G N) tab [] Try.f116 impl_isChange_ps impl_isChange_rs x := by kernel_rfl
theorem impl_isChange_pc (N : Nat) : PC Try.prog 116 (impl_isChange_S N) := by
  have e : impl_isChange_S N = ⟨impl_isChange_ps, impl_isChange_rs, funF (impl_isChange_G N) tab [] Try.f116 impl_isChange_ps impl_isChange_rs⟩ := congrArg (FSum.mk impl_isChange_ps impl_isChange_rs) (funext (impl_isChange_run N))
  rw [e]
  exact fun_ok (c := impl_isChange_code) progOk (impl_isChange_gok N) (draw_ok progOk (impl_isChange_gok N)) Try.call116 Try.func116 (by kernel_rfl) (lsOk_at (L := []) trivial) (by kernel_rfl) (by kernel_rfl) (by kernel_rfl) (by kernel_rfl) (by kernel_rfl)

/-! ### impl_orNone -/
abbrev impl_orNone_ps : List (PV.Mode × Ty) := [(.own, QLLILQII)]
abbrev impl_orNone_rs : List (Bool × Ty) := [(true, QLLILQII), (true, .bool)]
noncomputable def impl_orNone_G (N : Nat) : GTab := gOf []
theorem impl_orNone_gok (N : Nat) : GOk Try.prog (impl_orNone_G N) := gOf_ok trivial
noncomputable def impl_orNone_code : Code := (Try.f118.body).getD .skip
noncomputable def impl_orNone (N : Nat) (x : ((List (List Int)) × (List (Int × Int)))) : Option ((((List (List Int)) × (List (Int × Int))) × Bool × Unit) × (Unit)) :=
  (br (ilt 300 (tLen x.1))
    (some ((([], []), false, ()), ()))
    ((br (ilt 6000 (tLen x.2))
      (some ((([], []), false, ()), ()))
      (some (((x.1, x.2), true, ()), ())))))
noncomputable def impl_orNone_S (N : Nat) : FSum := ⟨impl_orNone_ps, impl_orNone_rs, fun x => impl_orNone N x.1⟩
theorem impl_orNone_run (N : Nat) (x : argsT impl_orNone_ps) : impl_orNone N x.1 = funF (impl_orNone_G N) tab [] Try.f118 impl_orNone_ps impl_orNone_rs x := by kernel_rfl
theorem impl_orNone_pc (N : Nat) : PC Try.prog 118 (impl_orNone_S N) := by
  have e : impl_orNone_S N = ⟨impl_orNone_ps, impl_orNone_rs, funF (impl_orNone_G N) tab [] Try.f118 impl_orNone_ps impl_orNone_rs⟩ := congrArg (FSum.mk impl_orNone_ps impl_orNone_rs) (funext (impl_orNone_run N))
  rw [e]
  exact fun_ok (c := impl_orNone_code) progOk (impl_orNone_gok N) (draw_ok progOk (impl_orNone_gok N)) Try.call118 Try.func118 (by kernel_rfl) (lsOk_at (L := []) trivial) (by kernel_rfl) (by kernel_rfl) (by kernel_rfl) (by kernel_rfl) (by kernel_rfl)

/-! ### impl_ColourSpace -/
abbrev impl_ColourSpace_ps : List (PV.Mode × Ty) := [(.ro, QILQII), (.ro, I)]
abbrev impl_ColourSpace_rs : List (Bool × Ty) := [(true, QLLILQII), (true, .bool)]
noncomputable def impl_ColourSpace_G (N : Nat) : GTab := gOf [(18, impl_Colourings_S N), (114, impl_spaceOf_S N), (116, impl_isChange_S N), (118, impl_orNone_S N)]
theorem impl_ColourSpace_gok (N : Nat) : GOk Try.prog (impl_ColourSpace_G N) := gOf_ok ⟨impl_Colourings_pc N, impl_spaceOf_pc N, impl_isChange_pc N, impl_orNone_pc N, trivial⟩
noncomputable def impl_ColourSpace_code : Code := (Try.f56.body).getD .skip
noncomputable def impl_ColourSpace (N : Nat) (g : (Int × (List (Int × Int)))) (kv : Int) : Option ((((List (List Int)) × (List (Int × Int))) × Bool × Unit) × (Unit)) :=
  ((impl_Colourings N (g.1, g.2) kv).bind fun r =>
    (br (!r.1.2.1)
      (some ((([], []), false, ()), ()))
      (((impl_spaceOf N r.1.1 (fun y0 y1 => (impl_isChange N y0 y1).bind fun z => some z.1.1)).bind fun r1 =>
        ((impl_orNone N (r1.1.1.1, r1.1.1.2)).bind fun r2 =>
          some (((r2.1.1.1, r2.1.1.2), r2.1.2.1, ()), ()))))))
noncomputable def impl_ColourSpace_S (N : Nat) : FSum := ⟨impl_ColourSpace_ps, impl_ColourSpace_rs, fun x => impl_ColourSpace N x.1 x.2.1⟩
theorem impl_ColourSpace_run (N : Nat) (x : argsT impl_ColourSpace_ps) : impl_ColourSpace N x.1 x.2.1 = funF (impl_ColourSpace_G N) tab [] Try.f56 impl_ColourSpace_ps impl_ColourSpace_rs x := by kernel_rfl
theorem impl_ColourSpace_pc (N : Nat) : PC Try.prog 56 (impl_ColourSpace_S N) := by
  have e : impl_ColourSpace_S N = ⟨impl_ColourSpace_ps, impl_ColourSpace_rs, funF (impl_ColourSpace_G N) tab [] Try.f56 impl_ColourSpace_ps impl_ColourSpace_rs⟩ := congrArg (FSum.mk impl_ColourSpace_ps impl_ColourSpace_rs) (funext (impl_ColourSpace_run N))
  rw [e]
  exact fun_ok (c := impl_ColourSpace_code) progOk (impl_ColourSpace_gok N) (draw_ok progOk (impl_ColourSpace_gok N)) Try.call56 Try.func56 (by kernel_rfl) (lsOk_at (L := []) trivial) (by kernel_rfl) (by kernel_rfl) (by kernel_rfl) (by kernel_rfl) (by kernel_rfl)

/-! ### laws_eqIntS -/
abbrev laws_eqIntS_ps : List (PV.Mode × Ty) := [(.ro, LI), (.ro, LI)]
abbrev laws_eqIntS_rs : List (Bool × Ty) := [(true, .bool)]
noncomputable def laws_eqIntS_G (N : Nat) : GTab := gOf []
theorem laws_eqIntS_gok (N : Nat) : GOk Try.prog (laws_eqIntS_G N) := gOf_ok trivial
noncomputable def laws_eqIntS_code : Code := (Try.f35.body).getD .skip
noncomputable def laws_eqIntS_l0_sh : Sh := ⟨[(0, .one (.ro LI)), (1, .one (.ro LI)), (5, .one (.ro I))], []⟩
noncomputable def laws_eqIntS_l0_ex : List (Ex × Sh) := [(.ret, ⟨[(4, .one (.ro .bool))], []⟩), (.exit 0, ⟨[], []⟩)]
noncomputable def laws_eqIntS_l0 {R : Type} (N : Nat) (k0 : Bool → Option R) (k1 : Unit → Option R) : Nat → (List Int) → (List Int) → Int → Option R
  | 0, _, _, _ => none
  | K + 1, a1, b1, i =>
    (br (ilt i (tLen a1))
      ((chk (inb a1 i)
        (chk (inb b1 i)
        (br (ine (rdI a1 i) (rdI b1 i))
        (k0 false)
        (laws_eqIntS_l0 N k0 k1 K a1 b1 (IntKind.i64.wrap (i + 1)))))))
      (k1 ()))
noncomputable def laws_eqIntS_l0_again {R : Type} (N : Nat) (ks : (j : Nat) → ((laws_eqIntS_l0_ex.getD j (.ret, Sh.none)).2).T → Option R) (k : Nat) (x : laws_eqIntS_l0_sh.T) : Option R :=
  laws_eqIntS_l0 N (fun y0 => ks 0 ((y0, ()), ())) (fun (_ : Unit) => ks 1 ((), ())) k x.1.1 x.1.2.1 x.1.2.2.1
noncomputable def laws_eqIntS_l0_s (N : Nat) : LSum := ⟨laws_eqIntS_l0_sh, laws_eqIntS_l0_ex, fun x ks => laws_eqIntS_l0_again N ks N x⟩
theorem laws_eqIntS_l0_step (N : Nat) (R : Type) (k : Nat) (x : laws_eqIntS_l0_sh.T) (ks : (j : Nat) → ((laws_eqIntS_l0_ex.getD j (.ret, Sh.none)).2).T → Option R) : laws_eqIntS_l0_again N ks (k + 1) x = roundF (laws_eqIntS_G N) tab [] (loopAt laws_eqIntS_code 0) laws_eqIntS_l0_sh laws_eqIntS_l0_ex (fun y => laws_eqIntS_l0_again N ks k y) ks x := by kernel_rfl
theorem laws_eqIntS_l0_ok (N : Nat) : LoopOk Try.prog Try.f35.ntmps (laws_eqIntS_l0_s N) (loopAt laws_eqIntS_code 0) :=
  loop_ok (l := laws_eqIntS_l0_s N) progOk (laws_eqIntS_gok N) (draw_ok progOk (laws_eqIntS_gok N)) (fun R k x ks => laws_eqIntS_l0_again N ks k x) (fun _ _ _ => rfl) (fun R k x ks => laws_eqIntS_l0_step N R k x ks) (fun R x ks r h => ⟨N, h⟩) (lsOk_at (L := []) trivial) (by kernel_rfl) (by kernel_rfl)
noncomputable def laws_eqIntS (N : Nat) (a : (List Int)) (b : (List Int)) : Option ((Bool × Unit) × (Unit)) :=
  (br (ine (tLen a) (tLen b))
    (some ((false, ()), ()))
    (laws_eqIntS_l0 N (fun x => some ((x, ()), ())) (fun (_ : Unit) => some ((true, ()), ())) N a b 0))
noncomputable def laws_eqIntS_S (N : Nat) : FSum := ⟨laws_eqIntS_ps, laws_eqIntS_rs, fun x => laws_eqIntS N x.1 x.2.1⟩
theorem laws_eqIntS_run (N : Nat) (x : argsT laws_eqIntS_ps) : laws_eqIntS N x.1 x.2.1 = funF (laws_eqIntS_G N) tab [laws_eqIntS_l0_s N] Try.f35 laws_eqIntS_ps laws_eqIntS_rs x := by kernel_rfl
theorem laws_eqIntS_pc (N : Nat) : PC Try.prog 35 (laws_eqIntS_S N) := by
  have e : laws_eqIntS_S N = ⟨laws_eqIntS_ps, laws_eqIntS_rs, funF (laws_eqIntS_G N) tab [laws_eqIntS_l0_s N] Try.f35 laws_eqIntS_ps laws_eqIntS_rs⟩ := congrArg (FSum.mk laws_eqIntS_ps laws_eqIntS_rs) (funext (laws_eqIntS_run N))
  rw [e]
  exact fun_ok (c := laws_eqIntS_code) progOk (laws_eqIntS_gok N) (draw_ok progOk (laws_eqIntS_gok N)) Try.call35 Try.func35 (by kernel_rfl) (lsOk_at (L := [laws_eqIntS_l0_s N]) ⟨laws_eqIntS_l0_ok N, trivial⟩) (by kernel_rfl) (by kernel_rfl) (by kernel_rfl) (by kernel_rfl) (by kernel_rfl)

/-! ### laws_eqIntSS -/
abbrev laws_eqIntSS_ps : List (PV.Mode × Ty) := [(.ro, LLI), (.ro, LLI)]
abbrev laws_eqIntSS_rs : List (Bool × Ty) := [(true, .bool)]
noncomputable def laws_eqIntSS_G (N : Nat) : GTab := gOf [(35, laws_eqIntS_S N)]
theorem laws_eqIntSS_gok (N : Nat) : GOk Try.prog (laws_eqIntSS_G N) := gOf_ok ⟨laws_eqIntS_pc N, trivial⟩
noncomputable def laws_eqIntSS_code : Code := (Try.f19.body).getD .skip
noncomputable def laws_eqIntSS_l0_sh : Sh := ⟨[(0, .one (.ro LLI)), (1, .one (.ro LLI)), (5, .one (.ro I))], []⟩
noncomputable def laws_eqIntSS_l0_ex : List (Ex × Sh) := [(.ret, ⟨[(4, .one (.ro .bool))], []⟩), (.exit 0, ⟨[], []⟩)]
noncomputable def laws_eqIntSS_l0 {R : Type} (N : Nat) (k0 : Bool → Option R) (k1 : Unit → Option R) : Nat → (List (List Int)) → (List (List Int)) → Int → Option R
  | 0, _, _, _ => none
  | K + 1, a1, b1, i =>
    (br (ilt i (tLen a1))
      ((chk (inb a1 i)
        (chk (inb b1 i)
        ((laws_eqIntS N (rdL a1 i) (rdL b1 i)).bind fun r =>
        (br (!r.1.1)
          (k0 false)
          (laws_eqIntSS_l0 N k0 k1 K a1 b1 (IntKind.i64.wrap (i + 1))))))))
      (k1 ()))
noncomputable def laws_eqIntSS_l0_again {R : Type} (N : Nat) (ks : (j : Nat) → ((laws_eqIntSS_l0_ex.getD j (.ret, Sh.none)).2).T → Option R) (k : Nat) (x : laws_eqIntSS_l0_sh.T) : Option R :=
  laws_eqIntSS_l0 N (fun y0 => ks 0 ((y0, ()), ())) (fun (_ : Unit) => ks 1 ((), ())) k x.1.1 x.1.2.1 x.1.2.2.1
noncomputable def laws_eqIntSS_l0_s (N : Nat) : LSum := ⟨laws_eqIntSS_l0_sh, laws_eqIntSS_l0_ex, fun x ks => laws_eqIntSS_l0_again N ks N x⟩
theorem laws_eqIntSS_l0_step (N : Nat) (R : Type) (k : Nat) (x : laws_eqIntSS_l0_sh.T) (ks : (j : Nat) → ((laws_eqIntSS_l0_ex.getD j (.ret, Sh.none)).2).T → Option R) : laws_eqIntSS_l0_again N ks (k + 1) x = roundF (laws_eqIntSS_G N) tab [] (loopAt laws_eqIntSS_code 0) laws_eqIntSS_l0_sh laws_eqIntSS_l0_ex (fun y => laws_eqIntSS_l0_again N ks k y) ks x := by kernel_rfl
theorem laws_eqIntSS_l0_ok (N : Nat) : LoopOk Try.prog Try.f19.ntmps (laws_eqIntSS_l0_s N) (loopAt laws_eqIntSS_code 0) :=
  loop_ok (l := laws_eqIntSS_l0_s N) progOk (laws_eqIntSS_gok N) (draw_ok progOk (laws_eqIntSS_gok N)) (fun R k x ks => laws_eqIntSS_l0_again N ks k x) (fun _ _ _ => rfl) (fun R k x ks => laws_eqIntSS_l0_step N R k x ks) (fun R x ks r h => ⟨N, h⟩) (lsOk_at (L := []) trivial) (by kernel_rfl) (by kernel_rfl)
noncomputable def laws_eqIntSS (N : Nat) (a : (List (List Int))) (b : (List (List Int))) : Option ((Bool × Unit) × (Unit)) :=
  (br (ine (tLen a) (tLen b))
    (some ((false, ()), ()))
    (laws_eqIntSS_l0 N (fun x => some ((x, ()), ())) (fun (_ : Unit) => some ((true, ()), ())) N a b 0))
noncomputable def laws_eqIntSS_S (N : Nat) : FSum := ⟨laws_eqIntSS_ps, laws_eqIntSS_rs, fun x => laws_eqIntSS N x.1 x.2.1⟩
theorem laws_eqIntSS_run (N : Nat) (x : argsT laws_eqIntSS_ps) : laws_eqIntSS N x.1 x.2.1 = funF (laws_eqIntSS_G N) tab [laws_eqIntSS_l0_s N] Try.f19 laws_eqIntSS_ps laws_eqIntSS_rs x := by kernel_rfl
theorem laws_eqIntSS_pc (N : Nat) : PC Try.prog 19 (laws_eqIntSS_S N) := by
  have e : laws_eqIntSS_S N = ⟨laws_eqIntSS_ps, laws_eqIntSS_rs, funF (laws_eqIntSS_G N) tab [laws_eqIntSS_l0_s N] Try.f19 laws_eqIntSS_ps laws_eqIntSS_rs⟩ := congrArg (FSum.mk laws_eqIntSS_ps laws_eqIntSS_rs) (funext (laws_eqIntSS_run N))
  rw [e]
  exact fun_ok (c := laws_eqIntSS_code) progOk (laws_eqIntSS_gok N) (draw_ok progOk (laws_eqIntSS_gok N)) Try.call19 Try.func19 (by kernel_rfl) (lsOk_at (L := [laws_eqIntSS_l0_s N]) ⟨laws_eqIntSS_l0_ok N, trivial⟩) (by kernel_rfl) (by kernel_rfl) (by kernel_rfl) (by kernel_rfl) (by kernel_rfl)

/-! ### laws_eqIntA2 -/
abbrev laws_eqIntA2_ps : List (PV.Mode × Ty) := [(.ro, QII), (.ro, QII)]
abbrev laws_eqIntA2_rs : List (Bool × Ty) := [(true, .bool)]
noncomputable def laws_eqIntA2_G (N : Nat) : GTab := gOf []
theorem laws_eqIntA2_gok (N : Nat) : GOk Try.prog (laws_eqIntA2_G N) := gOf_ok trivial
noncomputable def laws_eqIntA2_code : Code := (Try.f144.body).getD .skip
noncomputable def laws_eqIntA2_l0_sh : Sh := ⟨[(2, .one (.adr 0 0)), (3, .one (.adr 1 0)), (5, .one (.num .i64 0))], [.box [.ro I, .ro I], .box [.ro I, .ro I]]⟩
noncomputable def laws_eqIntA2_l0_ex : List (Ex × Sh) := [(.ret, ⟨[(4, .one (.ro .bool))], []⟩), (.exit 0, ⟨[], []⟩)]
noncomputable def laws_eqIntA2_l0 {R : Type} (N : Nat) (k0 : Bool → Option R) (k1 : Unit → Option R) (_ : Nat) (o4 : Int) (o5 : Int) (o6 : Int) (o7 : Int) : Option R :=
  (br (ine o4 o6)
    (k0 false)
    ((br (ine o5 o7)
      (k0 false)
      (k1 ()))))
noncomputable def laws_eqIntA2_l0_again {R : Type} (N : Nat) (ks : (j : Nat) → ((laws_eqIntA2_l0_ex.getD j (.ret, Sh.none)).2).T → Option R) (x : laws_eqIntA2_l0_sh.T) : Option R :=
  laws_eqIntA2_l0 N (fun y0 => ks 0 ((y0, ()), ())) (fun (_ : Unit) => ks 1 ((), ())) N x.2.1.1 x.2.1.2.1 x.2.2.1.1 x.2.2.1.2.1
noncomputable def laws_eqIntA2_l0_s (N : Nat) : LSum := ⟨laws_eqIntA2_l0_sh, laws_eqIntA2_l0_ex, fun x ks => laws_eqIntA2_l0_again N ks x⟩
theorem laws_eqIntA2_l0_unr (N : Nat) (R : Type) (x : laws_eqIntA2_l0_sh.T) (ks : (j : Nat) → ((laws_eqIntA2_l0_ex.getD j (.ret, Sh.none)).2).T → Option R) : laws_eqIntA2_l0_again N ks x = unrF (laws_eqIntA2_G N) tab (loopAt laws_eqIntA2_code 0) laws_eqIntA2_l0_ex ks 3 (fill laws_eqIntA2_l0_sh x) := by kernel_rfl
theorem laws_eqIntA2_l0_ok (N : Nat) : LoopOk Try.prog Try.f144.ntmps (laws_eqIntA2_l0_s N) (loopAt laws_eqIntA2_code 0) :=
  unroll_ok (l := laws_eqIntA2_l0_s N) progOk (laws_eqIntA2_gok N) (draw_ok progOk (laws_eqIntA2_gok N)) (fun R x ks r h => ⟨3, (laws_eqIntA2_l0_unr N R x ks).symm.trans h⟩) (by kernel_rfl) (by kernel_rfl)
noncomputable def laws_eqIntA2 (N : Nat) (a : (Int × Int)) (b : (Int × Int)) : Option ((Bool × Unit) × (Unit)) :=
  laws_eqIntA2_l0 N (fun x => some ((x, ()), ())) (fun (_ : Unit) => some ((true, ()), ())) N a.1 a.2 b.1 b.2
noncomputable def laws_eqIntA2_S (N : Nat) : FSum := ⟨laws_eqIntA2_ps, laws_eqIntA2_rs, fun x => laws_eqIntA2 N x.1 x.2.1⟩
theorem laws_eqIntA2_run (N : Nat) (x : argsT laws_eqIntA2_ps) : laws_eqIntA2 N x.1 x.2.1 = funF (laws_eqIntA2_G N) tab [laws_eqIntA2_l0_s N] Try.f144 laws_eqIntA2_ps laws_eqIntA2_rs x := by kernel_rfl
theorem laws_eqIntA2_pc (N : Nat) : PC Try.prog 144 (laws_eqIntA2_S N) := by
  have e : laws_eqIntA2_S N = ⟨laws_eqIntA2_ps, laws_eqIntA2_rs, funF (laws_eqIntA2_G N) tab [laws_eqIntA2_l0_s N] Try.f144 laws_eqIntA2_ps laws_eqIntA2_rs⟩ := congrArg (FSum.mk laws_eqIntA2_ps laws_eqIntA2_rs) (funext (laws_eqIntA2_run N))
  rw [e]
  exact fun_ok (c := laws_eqIntA2_code) progOk (laws_eqIntA2_gok N) (draw_ok progOk (laws_eqIntA2_gok N)) Try.call144 Try.func144 (by kernel_rfl) (lsOk_at (L := [laws_eqIntA2_l0_s N]) ⟨laws_eqIntA2_l0_ok N, trivial⟩) (by kernel_rfl) (by kernel_rfl) (by kernel_rfl) (by kernel_rfl) (by kernel_rfl)

/-! ### laws_eqIntA2S -/
abbrev laws_eqIntA2S_ps : List (PV.Mode × Ty) := [(.ro, LQII), (.ro, LQII)]
abbrev laws_eqIntA2S_rs : List (Bool × Ty) := [(true, .bool)]
noncomputable def laws_eqIntA2S_G (N : Nat) : GTab := gOf [(144, laws_eqIntA2_S N)]
theorem laws_eqIntA2S_gok (N : Nat) : GOk Try.prog (laws_eqIntA2S_G N) := gOf_ok ⟨laws_eqIntA2_pc N, trivial⟩
noncomputable def laws_eqIntA2S_code : Code := (Try.f76.body).getD .skip
noncomputable def laws_eqIntA2S_l0_sh : Sh := ⟨[(0, .one (.ro LQII)), (1, .one (.ro LQII)), (5, .one (.ro I))], []⟩
noncomputable def laws_eqIntA2S_l0_ex : List (Ex × Sh) := [(.ret, ⟨[(4, .one (.ro .bool))], []⟩), (.exit 0, ⟨[], []⟩)]
noncomputable def laws_eqIntA2S_l0 {R : Type} (N : Nat) (k0 : Bool → Option R) (k1 : Unit → Option R) : Nat → (List (Int × Int)) → (List (Int × Int)) → Int → Option R
  | 0, _, _, _ => none
  | K + 1, a1, b1, i =>
    (br (ilt i (tLen a1))
      ((chk (inb a1 i)
        (chk (inb b1 i)
        ((laws_eqIntA2 N (rdP a1 i) (rdP b1 i)).bind fun r =>
        (br (!r.1.1)
          (k0 false)
          (laws_eqIntA2S_l0 N k0 k1 K a1 b1 (IntKind.i64.wrap (i + 1))))))))
      (k1 ()))
noncomputable def laws_eqIntA2S_l0_again {R : Type} (N : Nat) (ks : (j : Nat) → ((laws_eqIntA2S_l0_ex.getD j (.ret, Sh.none)).2).T → Option R) (k : Nat) (x : laws_eqIntA2S_l0_sh.T) : Option R :=
  laws_eqIntA2S_l0 N (fun y0 => ks 0 ((y0, ()), ())) (fun (_ : Unit) => ks 1 ((), ())) k x.1.1 x.1.2.1 x.1.2.2.1
noncomputable def laws_eqIntA2S_l0_s (N : Nat) : LSum := ⟨laws_eqIntA2S_l0_sh, laws_eqIntA2S_l0_ex, fun x ks => laws_eqIntA2S_l0_again N ks N x⟩
theorem laws_eqIntA2S_l0_step (N : Nat) (R : Type) (k : Nat) (x : laws_eqIntA2S_l0_sh.T) (ks : (j : Nat) → ((laws_eqIntA2S_l0_ex.getD j (.ret, Sh.none)).2).T → Option R) : laws_eqIntA2S_l0_again N ks (k + 1) x = roundF (laws_eqIntA2S_G N) tab [] (loopAt laws_eqIntA2S_code 0) laws_eqIntA2S_l0_sh laws_eqIntA2S_l0_ex (fun y => laws_eqIntA2S_l0_again N ks k y) ks x := by kernel_rfl
theorem laws_eqIntA2S_l0_ok (N : Nat) : LoopOk Try.prog Try.f76.ntmps (laws_eqIntA2S_l0_s N) (loopAt laws_eqIntA2S_code 0) :=
  loop_ok (l := laws_eqIntA2S_l0_s N) progOk (laws_eqIntA2S_gok N) (draw_ok progOk (laws_eqIntA2S_gok N)) (fun R k x ks => laws_eqIntA2S_l0_again N ks k x) (fun _ _ _ => rfl) (fun R k x ks => laws_eqIntA2S_l0_step N R k x ks) (fun R x ks r h => ⟨N, h⟩) (lsOk_at (L := []) trivial) (by kernel_rfl) (by kernel_rfl)
noncomputable def laws_eqIntA2S (N : Nat) (a : (List (Int × Int))) (b : (List (Int × Int))) : Option ((Bool × Unit) × (Unit)) :=
  (br (ine (tLen a) (tLen b))
    (some ((false, ()), ()))
    (laws_eqIntA2S_l0 N (fun x => some ((x, ()), ())) (fun (_ : Unit) => some ((true, ()), ())) N a b 0))
noncomputable def laws_eqIntA2S_S (N : Nat) : FSum := ⟨laws_eqIntA2S_ps, laws_eqIntA2S_rs, fun x => laws_eqIntA2S N x.1 x.2.1⟩
theorem laws_eqIntA2S_run (N : Nat) (x : argsT laws_eqIntA2S_ps) : laws_eqIntA2S N x.1 x.2.1 = funF (laws_eqIntA2S_G N) tab [laws_eqIntA2S_l0_s N] Try.f76 laws_eqIntA2S_ps laws_eqIntA2S_rs x := by kernel_rfl
theorem laws_eqIntA2S_pc (N : Nat) : PC Try.prog 76 (laws_eqIntA2S_S N) := by
  have e : laws_eqIntA2S_S N = ⟨laws_eqIntA2S_ps, laws_eqIntA2S_rs, funF (laws_eqIntA2S_G N) tab [laws_eqIntA2S_l0_s N] Try.f76 laws_eqIntA2S_ps laws_eqIntA2S_rs⟩ := congrArg (FSum.mk laws_eqIntA2S_ps laws_eqIntA2S_rs) (funext (laws_eqIntA2S_run N))
  rw [e]
  exact fun_ok (c := laws_eqIntA2S_code) progOk (laws_eqIntA2S_gok N) (draw_ok progOk (laws_eqIntA2S_gok N)) Try.call76 Try.func76 (by kernel_rfl) (lsOk_at (L := [laws_eqIntA2S_l0_s N]) ⟨laws_eqIntA2S_l0_ok N, trivial⟩) (by kernel_rfl) (by kernel_rfl) (by kernel_rfl) (by kernel_rfl) (by kernel_rfl)

/-! ### laws_eqSpace -/
abbrev laws_eqSpace_ps : List (PV.Mode × Ty) := [(.ro, QLLILQII), (.ro, QLLILQII)]
abbrev laws_eqSpace_rs : List (Bool × Ty) := [(true, .bool)]
noncomputable def laws_eqSpace_G (N : Nat) : GTab := gOf [(19, laws_eqIntSS_S N), (76, laws_eqIntA2S_S N)]
theorem laws_eqSpace_gok (N : Nat) : GOk Try.prog (laws_eqSpace_G N) := gOf_ok ⟨laws_eqIntSS_pc N, laws_eqIntA2S_pc N, trivial⟩
noncomputable def laws_eqSpace_code : Code := (Try.f44.body).getD .skip
noncomputable def laws_eqSpace (N : Nat) (a : ((List (List Int)) × (List (Int × Int)))) (b : ((List (List Int)) × (List (Int × Int)))) : Option ((Bool × Unit) × (Unit)) :=
  ((laws_eqIntSS N a.1 b.1).bind fun r =>
    (br (!r.1.1)
      (some ((false, ()), ()))
      (((laws_eqIntA2S N a.2 b.2).bind fun r1 =>
        (br (!r1.1.1)
          (some ((false, ()), ()))
          (some ((true, ()), ())))))))
noncomputable def laws_eqSpace_S (N : Nat) : FSum := ⟨laws_eqSpace_ps, laws_eqSpace_rs, fun x => laws_eqSpace N x.1 x.2.1⟩
theorem laws_eqSpace_run (N : Nat) (x : argsT laws_eqSpace_ps) : laws_eqSpace N x.1 x.2.1 = funF (laws_eqSpace_G N) tab [] Try.f44 laws_eqSpace_ps laws_eqSpace_rs x := by kernel_rfl
theorem laws_eqSpace_pc (N : Nat) : PC Try.prog 44 (laws_eqSpace_S N) := by
  have e : laws_eqSpace_S N = ⟨laws_eqSpace_ps, laws_eqSpace_rs, funF (laws_eqSpace_G N) tab [] Try.f44 laws_eqSpace_ps laws_eqSpace_rs⟩ := congrArg (FSum.mk laws_eqSpace_ps laws_eqSpace_rs) (funext (laws_eqSpace_run N))
  rw [e]
  exact fun_ok (c := laws_eqSpace_code) progOk (laws_eqSpace_gok N) (draw_ok progOk (laws_eqSpace_gok N)) Try.call44 Try.func44 (by kernel_rfl) (lsOk_at (L := []) trivial) (by kernel_rfl) (by kernel_rfl) (by kernel_rfl) (by kernel_rfl) (by kernel_rfl)

/-! ### laws_eqGraph -/
abbrev laws_eqGraph_ps : List (PV.Mode × Ty) := [(.ro, QILQII), (.ro, QILQII)]
abbrev laws_eqGraph_rs : List (Bool × Ty) := [(true, .bool)]
noncomputable def laws_eqGraph_G (N : Nat) : GTab := gOf [(76, laws_eqIntA2S_S N)]
theorem laws_eqGraph_gok (N : Nat) : GOk Try.prog (laws_eqGraph_G N) := gOf_ok ⟨laws_eqIntA2S_pc N, trivial⟩
noncomputable def laws_eqGraph_code : Code := (Try.f20.body).getD .skip
noncomputable def laws_eqGraph (N : Nat) (a : (Int × (List (Int × Int)))) (b : (Int × (List (Int × Int)))) : Option ((Bool × Unit) × (Unit)) :=
  (br (ine a.1 b.1)
    (some ((false, ()), ()))
    (((laws_eqIntA2S N a.2 b.2).bind fun r =>
      (br (!r.1.1)
        (some ((false, ()), ()))
        (some ((true, ()), ()))))))
noncomputable def laws_eqGraph_S (N : Nat) : FSum := ⟨laws_eqGraph_ps, laws_eqGraph_rs, fun x => laws_eqGraph N x.1 x.2.1⟩
theorem laws_eqGraph_run (N : Nat) (x : argsT laws_eqGraph_ps) : laws_eqGraph N x.1 x.2.1 = funF (laws_eqGraph_G N) tab [] Try.f20 laws_eqGraph_ps laws_eqGraph_rs x := by kernel_rfl
theorem laws_eqGraph_pc (N : Nat) : PC Try.prog 20 (laws_eqGraph_S N) := by
  have e : laws_eqGraph_S N = ⟨laws_eqGraph_ps, laws_eqGraph_rs, funF (laws_eqGraph_G N) tab [] Try.f20 laws_eqGraph_ps laws_eqGraph_rs⟩ := congrArg (FSum.mk laws_eqGraph_ps laws_eqGraph_rs) (funext (laws_eqGraph_run N))
  rw [e]
  exact fun_ok (c := laws_eqGraph_code) progOk (laws_eqGraph_gok N) (draw_ok progOk (laws_eqGraph_gok N)) Try.call20 Try.func20 (by kernel_rfl) (lsOk_at (L := []) trivial) (by kernel_rfl) (by kernel_rfl) (by kernel_rfl) (by kernel_rfl) (by kernel_rfl)

/-! ### laws_markIntA2S -/
abbrev laws_markIntA2S_ps : List (PV.Mode × Ty) := [(.mut, LQII), (.ro, I)]
abbrev laws_markIntA2S_rs : List (Bool × Ty) := [(true, I)]
noncomputable def laws_markIntA2S_G (N : Nat) : GTab := gOf []
theorem laws_markIntA2S_gok (N : Nat) : GOk Try.prog (laws_markIntA2S_G N) := gOf_ok trivial
noncomputable def laws_markIntA2S_code : Code := (Try.f77.body).getD .skip
noncomputable def laws_markIntA2S_l0_0_sh : Sh := ⟨[(0, .one (.ref 0)), (1, .one (.ro I)), (5, .one (.ro I)), (6, .one (.num .i64 0))], [.sl 137 QII .own]⟩
noncomputable def laws_markIntA2S_l0_0_ex : List (Ex × Sh) := [(.exit 2, ⟨[(0, .one (.ref 0)), (1, .one (.ro I)), (5, .one (.ro I))], [.sl 137 QII .own]⟩)]
noncomputable def laws_markIntA2S_l0_0 {R : Type} (N : Nat) (k0 : Int → Int → (List (Int × Int)) → Option R) (_ : Nat) (kv3 : Int) (i2 : Int) (o2 : (List (Int × Int))) : Option R :=
  (chk (inb o2 i2)
    (chk (inb (tSet o2 i2 (kv3, (rdP o2 i2).2)) i2)
    (k0 (IntKind.i64.wrap ((IntKind.i64.wrap (kv3 + 1)) + 1)) i2 (tSet (tSet o2 i2 (kv3, (rdP o2 i2).2)) i2 ((rdP (tSet o2 i2 (kv3, (rdP o2 i2).2)) i2).1, (IntKind.i64.wrap (kv3 + 1)))))))
noncomputable def laws_markIntA2S_l0_0_again {R : Type} (N : Nat) (ks : (j : Nat) → ((laws_markIntA2S_l0_0_ex.getD j (.ret, Sh.none)).2).T → Option R) (x : laws_markIntA2S_l0_0_sh.T) : Option R :=
  laws_markIntA2S_l0_0 N (fun y0 y1 y2 => ks 0 (((), y0, y1, ()), (y2, ()))) N x.1.2.1 x.1.2.2.1 x.2.1
noncomputable def laws_markIntA2S_l0_0_s (N : Nat) : LSum := ⟨laws_markIntA2S_l0_0_sh, laws_markIntA2S_l0_0_ex, fun x ks => laws_markIntA2S_l0_0_again N ks x⟩
theorem laws_markIntA2S_l0_0_unr (N : Nat) (R : Type) (x : laws_markIntA2S_l0_0_sh.T) (ks : (j : Nat) → ((laws_markIntA2S_l0_0_ex.getD j (.ret, Sh.none)).2).T → Option R) : laws_markIntA2S_l0_0_again N ks x = unrF (laws_markIntA2S_G N) tab (loopAt (loopAt laws_markIntA2S_code 0) 0) laws_markIntA2S_l0_0_ex ks 3 (fill laws_markIntA2S_l0_0_sh x) := by kernel_rfl
theorem laws_markIntA2S_l0_0_ok (N : Nat) : LoopOk Try.prog Try.f77.ntmps (laws_markIntA2S_l0_0_s N) (loopAt (loopAt laws_markIntA2S_code 0) 0) :=
  unroll_ok (l := laws_markIntA2S_l0_0_s N) progOk (laws_markIntA2S_gok N) (draw_ok progOk (laws_markIntA2S_gok N)) (fun R x ks r h => ⟨3, (laws_markIntA2S_l0_0_unr N R x ks).symm.trans h⟩) (by kernel_rfl) (by kernel_rfl)
noncomputable def laws_markIntA2S_l0_sh : Sh := ⟨[(0, .one (.ref 0)), (1, .one (.ro I)), (5, .one (.ro I))], [.sl 137 QII .own]⟩
noncomputable def laws_markIntA2S_l0_ex : List (Ex × Sh) := [(.exit 0, ⟨[(0, .one (.ref 0)), (1, .one (.ro I))], [.sl 137 QII .own]⟩)]
noncomputable def laws_markIntA2S_l0 {R : Type} (N : Nat) (k0 : Int → (List (Int × Int)) → Option R) : Nat → Int → Int → (List (Int × Int)) → Option R
  | 0, _, _, _ => none
  | K + 1, kv1, i, o =>
    (br (ilt i (tLen o))
      (laws_markIntA2S_l0_0 N (fun kv2 i1 o1 => laws_markIntA2S_l0 N k0 K kv2 (IntKind.i64.wrap (i1 + 1)) o1) N kv1 i o)
      (k0 kv1 o))
noncomputable def laws_markIntA2S_l0_again {R : Type} (N : Nat) (ks : (j : Nat) → ((laws_markIntA2S_l0_ex.getD j (.ret, Sh.none)).2).T → Option R) (k : Nat) (x : laws_markIntA2S_l0_sh.T) : Option R :=
  laws_markIntA2S_l0 N (fun y0 y1 => ks 0 (((), y0, ()), (y1, ()))) k x.1.2.1 x.1.2.2.1 x.2.1
noncomputable def laws_markIntA2S_l0_s (N : Nat) : LSum := ⟨laws_markIntA2S_l0_sh, laws_markIntA2S_l0_ex, fun x ks => laws_markIntA2S_l0_again N ks N x⟩
theorem laws_markIntA2S_l0_step (N : Nat) (R : Type) (k : Nat) (x : laws_markIntA2S_l0_sh.T) (ks : (j : Nat) → ((laws_markIntA2S_l0_ex.getD j (.ret, Sh.none)).2).T → Option R) : laws_markIntA2S_l0_again N ks (k + 1) x = roundF (laws_markIntA2S_G N) tab [laws_markIntA2S_l0_0_s N] (loopAt laws_markIntA2S_code 0) laws_markIntA2S_l0_sh laws_markIntA2S_l0_ex (fun y => laws_markIntA2S_l0_again N ks k y) ks x := by kernel_rfl
theorem laws_markIntA2S_l0_ok (N : Nat) : LoopOk Try.prog Try.f77.ntmps (laws_markIntA2S_l0_s N) (loopAt laws_markIntA2S_code 0) :=
  loop_ok (l := laws_markIntA2S_l0_s N) progOk (laws_markIntA2S_gok N) (draw_ok progOk (laws_markIntA2S_gok N)) (fun R k x ks => laws_markIntA2S_l0_again N ks k x) (fun _ _ _ => rfl) (fun R k x ks => laws_markIntA2S_l0_step N R k x ks) (fun R x ks r h => ⟨N, h⟩) (lsOk_at (L := [laws_markIntA2S_l0_0_s N]) ⟨laws_markIntA2S_l0_0_ok N, trivial⟩) (by kernel_rfl) (by kernel_rfl)
noncomputable def laws_markIntA2S (N : Nat) (a : (List (Int × Int))) (kv : Int) : Option ((Int × Unit) × ((List (Int × Int)) × Unit)) :=
  laws_markIntA2S_l0 N (fun kv1 o => some ((kv1, ()), (o, ()))) N kv 0 a
noncomputable def laws_markIntA2S_S (N : Nat) : FSum := ⟨laws_markIntA2S_ps, laws_markIntA2S_rs, fun x => laws_markIntA2S N x.1 x.2.1⟩
theorem laws_markIntA2S_run (N : Nat) (x : argsT laws_markIntA2S_ps) : laws_markIntA2S N x.1 x.2.1 = funF (laws_markIntA2S_G N) tab [laws_markIntA2S_l0_s N] Try.f77 laws_markIntA2S_ps laws_markIntA2S_rs x := by kernel_rfl
theorem laws_markIntA2S_pc (N : Nat) : PC Try.prog 77 (laws_markIntA2S_S N) := by
  have e : laws_markIntA2S_S N = ⟨laws_markIntA2S_ps, laws_markIntA2S_rs, funF (laws_markIntA2S_G N) tab [laws_markIntA2S_l0_s N] Try.f77 laws_markIntA2S_ps laws_markIntA2S_rs⟩ := congrArg (FSum.mk laws_markIntA2S_ps laws_markIntA2S_rs) (funext (laws_markIntA2S_run N))
  rw [e]
  exact fun_ok (c := laws_markIntA2S_code) progOk (laws_markIntA2S_gok N) (draw_ok progOk (laws_markIntA2S_gok N)) Try.call77 Try.func77 (by kernel_rfl) (lsOk_at (L := [laws_markIntA2S_l0_s N]) ⟨laws_markIntA2S_l0_ok N, trivial⟩) (by kernel_rfl) (by kernel_rfl) (by kernel_rfl) (by kernel_rfl) (by kernel_rfl)

/-! ### laws_markGraph -/
abbrev laws_markGraph_ps : List (PV.Mode × Ty) := [(.mut, QILQII), (.ro, I)]
abbrev laws_markGraph_rs : List (Bool × Ty) := [(true, I)]
noncomputable def laws_markGraph_G (N : Nat) : GTab := gOf [(77, laws_markIntA2S_S N)]
theorem laws_markGraph_gok (N : Nat) : GOk Try.prog (laws_markGraph_G N) := gOf_ok ⟨laws_markIntA2S_pc N, trivial⟩
noncomputable def laws_markGraph_code : Code := (Try.f21.body).getD .skip
noncomputable def laws_markGraph (N : Nat) (a : (Int × (List (Int × Int)))) (kv : Int) : Option ((Int × Unit) × ((Int × (List (Int × Int))) × Unit)) :=
  ((laws_markIntA2S N a.2 kv).bind fun r =>
    some ((r.1.1, ()), ((a.1, r.2.1), ())))
noncomputable def laws_markGraph_S (N : Nat) : FSum := ⟨laws_markGraph_ps, laws_markGraph_rs, fun x => laws_markGraph N x.1 x.2.1⟩
theorem laws_markGraph_run (N : Nat) (x : argsT laws_markGraph_ps) : laws_markGraph N x.1 x.2.1 = funF (laws_markGraph_G N) tab [] Try.f21 laws_markGraph_ps laws_markGraph_rs x := by kernel_rfl
theorem laws_markGraph_pc (N : Nat) : PC Try.prog 21 (laws_markGraph_S N) := by
  have e : laws_markGraph_S N = ⟨laws_markGraph_ps, laws_markGraph_rs, funF (laws_markGraph_G N) tab [] Try.f21 laws_markGraph_ps laws_markGraph_rs⟩ := congrArg (FSum.mk laws_markGraph_ps laws_markGraph_rs) (funext (laws_markGraph_run N))
  rw [e]
  exact fun_ok (c := laws_markGraph_code) progOk (laws_markGraph_gok N) (draw_ok progOk (laws_markGraph_gok N)) Try.call21 Try.func21 (by kernel_rfl) (lsOk_at (L := []) trivial) (by kernel_rfl) (by kernel_rfl) (by kernel_rfl) (by kernel_rfl) (by kernel_rfl)

/-! ### laws_markIntS -/
abbrev laws_markIntS_ps : List (PV.Mode × Ty) := [(.mut, LI), (.ro, I)]
abbrev laws_markIntS_rs : List (Bool × Ty) := [(true, I)]
noncomputable def laws_markIntS_G (N : Nat) : GTab := gOf []
theorem laws_markIntS_gok (N : Nat) : GOk Try.prog (laws_markIntS_G N) := gOf_ok trivial
noncomputable def laws_markIntS_code : Code := (Try.f36.body).getD .skip
noncomputable def laws_markIntS_l0_sh : Sh := ⟨[(0, .one (.ref 0)), (1, .one (.ro I)), (5, .one (.ro I))], [.sl 3 I .own]⟩
noncomputable def laws_markIntS_l0_ex : List (Ex × Sh) := [(.exit 0, ⟨[(0, .one (.ref 0)), (1, .one (.ro I))], [.sl 3 I .own]⟩)]
noncomputable def laws_markIntS_l0 {R : Type} (N : Nat) (k0 : Int → (List Int) → Option R) : Nat → Int → Int → (List Int) → Option R
  | 0, _, _, _ => none
  | K + 1, kv1, i, o =>
    (br (ilt i (tLen o))
      ((chk (inb o i)
        (laws_markIntS_l0 N k0 K (IntKind.i64.wrap (kv1 + 1)) (IntKind.i64.wrap (i + 1)) (tSet o i kv1))))
      (k0 kv1 o))
noncomputable def laws_markIntS_l0_again {R : Type} (N : Nat) (ks : (j : Nat) → ((laws_markIntS_l0_ex.getD j (.ret, Sh.none)).2).T → Option R) (k : Nat) (x : laws_markIntS_l0_sh.T) : Option R :=
  laws_markIntS_l0 N (fun y0 y1 => ks 0 (((), y0, ()), (y1, ()))) k x.1.2.1 x.1.2.2.1 x.2.1
noncomputable def laws_markIntS_l0_s (N : Nat) : LSum := ⟨laws_markIntS_l0_sh, laws_markIntS_l0_ex, fun x ks => laws_markIntS_l0_again N ks N x⟩
theorem laws_markIntS_l0_step (N : Nat) (R : Type) (k : Nat) (x : laws_markIntS_l0_sh.T) (ks : (j : Nat) → ((laws_markIntS_l0_ex.getD j (.ret, Sh.none)).2).T → Option R) : laws_markIntS_l0_again N ks (k + 1) x = roundF (laws_markIntS_G N) tab [] (loopAt laws_markIntS_code 0) laws_markIntS_l0_sh laws_markIntS_l0_ex (fun y => laws_markIntS_l0_again N ks k y) ks x := by kernel_rfl
theorem laws_markIntS_l0_ok (N : Nat) : LoopOk Try.prog Try.f36.ntmps (laws_markIntS_l0_s N) (loopAt laws_markIntS_code 0) :=
  loop_ok (l := laws_markIntS_l0_s N) progOk (laws_markIntS_gok N) (draw_ok progOk (laws_markIntS_gok N)) (fun R k x ks => laws_markIntS_l0_again N ks k x) (fun _ _ _ => rfl) (fun R k x ks => laws_markIntS_l0_step N R k x ks) (fun R x ks r h => ⟨N, h⟩) (lsOk_at (L := []) trivial) (by kernel_rfl) (by kernel_rfl)
noncomputable def laws_markIntS (N : Nat) (a : (List Int)) (kv : Int) : Option ((Int × Unit) × ((List Int) × Unit)) :=
  laws_markIntS_l0 N (fun kv1 o => some ((kv1, ()), (o, ()))) N kv 0 a
noncomputable def laws_markIntS_S (N : Nat) : FSum := ⟨laws_markIntS_ps, laws_markIntS_rs, fun x => laws_markIntS N x.1 x.2.1⟩
theorem laws_markIntS_run (N : Nat) (x : argsT laws_markIntS_ps) : laws_markIntS N x.1 x.2.1 = funF (laws_markIntS_G N) tab [laws_markIntS_l0_s N] Try.f36 laws_markIntS_ps laws_markIntS_rs x := by kernel_rfl
theorem laws_markIntS_pc (N : Nat) : PC Try.prog 36 (laws_markIntS_S N) := by
  have e : laws_markIntS_S N = ⟨laws_markIntS_ps, laws_markIntS_rs, funF (laws_markIntS_G N) tab [laws_markIntS_l0_s N] Try.f36 laws_markIntS_ps laws_markIntS_rs⟩ := congrArg (FSum.mk laws_markIntS_ps laws_markIntS_rs) (funext (laws_markIntS_run N))
  rw [e]
  exact fun_ok (c := laws_markIntS_code) progOk (laws_markIntS_gok N) (draw_ok progOk (laws_markIntS_gok N)) Try.call36 Try.func36 (by kernel_rfl) (lsOk_at (L := [laws_markIntS_l0_s N]) ⟨laws_markIntS_l0_ok N, trivial⟩) (by kernel_rfl) (by kernel_rfl) (by kernel_rfl) (by kernel_rfl) (by kernel_rfl)

/-! ### laws_markIntSS -/
abbrev laws_markIntSS_ps : List (PV.Mode × Ty) := [(.mut, LLI), (.ro, I)]
abbrev laws_markIntSS_rs : List (Bool × Ty) := [(true, I)]
noncomputable def laws_markIntSS_G (N : Nat) : GTab := gOf [(36, laws_markIntS_S N)]
theorem laws_markIntSS_gok (N : Nat) : GOk Try.prog (laws_markIntSS_G N) := gOf_ok ⟨laws_markIntS_pc N, trivial⟩
noncomputable def laws_markIntSS_code : Code := (Try.f22.body).getD .skip
noncomputable def laws_markIntSS_l0_sh : Sh := ⟨[(0, .one (.ref 0)), (1, .one (.ro I)), (5, .one (.ro I))], [.sl 42 LI .deep]⟩
noncomputable def laws_markIntSS_l0_ex : List (Ex × Sh) := [(.exit 0, ⟨[(0, .one (.ref 0)), (1, .one (.ro I))], [.sl 42 LI .deep]⟩)]
noncomputable def laws_markIntSS_l0 {R : Type} (N : Nat) (k0 : Int → (List (List Int)) → Option R) : Nat → Int → Int → (List (List Int)) → Option R
  | 0, _, _, _ => none
  | K + 1, kv1, i, o =>
    (br (ilt i (tLen o))
      ((chk (inb o i)
        ((laws_markIntS N (rdL o i) kv1).bind fun r =>
        laws_markIntSS_l0 N k0 K r.1.1 (IntKind.i64.wrap (i + 1)) (tSet o i r.2.1))))
      (k0 kv1 o))
noncomputable def laws_markIntSS_l0_again {R : Type} (N : Nat) (ks : (j : Nat) → ((laws_markIntSS_l0_ex.getD j (.ret, Sh.none)).2).T → Option R) (k : Nat) (x : laws_markIntSS_l0_sh.T) : Option R :=
  laws_markIntSS_l0 N (fun y0 y1 => ks 0 (((), y0, ()), (y1, ()))) k x.1.2.1 x.1.2.2.1 x.2.1
noncomputable def laws_markIntSS_l0_s (N : Nat) : LSum := ⟨laws_markIntSS_l0_sh, laws_markIntSS_l0_ex, fun x ks => laws_markIntSS_l0_again N ks N x⟩
theorem laws_markIntSS_l0_step (N : Nat) (R : Type) (k : Nat) (x : laws_markIntSS_l0_sh.T) (ks : (j : Nat) → ((laws_markIntSS_l0_ex.getD j (.ret, Sh.none)).2).T → Option R) : laws_markIntSS_l0_again N ks (k + 1) x = roundF (laws_markIntSS_G N) tab [] (loopAt laws_markIntSS_code 0) laws_markIntSS_l0_sh laws_markIntSS_l0_ex (fun y => laws_markIntSS_l0_again N ks k y) ks x := by kernel_rfl
theorem laws_markIntSS_l0_ok (N : Nat) : LoopOk Try.prog Try.f22.ntmps (laws_markIntSS_l0_s N) (loopAt laws_markIntSS_code 0) :=
  loop_ok (l := laws_markIntSS_l0_s N) progOk (laws_markIntSS_gok N) (draw_ok progOk (laws_markIntSS_gok N)) (fun R k x ks => laws_markIntSS_l0_again N ks k x) (fun _ _ _ => rfl) (fun R k x ks => laws_markIntSS_l0_step N R k x ks) (fun R x ks r h => ⟨N, h⟩) (lsOk_at (L := []) trivial) (by kernel_rfl) (by kernel_rfl)
noncomputable def laws_markIntSS (N : Nat) (a : (List (List Int))) (kv : Int) : Option ((Int × Unit) × ((List (List Int)) × Unit)) :=
  laws_markIntSS_l0 N (fun kv1 o => some ((kv1, ()), (o, ()))) N kv 0 a
noncomputable def laws_markIntSS_S (N : Nat) : FSum := ⟨laws_markIntSS_ps, laws_markIntSS_rs, fun x => laws_markIntSS N x.1 x.2.1⟩
theorem laws_markIntSS_run (N : Nat) (x : argsT laws_markIntSS_ps) : laws_markIntSS N x.1 x.2.1 = funF (laws_markIntSS_G N) tab [laws_markIntSS_l0_s N] Try.f22 laws_markIntSS_ps laws_markIntSS_rs x := by kernel_rfl
theorem laws_markIntSS_pc (N : Nat) : PC Try.prog 22 (laws_markIntSS_S N) := by
  have e : laws_markIntSS_S N = ⟨laws_markIntSS_ps, laws_markIntSS_rs, funF (laws_markIntSS_G N) tab [laws_markIntSS_l0_s N] Try.f22 laws_markIntSS_ps laws_markIntSS_rs⟩ := congrArg (FSum.mk laws_markIntSS_ps laws_markIntSS_rs) (funext (laws_markIntSS_run N))
  rw [e]
  exact fun_ok (c := laws_markIntSS_code) progOk (laws_markIntSS_gok N) (draw_ok progOk (laws_markIntSS_gok N)) Try.call22 Try.func22 (by kernel_rfl) (lsOk_at (L := [laws_markIntSS_l0_s N]) ⟨laws_markIntSS_l0_ok N, trivial⟩) (by kernel_rfl) (by kernel_rfl) (by kernel_rfl) (by kernel_rfl) (by kernel_rfl)

/-! ### laws_markSpace -/
abbrev laws_markSpace_ps : List (PV.Mode × Ty) := [(.mut, QLLILQII), (.ro, I)]
abbrev laws_markSpace_rs : List (Bool × Ty) := [(true, I)]
noncomputable def laws_markSpace_G (N : Nat) : GTab := gOf [(22, laws_markIntSS_S N), (77, laws_markIntA2S_S N)]
theorem laws_markSpace_gok (N : Nat) : GOk Try.prog (laws_markSpace_G N) := gOf_ok ⟨laws_markIntSS_pc N, laws_markIntA2S_pc N, trivial⟩
noncomputable def laws_markSpace_code : Code := (Try.f47.body).getD .skip
noncomputable def laws_markSpace (N : Nat) (a : ((List (List Int)) × (List (Int × Int)))) (kv : Int) : Option ((Int × Unit) × (((List (List Int)) × (List (Int × Int))) × Unit)) :=
  ((laws_markIntSS N a.1 kv).bind fun r =>
    ((laws_markIntA2S N a.2 r.1.1).bind fun r1 =>
      some ((r1.1.1, ()), ((r.2.1, r1.2.1), ()))))
noncomputable def laws_markSpace_S (N : Nat) : FSum := ⟨laws_markSpace_ps, laws_markSpace_rs, fun x => laws_markSpace N x.1 x.2.1⟩
theorem laws_markSpace_run (N : Nat) (x : argsT laws_markSpace_ps) : laws_markSpace N x.1 x.2.1 = funF (laws_markSpace_G N) tab [] Try.f47 laws_markSpace_ps laws_markSpace_rs x := by kernel_rfl
theorem laws_markSpace_pc (N : Nat) : PC Try.prog 47 (laws_markSpace_S N) := by
  have e : laws_markSpace_S N = ⟨laws_markSpace_ps, laws_markSpace_rs, funF (laws_markSpace_G N) tab [] Try.f47 laws_markSpace_ps laws_markSpace_rs⟩ := congrArg (FSum.mk laws_markSpace_ps laws_markSpace_rs) (funext (laws_markSpace_run N))
  rw [e]
  exact fun_ok (c := laws_markSpace_code) progOk (laws_markSpace_gok N) (draw_ok progOk (laws_markSpace_gok N)) Try.call47 Try.func47 (by kernel_rfl) (lsOk_at (L := []) trivial) (by kernel_rfl) (by kernel_rfl) (by kernel_rfl) (by kernel_rfl) (by kernel_rfl)

/-! ### laws_heldIntS -/
abbrev laws_heldIntS_ps : List (PV.Mode × Ty) := [(.ro, LI), (.ro, I)]
abbrev laws_heldIntS_rs : List (Bool × Ty) := [(true, I)]
noncomputable def laws_heldIntS_G (N : Nat) : GTab := gOf []
theorem laws_heldIntS_gok (N : Nat) : GOk Try.prog (laws_heldIntS_G N) := gOf_ok trivial
noncomputable def laws_heldIntS_code : Code := (Try.f37.body).getD .skip
noncomputable def laws_heldIntS_l0_sh : Sh := ⟨[(0, .one (.ro LI)), (1, .one (.ro I)), (5, .one (.ro I))], []⟩
noncomputable def laws_heldIntS_l0_ex : List (Ex × Sh) := [(.ret, ⟨[(4, .one (.ro I))], []⟩), (.exit 0, ⟨[(1, .one (.ro I))], []⟩)]
noncomputable def laws_heldIntS_l0 {R : Type} (N : Nat) (k0 : Int → Option R) (k1 : Int → Option R) : Nat → (List Int) → Int → Int → Option R
  | 0, _, _, _ => none
  | K + 1, a1, kv1, i =>
    (br (ilt i (tLen a1))
      ((chk (inb a1 i)
        (br (ine (rdI a1 i) kv1)
        (k0 (-1))
        (laws_heldIntS_l0 N k0 k1 K a1 (IntKind.i64.wrap (kv1 + 1)) (IntKind.i64.wrap (i + 1))))))
      (k1 kv1))
noncomputable def laws_heldIntS_l0_again {R : Type} (N : Nat) (ks : (j : Nat) → ((laws_heldIntS_l0_ex.getD j (.ret, Sh.none)).2).T → Option R) (k : Nat) (x : laws_heldIntS_l0_sh.T) : Option R :=
  laws_heldIntS_l0 N (fun y0 => ks 0 ((y0, ()), ())) (fun y0 => ks 1 ((y0, ()), ())) k x.1.1 x.1.2.1 x.1.2.2.1
noncomputable def laws_heldIntS_l0_s (N : Nat) : LSum := ⟨laws_heldIntS_l0_sh, laws_heldIntS_l0_ex, fun x ks => laws_heldIntS_l0_again N ks N x⟩
theorem laws_heldIntS_l0_step (N : Nat) (R : Type) (k : Nat) (x : laws_heldIntS_l0_sh.T) (ks : (j : Nat) → ((laws_heldIntS_l0_ex.getD j (.ret, Sh.none)).2).T → Option R) : laws_heldIntS_l0_again N ks (k + 1) x = roundF (laws_heldIntS_G N) tab [] (loopAt laws_heldIntS_code 0) laws_heldIntS_l0_sh laws_heldIntS_l0_ex (fun y => laws_heldIntS_l0_again N ks k y) ks x := by kernel_rfl
theorem laws_heldIntS_l0_ok (N : Nat) : LoopOk Try.prog Try.f37.ntmps (laws_heldIntS_l0_s N) (loopAt laws_heldIntS_code 0) :=
  loop_ok (l := laws_heldIntS_l0_s N) progOk (laws_heldIntS_gok N) (draw_ok progOk (laws_heldIntS_gok N)) (fun R k x ks => laws_heldIntS_l0_again N ks k x) (fun _ _ _ => rfl) (fun R k x ks => laws_heldIntS_l0_step N R k x ks) (fun R x ks r h => ⟨N, h⟩) (lsOk_at (L := []) trivial) (by kernel_rfl) (by kernel_rfl)
noncomputable def laws_heldIntS (N : Nat) (a : (List Int)) (kv : Int) : Option ((Int × Unit) × (Unit)) :=
  laws_heldIntS_l0 N (fun x => some ((x, ()), ())) (fun kv1 => some ((kv1, ()), ())) N a kv 0
noncomputable def laws_heldIntS_S (N : Nat) : FSum := ⟨laws_heldIntS_ps, laws_heldIntS_rs, fun x => laws_heldIntS N x.1 x.2.1⟩
theorem laws_heldIntS_run (N : Nat) (x : argsT laws_heldIntS_ps) : laws_heldIntS N x.1 x.2.1 = funF (laws_heldIntS_G N) tab [laws_heldIntS_l0_s N] Try.f37 laws_heldIntS_ps laws_heldIntS_rs x := by kernel_rfl
theorem laws_heldIntS_pc (N : Nat) : PC Try.prog 37 (laws_heldIntS_S N) := by
  have e : laws_heldIntS_S N = ⟨laws_heldIntS_ps, laws_heldIntS_rs, funF (laws_heldIntS_G N) tab [laws_heldIntS_l0_s N] Try.f37 laws_heldIntS_ps laws_heldIntS_rs⟩ := congrArg (FSum.mk laws_heldIntS_ps laws_heldIntS_rs) (funext (laws_heldIntS_run N))
  rw [e]
  exact fun_ok (c := laws_heldIntS_code) progOk (laws_heldIntS_gok N) (draw_ok progOk (laws_heldIntS_gok N)) Try.call37 Try.func37 (by kernel_rfl) (lsOk_at (L := [laws_heldIntS_l0_s N]) ⟨laws_heldIntS_l0_ok N, trivial⟩) (by kernel_rfl) (by kernel_rfl) (by kernel_rfl) (by kernel_rfl) (by kernel_rfl)

/-! ### laws_heldIntSS -/
abbrev laws_heldIntSS_ps : List (PV.Mode × Ty) := [(.ro, LLI), (.ro, I)]
abbrev laws_heldIntSS_rs : List (Bool × Ty) := [(true, I)]
noncomputable def laws_heldIntSS_G (N : Nat) : GTab := gOf [(37, laws_heldIntS_S N)]
theorem laws_heldIntSS_gok (N : Nat) : GOk Try.prog (laws_heldIntSS_G N) := gOf_ok ⟨laws_heldIntS_pc N, trivial⟩
noncomputable def laws_heldIntSS_code : Code := (Try.f23.body).getD .skip
noncomputable def laws_heldIntSS_l0_sh : Sh := ⟨[(0, .one (.ro LLI)), (1, .one (.ro I)), (5, .one (.ro I))], []⟩
noncomputable def laws_heldIntSS_l0_ex : List (Ex × Sh) := [(.ret, ⟨[(4, .one (.ro I))], []⟩), (.exit 0, ⟨[(1, .one (.ro I))], []⟩)]
noncomputable def laws_heldIntSS_l0 {R : Type} (N : Nat) (k0 : Int → Option R) (k1 : Int → Option R) : Nat → (List (List Int)) → Int → Int → Option R
  | 0, _, _, _ => none
  | K + 1, a1, kv1, i =>
    (br (ilt i (tLen a1))
      ((chk (inb a1 i)
        ((laws_heldIntS N (rdL a1 i) kv1).bind fun r =>
        (br (ilt r.1.1 0)
          (k0 (-1))
          (laws_heldIntSS_l0 N k0 k1 K a1 r.1.1 (IntKind.i64.wrap (i + 1)))))))
      (k1 kv1))
noncomputable def laws_heldIntSS_l0_again {R : Type} (N : Nat) (ks : (j : Nat) → ((laws_heldIntSS_l0_ex.getD j (.ret, Sh.none)).2).T → Option R) (k : Nat) (x : laws_heldIntSS_l0_sh.T) : Option R :=
  laws_heldIntSS_l0 N (fun y0 => ks 0 ((y0, ()), ())) (fun y0 => ks 1 ((y0, ()), ())) k x.1.1 x.1.2.1 x.1.2.2.1
noncomputable def laws_heldIntSS_l0_s (N : Nat) : LSum := ⟨laws_heldIntSS_l0_sh, laws_heldIntSS_l0_ex, fun x ks => laws_heldIntSS_l0_again N ks N x⟩
theorem laws_heldIntSS_l0_step (N : Nat) (R : Type) (k : Nat) (x : laws_heldIntSS_l0_sh.T) (ks : (j : Nat) → ((laws_heldIntSS_l0_ex.getD j (.ret, Sh.none)).2).T → Option R) : laws_heldIntSS_l0_again N ks (k + 1) x = roundF (laws_heldIntSS_G N) tab [] (loopAt laws_heldIntSS_code 0) laws_heldIntSS_l0_sh laws_heldIntSS_l0_ex (fun y => laws_heldIntSS_l0_again N ks k y) ks x := by kernel_rfl
theorem laws_heldIntSS_l0_ok (N : Nat) : LoopOk Try.prog Try.f23.ntmps (laws_heldIntSS_l0_s N) (loopAt laws_heldIntSS_code 0) :=
  loop_ok (l := laws_heldIntSS_l0_s N) progOk (laws_heldIntSS_gok N) (draw_ok progOk (laws_heldIntSS_gok N)) (fun R k x ks => laws_heldIntSS_l0_again N ks k x) (fun _ _ _ => rfl) (fun R k x ks => laws_heldIntSS_l0_step N R k x ks) (fun R x ks r h => ⟨N, h⟩) (lsOk_at (L := []) trivial) (by kernel_rfl) (by kernel_rfl)
noncomputable def laws_heldIntSS (N : Nat) (a : (List (List Int))) (kv : Int) : Option ((Int × Unit) × (Unit)) :=
  laws_heldIntSS_l0 N (fun x => some ((x, ()), ())) (fun kv1 => some ((kv1, ()), ())) N a kv 0
noncomputable def laws_heldIntSS_S (N : Nat) : FSum := ⟨laws_heldIntSS_ps, laws_heldIntSS_rs, fun x => laws_heldIntSS N x.1 x.2.1⟩
theorem laws_heldIntSS_run (N : Nat) (x : argsT laws_heldIntSS_ps) : laws_heldIntSS N x.1 x.2.1 = funF (laws_heldIntSS_G N) tab [laws_heldIntSS_l0_s N] Try.f23 laws_heldIntSS_ps laws_heldIntSS_rs x := by kernel_rfl
theorem laws_heldIntSS_pc (N : Nat) : PC Try.prog 23 (laws_heldIntSS_S N) := by
  have e : laws_heldIntSS_S N = ⟨laws_heldIntSS_ps, laws_heldIntSS_rs, funF (laws_heldIntSS_G N) tab [laws_heldIntSS_l0_s N] Try.f23 laws_heldIntSS_ps laws_heldIntSS_rs⟩ := congrArg (FSum.mk laws_heldIntSS_ps laws_heldIntSS_rs) (funext (laws_heldIntSS_run N))
  rw [e]
  exact fun_ok (c := laws_heldIntSS_code) progOk (laws_heldIntSS_gok N) (draw_ok progOk (laws_heldIntSS_gok N)) Try.call23 Try.func23 (by kernel_rfl) (lsOk_at (L := [laws_heldIntSS_l0_s N]) ⟨laws_heldIntSS_l0_ok N, trivial⟩) (by kernel_rfl) (by kernel_rfl) (by kernel_rfl) (by kernel_rfl) (by kernel_rfl)

/-! ### laws_heldIntA2S -/
abbrev laws_heldIntA2S_ps : List (PV.Mode × Ty) := [(.ro, LQII), (.ro, I)]
abbrev laws_heldIntA2S_rs : List (Bool × Ty) := [(true, I)]
noncomputable def laws_heldIntA2S_G (N : Nat) : GTab := gOf []
theorem laws_heldIntA2S_gok (N : Nat) : GOk Try.prog (laws_heldIntA2S_G N) := gOf_ok trivial
noncomputable def laws_heldIntA2S_code : Code := (Try.f109.body).getD .skip
noncomputable def laws_heldIntA2S_l0_0_sh : Sh := ⟨[(0, .one (.ro LQII)), (1, .one (.ro I)), (5, .one (.ro I)), (6, .one (.num .i64 0))], []⟩
noncomputable def laws_heldIntA2S_l0_0_ex : List (Ex × Sh) := [(.ret, ⟨[(4, .one (.ro I))], []⟩), (.exit 2, ⟨[(0, .one (.ro LQII)), (1, .one (.ro I)), (5, .one (.ro I))], []⟩)]
noncomputable def laws_heldIntA2S_l0_0 {R : Type} (N : Nat) (k0 : Int → Option R) (k1 : (List (Int × Int)) → Int → Int → Option R) (_ : Nat) (a3 : (List (Int × Int))) (kv3 : Int) (i2 : Int) : Option R :=
  (chk (inb a3 i2)
    (br (ine ((rdP a3 i2).1) kv3)
    (k0 (-1))
    ((chk (inb a3 i2)
      (br (ine ((rdP a3 i2).2) (IntKind.i64.wrap (kv3 + 1)))
      (k0 (-1))
      (k1 a3 (IntKind.i64.wrap ((IntKind.i64.wrap (kv3 + 1)) + 1)) i2))))))
noncomputable def laws_heldIntA2S_l0_0_again {R : Type} (N : Nat) (ks : (j : Nat) → ((laws_heldIntA2S_l0_0_ex.getD j (.ret, Sh.none)).2).T → Option R) (x : laws_heldIntA2S_l0_0_sh.T) : Option R :=
  laws_heldIntA2S_l0_0 N (fun y0 => ks 0 ((y0, ()), ())) (fun y0 y1 y2 => ks 1 ((y0, y1, y2, ()), ())) N x.1.1 x.1.2.1 x.1.2.2.1
noncomputable def laws_heldIntA2S_l0_0_s (N : Nat) : LSum := ⟨laws_heldIntA2S_l0_0_sh, laws_heldIntA2S_l0_0_ex, fun x ks => laws_heldIntA2S_l0_0_again N ks x⟩
theorem laws_heldIntA2S_l0_0_unr (N : Nat) (R : Type) (x : laws_heldIntA2S_l0_0_sh.T) (ks : (j : Nat) → ((laws_heldIntA2S_l0_0_ex.getD j (.ret, Sh.none)).2).T → Option R) : laws_heldIntA2S_l0_0_again N ks x = unrF (laws_heldIntA2S_G N) tab (loopAt (loopAt laws_heldIntA2S_code 0) 0) laws_heldIntA2S_l0_0_ex ks 3 (fill laws_heldIntA2S_l0_0_sh x) := by kernel_rfl
theorem laws_heldIntA2S_l0_0_ok (N : Nat) : LoopOk Try.prog Try.f109.ntmps (laws_heldIntA2S_l0_0_s N) (loopAt (loopAt laws_heldIntA2S_code 0) 0) :=
  unroll_ok (l := laws_heldIntA2S_l0_0_s N) progOk (laws_heldIntA2S_gok N) (draw_ok progOk (laws_heldIntA2S_gok N)) (fun R x ks r h => ⟨3, (laws_heldIntA2S_l0_0_unr N R x ks).symm.trans h⟩) (by kernel_rfl) (by kernel_rfl)
noncomputable def laws_heldIntA2S_l0_sh : Sh := ⟨[(0, .one (.ro LQII)), (1, .one (.ro I)), (5, .one (.ro I))], []⟩
noncomputable def laws_heldIntA2S_l0_ex : List (Ex × Sh) := [(.ret, ⟨[(4, .one (.ro I))], []⟩), (.exit 0, ⟨[(1, .one (.ro I))], []⟩)]
noncomputable def laws_heldIntA2S_l0 {R : Type} (N : Nat) (k0 : Int → Option R) (k1 : Int → Option R) : Nat → (List (Int × Int)) → Int → Int → Option R
  | 0, _, _, _ => none
  | K + 1, a1, kv1, i =>
    (br (ilt i (tLen a1))
      (laws_heldIntA2S_l0_0 N (fun x => k0 x) (fun a2 kv2 i1 => laws_heldIntA2S_l0 N k0 k1 K a2 kv2 (IntKind.i64.wrap (i1 + 1))) N a1 kv1 i)
      (k1 kv1))
noncomputable def laws_heldIntA2S_l0_again {R : Type} (N : Nat) (ks : (j : Nat) → ((laws_heldIntA2S_l0_ex.getD j (.ret, Sh.none)).2).T → Option R) (k : Nat) (x : laws_heldIntA2S_l0_sh.T) : Option R :=
  laws_heldIntA2S_l0 N (fun y0 => ks 0 ((y0, ()), ())) (fun y0 => ks 1 ((y0, ()), ())) k x.1.1 x.1.2.1 x.1.2.2.1
noncomputable def laws_heldIntA2S_l0_s (N : Nat) : LSum := ⟨laws_heldIntA2S_l0_sh, laws_heldIntA2S_l0_ex, fun x ks => laws_heldIntA2S_l0_again N ks N x⟩
theorem laws_heldIntA2S_l0_step (N : Nat) (R : Type) (k : Nat) (x : laws_heldIntA2S_l0_sh.T) (ks : (j : Nat) → ((laws_heldIntA2S_l0_ex.getD j (.ret, Sh.none)).2).T → Option R) : laws_heldIntA2S_l0_again N ks (k + 1) x = roundF (laws_heldIntA2S_G N) tab [laws_heldIntA2S_l0_0_s N] (loopAt laws_heldIntA2S_code 0) laws_heldIntA2S_l0_sh laws_heldIntA2S_l0_ex (fun y => laws_heldIntA2S_l0_again N ks k y) ks x := by kernel_rfl
theorem laws_heldIntA2S_l0_ok (N : Nat) : LoopOk Try.prog Try.f109.ntmps (laws_heldIntA2S_l0_s N) (loopAt laws_heldIntA2S_code 0) :=
  loop_ok (l := laws_heldIntA2S_l0_s N) progOk (laws_heldIntA2S_gok N) (draw_ok progOk (laws_heldIntA2S_gok N)) (fun R k x ks => laws_heldIntA2S_l0_again N ks k x) (fun _ _ _ => rfl) (fun R k x ks => laws_heldIntA2S_l0_step N R k x ks) (fun R x ks r h => ⟨N, h⟩) (lsOk_at (L := [laws_heldIntA2S_l0_0_s N]) ⟨laws_heldIntA2S_l0_0_ok N, trivial⟩) (by kernel_rfl) (by kernel_rfl)
noncomputable def laws_heldIntA2S (N : Nat) (a : (List (Int × Int))) (kv : Int) : Option ((Int × Unit) × (Unit)) :=
  laws_heldIntA2S_l0 N (fun x => some ((x, ()), ())) (fun kv1 => some ((kv1, ()), ())) N a kv 0
noncomputable def laws_heldIntA2S_S (N : Nat) : FSum := ⟨laws_heldIntA2S_ps, laws_heldIntA2S_rs, fun x => laws_heldIntA2S N x.1 x.2.1⟩
theorem laws_heldIntA2S_run (N : Nat) (x : argsT laws_heldIntA2S_ps) : laws_heldIntA2S N x.1 x.2.1 = funF (laws_heldIntA2S_G N) tab [laws_heldIntA2S_l0_s N] Try.f109 laws_heldIntA2S_ps laws_heldIntA2S_rs x := by kernel_rfl
theorem laws_heldIntA2S_pc (N : Nat) : PC Try.prog 109 (laws_heldIntA2S_S N) := by
  have e : laws_heldIntA2S_S N = ⟨laws_heldIntA2S_ps, laws_heldIntA2S_rs, funF (laws_heldIntA2S_G N) tab [laws_heldIntA2S_l0_s N] Try.f109 laws_heldIntA2S_ps laws_heldIntA2S_rs⟩ := congrArg (FSum.mk laws_heldIntA2S_ps laws_heldIntA2S_rs) (funext (laws_heldIntA2S_run N))
  rw [e]
  exact fun_ok (c := laws_heldIntA2S_code) progOk (laws_heldIntA2S_gok N) (draw_ok progOk (laws_heldIntA2S_gok N)) Try.call109 Try.func109 (by kernel_rfl) (lsOk_at (L := [laws_heldIntA2S_l0_s N]) ⟨laws_heldIntA2S_l0_ok N, trivial⟩) (by kernel_rfl) (by kernel_rfl) (by kernel_rfl) (by kernel_rfl) (by kernel_rfl)

/-! ### laws_heldSpace -/
abbrev laws_heldSpace_ps : List (PV.Mode × Ty) := [(.ro, QLLILQII), (.ro, I)]
abbrev laws_heldSpace_rs : List (Bool × Ty) := [(true, I)]
noncomputable def laws_heldSpace_G (N : Nat) : GTab := gOf [(23, laws_heldIntSS_S N), (109, laws_heldIntA2S_S N)]
theorem laws_heldSpace_gok (N : Nat) : GOk Try.prog (laws_heldSpace_G N) := gOf_ok ⟨laws_heldIntSS_pc N, laws_heldIntA2S_pc N, trivial⟩
noncomputable def laws_heldSpace_code : Code := (Try.f48.body).getD .skip
noncomputable def laws_heldSpace (N : Nat) (a : ((List (List Int)) × (List (Int × Int)))) (kv : Int) : Option ((Int × Unit) × (Unit)) :=
  ((laws_heldIntSS N a.1 kv).bind fun r =>
    (br (ilt r.1.1 0)
      (some (((-1), ()), ()))
      (((laws_heldIntA2S N a.2 r.1.1).bind fun r1 =>
        (br (ilt r1.1.1 0)
          (some (((-1), ()), ()))
          (some ((r1.1.1, ()), ())))))))
noncomputable def laws_heldSpace_S (N : Nat) : FSum := ⟨laws_heldSpace_ps, laws_heldSpace_rs, fun x => laws_heldSpace N x.1 x.2.1⟩
theorem laws_heldSpace_run (N : Nat) (x : argsT laws_heldSpace_ps) : laws_heldSpace N x.1 x.2.1 = funF (laws_heldSpace_G N) tab [] Try.f48 laws_heldSpace_ps laws_heldSpace_rs x := by kernel_rfl
theorem laws_heldSpace_pc (N : Nat) : PC Try.prog 48 (laws_heldSpace_S N) := by
  have e : laws_heldSpace_S N = ⟨laws_heldSpace_ps, laws_heldSpace_rs, funF (laws_heldSpace_G N) tab [] Try.f48 laws_heldSpace_ps laws_heldSpace_rs⟩ := congrArg (FSum.mk laws_heldSpace_ps laws_heldSpace_rs) (funext (laws_heldSpace_run N))
  rw [e]
  exact fun_ok (c := laws_heldSpace_code) progOk (laws_heldSpace_gok N) (draw_ok progOk (laws_heldSpace_gok N)) Try.call48 Try.func48 (by kernel_rfl) (lsOk_at (L := []) trivial) (by kernel_rfl) (by kernel_rfl) (by kernel_rfl) (by kernel_rfl) (by kernel_rfl)
end Go.Proofs.Ytfbkjgeaoafejaa
