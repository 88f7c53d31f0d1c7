/- Functions of the program as functions on data. -/
import Derived.Test.YtgelipdkheahdaaFlipDistanceFb
set_option linter.all false
namespace Go.Proofs.Ytgelipdkheahdaa
open Go Go.PV
/-! ### slices_pdqsortCmpFunc_LI -/
abbrev slices_pdqsortCmpFunc_LI_ps : List (PV.Mode × Ty) := [(.ro, LLI), (.ro, I), (.ro, I), (.ro, I), (.ro, GLILII)]
abbrev slices_pdqsortCmpFunc_LI_rs : List (Bool × Ty) := []
noncomputable def slices_pdqsortCmpFunc_LI_G (N : Nat) : GTab := gOf [(154, slices_insertionSortCmpFunc_LI_S N), (157, slices_choosePivotCmpFunc_LI_S N), (159, slices_partialInsertionSortCmpFunc_LI_S N)]
theorem slices_pdqsortCmpFunc_LI_gok (N : Nat) : GOk Try.prog (slices_pdqsortCmpFunc_LI_G N) := gOf_ok ⟨slices_insertionSortCmpFunc_LI_pc N, slices_choosePivotCmpFunc_LI_pc N, slices_partialInsertionSortCmpFunc_LI_pc N, trivial⟩
noncomputable def slices_pdqsortCmpFunc_LI_code : Code := (Try.f126.body).getD .skip
noncomputable def slices_pdqsortCmpFunc_LI_l0_sh : Sh := ⟨[(0, .one (.ro LLI)), (1, .one (.ro I)), (2, .one (.ro I)), (3, .one (.ro I)), (4, .one (.ro GLILII)), (10, .one (.ro .bool)), (11, .one (.ro .bool))], []⟩
noncomputable def slices_pdqsortCmpFunc_LI_l0_ex : List (Ex × Sh) := [(.ret, ⟨[], []⟩)]
noncomputable def slices_pdqsortCmpFunc_LI_l0 {R : Type} (N : Nat) (k0 : Unit → Option R) : Nat → (List (List Int)) → Int → Int → Int → ((List Int) → (List Int) → Option Int) → Bool → Bool → Option R
  | 0, _, _, _, _, _, _, _ => none
  | K + 1, x, x1, x2, x3, x4, x5, x6 =>
    (br (ile (IntKind.i64.wrap (x2 - x1)) 12)
      (((slices_insertionSortCmpFunc_LI N x x1 x2 x4).bind fun r =>
        k0 ()))
      ((br (ieq x3 0)
        (none)
        ((br (!x5)
          (none)
          (((slices_choosePivotCmpFunc_LI N x x1 x2 x4).bind fun r1 =>
            (br (ieq r1.1.2.1 2)
              (none)
              ((br x5
                ((br x6
                  ((br (ieq r1.1.2.1 1)
                    (((slices_partialInsertionSortCmpFunc_LI N x x1 x2 x4).bind fun r2 =>
                      (br r2.1.1
                        (k0 ())
                        ((br (ilt 0 x1)
                          ((chk (inb x (IntKind.i64.wrap (x1 - 1)))
                            (chk (inb x r1.1.1)
                            ((x4 (rdL x (IntKind.i64.wrap (x1 - 1))) (rdL x r1.1.1)).bind fun v =>
                            (br (!(ilt v 0))
                            (none)
                            (none))))))
                          (none))))))
                    ((br (ilt 0 x1)
                      ((chk (inb x (IntKind.i64.wrap (x1 - 1)))
                        (chk (inb x r1.1.1)
                        ((x4 (rdL x (IntKind.i64.wrap (x1 - 1))) (rdL x r1.1.1)).bind fun v1 =>
                        (br (!(ilt v1 0))
                        (none)
                        (none))))))
                      (none)))))
                  ((br (ilt 0 x1)
                    ((chk (inb x (IntKind.i64.wrap (x1 - 1)))
                      (chk (inb x r1.1.1)
                      ((x4 (rdL x (IntKind.i64.wrap (x1 - 1))) (rdL x r1.1.1)).bind fun v2 =>
                      (br (!(ilt v2 0))
                      (none)
                      (none))))))
                    (none)))))
                ((br (ilt 0 x1)
                  ((chk (inb x (IntKind.i64.wrap (x1 - 1)))
                    (chk (inb x r1.1.1)
                    ((x4 (rdL x (IntKind.i64.wrap (x1 - 1))) (rdL x r1.1.1)).bind fun v3 =>
                    (br (!(ilt v3 0))
                    (none)
                    (none))))))
                  (none)))))))))))))
noncomputable def slices_pdqsortCmpFunc_LI_l0_again {R : Type} (N : Nat) (ks : (j : Nat) → ((slices_pdqsortCmpFunc_LI_l0_ex.getD j (.ret, Sh.none)).2).T → Option R) (k : Nat) (x : slices_pdqsortCmpFunc_LI_l0_sh.T) : Option R :=
  slices_pdqsortCmpFunc_LI_l0 N (fun (_ : Unit) => ks 0 ((), ())) k x.1.1 x.1.2.1 x.1.2.2.1 x.1.2.2.2.1 x.1.2.2.2.2.1 x.1.2.2.2.2.2.1 x.1.2.2.2.2.2.2.1
noncomputable def slices_pdqsortCmpFunc_LI_l0_s (N : Nat) : LSum := ⟨slices_pdqsortCmpFunc_LI_l0_sh, slices_pdqsortCmpFunc_LI_l0_ex, fun x ks => slices_pdqsortCmpFunc_LI_l0_again N ks N x⟩
theorem slices_pdqsortCmpFunc_LI_l0_step (N : Nat) (R : Type) (k : Nat) (x : slices_pdqsortCmpFunc_LI_l0_sh.T) (ks : (j : Nat) → ((slices_pdqsortCmpFunc_LI_l0_ex.getD j (.ret, Sh.none)).2).T → Option R) : slices_pdqsortCmpFunc_LI_l0_again N ks (k + 1) x = roundF (slices_pdqsortCmpFunc_LI_G N) tab [] (loopAt slices_pdqsortCmpFunc_LI_code 0) slices_pdqsortCmpFunc_LI_l0_sh slices_pdqsortCmpFunc_LI_l0_ex (fun y => slices_pdqsortCmpFunc_LI_l0_again N ks k y) ks x := by kernel_rfl
theorem slices_pdqsortCmpFunc_LI_l0_ok (N : Nat) : LoopOk Try.prog Try.f126.ntmps (slices_pdqsortCmpFunc_LI_l0_s N) (loopAt slices_pdqsortCmpFunc_LI_code 0) :=
  loop_ok (l := slices_pdqsortCmpFunc_LI_l0_s N) progOk (slices_pdqsortCmpFunc_LI_gok N) (draw_ok progOk (slices_pdqsortCmpFunc_LI_gok N)) (fun R k x ks => slices_pdqsortCmpFunc_LI_l0_again N ks k x) (fun _ _ _ => rfl) (fun R k x ks => slices_pdqsortCmpFunc_LI_l0_step N R k x ks) (fun R x ks r h => ⟨N, h⟩) (lsOk_at (L := []) trivial) (by kernel_rfl) (by kernel_rfl)
noncomputable def slices_pdqsortCmpFunc_LI (N : Nat) (c : (List (List Int))) (c1 : Int) (c2 : Int) (c3 : Int) (c4 : ((List Int) → (List Int) → Option Int)) : Option ((Unit) × (Unit)) :=
  slices_pdqsortCmpFunc_LI_l0 N (fun (_ : Unit) => some ((), ())) N c c1 c2 c3 c4 true true
noncomputable def slices_pdqsortCmpFunc_LI_S (N : Nat) : FSum := ⟨slices_pdqsortCmpFunc_LI_ps, slices_pdqsortCmpFunc_LI_rs, fun x => slices_pdqsortCmpFunc_LI N x.1 x.2.1 x.2.2.1 x.2.2.2.1 x.2.2.2.2.1⟩
theorem slices_pdqsortCmpFunc_LI_run (N : Nat) (x : argsT slices_pdqsortCmpFunc_LI_ps) : slices_pdqsortCmpFunc_LI N x.1 x.2.1 x.2.2.1 x.2.2.2.1 x.2.2.2.2.1 = funF (slices_pdqsortCmpFunc_LI_G N) tab [slices_pdqsortCmpFunc_LI_l0_s N] Try.f126 slices_pdqsortCmpFunc_LI_ps slices_pdqsortCmpFunc_LI_rs x := by kernel_rfl
theorem slices_pdqsortCmpFunc_LI_pc (N : Nat) : PC Try.prog 126 (slices_pdqsortCmpFunc_LI_S N) := by
  have e : slices_pdqsortCmpFunc_LI_S N = ⟨slices_pdqsortCmpFunc_LI_ps, slices_pdqsortCmpFunc_LI_rs, funF (slices_pdqsortCmpFunc_LI_G N) tab [slices_pdqsortCmpFunc_LI_l0_s N] Try.f126 slices_pdqsortCmpFunc_LI_ps slices_pdqsortCmpFunc_LI_rs⟩ := congrArg (FSum.mk slices_pdqsortCmpFunc_LI_ps slices_pdqsortCmpFunc_LI_rs) (funext (slices_pdqsortCmpFunc_LI_run N))
  rw [e]
  exact fun_ok (c := slices_pdqsortCmpFunc_LI_code) progOk (slices_pdqsortCmpFunc_LI_gok N) (draw_ok progOk (slices_pdqsortCmpFunc_LI_gok N)) Try.call126 Try.func126 (by kernel_rfl) (lsOk_at (L := [slices_pdqsortCmpFunc_LI_l0_s N]) ⟨slices_pdqsortCmpFunc_LI_l0_ok N, trivial⟩) (by kernel_rfl) (by kernel_rfl) (by kernel_rfl) (by kernel_rfl) (by kernel_rfl)

/-! ### slices_SortFunc_LLI_LI -/
abbrev slices_SortFunc_LLI_LI_ps : List (PV.Mode × Ty) := [(.ro, LLI), (.ro, GLILII)]
abbrev slices_SortFunc_LLI_LI_rs : List (Bool × Ty) := []
noncomputable def slices_SortFunc_LLI_LI_G (N : Nat) : GTab := gOf [(127, math_bits_Len_S N), (126, slices_pdqsortCmpFunc_LI_S N)]
theorem slices_SortFunc_LLI_LI_gok (N : Nat) : GOk Try.prog (slices_SortFunc_LLI_LI_G N) := gOf_ok ⟨math_bits_Len_pc N, slices_pdqsortCmpFunc_LI_pc N, trivial⟩
noncomputable def slices_SortFunc_LLI_LI_code : Code := (Try.f80.body).getD .skip
noncomputable def slices_SortFunc_LLI_LI (N : Nat) (x : (List (List Int))) (cmp : ((List Int) → (List Int) → Option Int)) : Option ((Unit) × (Unit)) :=
  ((math_bits_Len N (IntKind.u64.wrap ((tLen x)))).bind fun r =>
    ((slices_pdqsortCmpFunc_LI N x 0 (tLen x) r.1.1 cmp).bind fun r1 =>
      some ((), ())))
noncomputable def slices_SortFunc_LLI_LI_S (N : Nat) : FSum := ⟨slices_SortFunc_LLI_LI_ps, slices_SortFunc_LLI_LI_rs, fun x => slices_SortFunc_LLI_LI N x.1 x.2.1⟩
theorem slices_SortFunc_LLI_LI_run (N : Nat) (x : argsT slices_SortFunc_LLI_LI_ps) : slices_SortFunc_LLI_LI N x.1 x.2.1 = funF (slices_SortFunc_LLI_LI_G N) tab [] Try.f80 slices_SortFunc_LLI_LI_ps slices_SortFunc_LLI_LI_rs x := by kernel_rfl
theorem slices_SortFunc_LLI_LI_pc (N : Nat) : PC Try.prog 80 (slices_SortFunc_LLI_LI_S N) := by
  have e : slices_SortFunc_LLI_LI_S N = ⟨slices_SortFunc_LLI_LI_ps, slices_SortFunc_LLI_LI_rs, funF (slices_SortFunc_LLI_LI_G N) tab [] Try.f80 slices_SortFunc_LLI_LI_ps slices_SortFunc_LLI_LI_rs⟩ := congrArg (FSum.mk slices_SortFunc_LLI_LI_ps slices_SortFunc_LLI_LI_rs) (funext (slices_SortFunc_LLI_LI_run N))
  rw [e]
  exact fun_ok (c := slices_SortFunc_LLI_LI_code) progOk (slices_SortFunc_LLI_LI_gok N) (draw_ok progOk (slices_SortFunc_LLI_LI_gok N)) Try.call80 Try.func80 (by kernel_rfl) (lsOk_at (L := []) trivial) (by kernel_rfl) (by kernel_rfl) (by kernel_rfl) (by kernel_rfl) (by kernel_rfl)

/-! ### cmp_isNaN_int -/
abbrev cmp_isNaN_int_ps : List (PV.Mode × Ty) := [(.ro, I)]
abbrev cmp_isNaN_int_rs : List (Bool × Ty) := [(true, .bool)]
noncomputable def cmp_isNaN_int_G (N : Nat) : GTab := gOf []
theorem cmp_isNaN_int_gok (N : Nat) : GOk Try.prog (cmp_isNaN_int_G N) := gOf_ok trivial
noncomputable def cmp_isNaN_int_code : Code := (Try.f164.body).getD .skip
noncomputable def cmp_isNaN_int (N : Nat) (x : Int) : Option ((Bool × Unit) × (Unit)) :=
  some (((ine x x), ()), ())
noncomputable def cmp_isNaN_int_S (N : Nat) : FSum := ⟨cmp_isNaN_int_ps, cmp_isNaN_int_rs, fun x => cmp_isNaN_int N x.1⟩
theorem cmp_isNaN_int_run (N : Nat) (x : argsT cmp_isNaN_int_ps) : cmp_isNaN_int N x.1 = funF (cmp_isNaN_int_G N) tab [] Try.f164 cmp_isNaN_int_ps cmp_isNaN_int_rs x := by kernel_rfl
theorem cmp_isNaN_int_pc (N : Nat) : PC Try.prog 164 (cmp_isNaN_int_S N) := by
  have e : cmp_isNaN_int_S N = ⟨cmp_isNaN_int_ps, cmp_isNaN_int_rs, funF (cmp_isNaN_int_G N) tab [] Try.f164 cmp_isNaN_int_ps cmp_isNaN_int_rs⟩ := congrArg (FSum.mk cmp_isNaN_int_ps cmp_isNaN_int_rs) (funext (cmp_isNaN_int_run N))
  rw [e]
  exact fun_ok (c := cmp_isNaN_int_code) progOk (cmp_isNaN_int_gok N) (draw_ok progOk (cmp_isNaN_int_gok N)) Try.call164 Try.func164 (by kernel_rfl) (lsOk_at (L := []) trivial) (by kernel_rfl) (by kernel_rfl) (by kernel_rfl) (by kernel_rfl) (by kernel_rfl)

/-! ### cmp_Compare_int -/
abbrev cmp_Compare_int_ps : List (PV.Mode × Ty) := [(.ro, I), (.ro, I)]
abbrev cmp_Compare_int_rs : List (Bool × Ty) := [(true, I)]
noncomputable def cmp_Compare_int_G (N : Nat) : GTab := gOf [(164, cmp_isNaN_int_S N)]
theorem cmp_Compare_int_gok (N : Nat) : GOk Try.prog (cmp_Compare_int_G N) := gOf_ok ⟨cmp_isNaN_int_pc N, trivial⟩
noncomputable def cmp_Compare_int_code : Code := (Try.f128.body).getD .skip
noncomputable def cmp_Compare_int (N : Nat) (x : Int) (y : Int) : Option ((Int × Unit) × (Unit)) :=
  ((cmp_isNaN_int N x).bind fun r =>
    ((cmp_isNaN_int N y).bind fun r1 =>
      (br r.1.1
        ((br r1.1.1
          (some ((0, ()), ()))
          (some (((-1), ()), ()))))
        ((br r1.1.1
          (some ((1, ()), ()))
          ((br (ilt x y)
            (some (((-1), ()), ()))
            ((br (ilt y x)
              (some ((1, ()), ()))
              (some ((0, ()), ())))))))))))
noncomputable def cmp_Compare_int_S (N : Nat) : FSum := ⟨cmp_Compare_int_ps, cmp_Compare_int_rs, fun x => cmp_Compare_int N x.1 x.2.1⟩
theorem cmp_Compare_int_run (N : Nat) (x : argsT cmp_Compare_int_ps) : cmp_Compare_int N x.1 x.2.1 = funF (cmp_Compare_int_G N) tab [] Try.f128 cmp_Compare_int_ps cmp_Compare_int_rs x := by kernel_rfl
theorem cmp_Compare_int_pc (N : Nat) : PC Try.prog 128 (cmp_Compare_int_S N) := by
  have e : cmp_Compare_int_S N = ⟨cmp_Compare_int_ps, cmp_Compare_int_rs, funF (cmp_Compare_int_G N) tab [] Try.f128 cmp_Compare_int_ps cmp_Compare_int_rs⟩ := congrArg (FSum.mk cmp_Compare_int_ps cmp_Compare_int_rs) (funext (cmp_Compare_int_run N))
  rw [e]
  exact fun_ok (c := cmp_Compare_int_code) progOk (cmp_Compare_int_gok N) (draw_ok progOk (cmp_Compare_int_gok N)) Try.call128 Try.func128 (by kernel_rfl) (lsOk_at (L := []) trivial) (by kernel_rfl) (by kernel_rfl) (by kernel_rfl) (by kernel_rfl) (by kernel_rfl)

/-! ### slices_Compare_LI_int -/
abbrev slices_Compare_LI_int_ps : List (PV.Mode × Ty) := [(.ro, LI), (.ro, LI)]
abbrev slices_Compare_LI_int_rs : List (Bool × Ty) := [(true, I)]
noncomputable def slices_Compare_LI_int_G (N : Nat) : GTab := gOf [(128, cmp_Compare_int_S N)]
theorem slices_Compare_LI_int_gok (N : Nat) : GOk Try.prog (slices_Compare_LI_int_G N) := gOf_ok ⟨cmp_Compare_int_pc N, trivial⟩
noncomputable def slices_Compare_LI_int_code : Code := (Try.f81.body).getD .skip
noncomputable def slices_Compare_LI_int_l0_sh : Sh := ⟨[(0, .one (.ro LI)), (1, .one (.ro LI)), (9, .one (.ro LI)), (10, .one (.ro I)), (11, .one (.ro I))], []⟩
noncomputable def slices_Compare_LI_int_l0_ex : List (Ex × Sh) := [(.ret, ⟨[(4, .one (.ro I))], []⟩), (.exit 0, ⟨[(0, .one (.ro LI)), (1, .one (.ro LI))], []⟩)]
noncomputable def slices_Compare_LI_int_l0 {R : Type} (N : Nat) (k0 : Int → Option R) (k1 : (List Int) → (List Int) → Option R) : Nat → (List Int) → (List Int) → (List Int) → Int → Int → Option R
  | 0, _, _, _, _, _ => none
  | K + 1, s11, s21, x, x1, x2 =>
    (br (ilt x2 x1)
      ((chk (inb x x2)
        (br (ile (tLen s21) x2)
        (k0 1)
        ((chk (inb s21 x2)
          ((cmp_Compare_int N (rdI x x2) (rdI s21 x2)).bind fun r =>
          (br (ine r.1.1 0)
            (k0 r.1.1)
            (slices_Compare_LI_int_l0 N k0 k1 K s11 s21 x x1 (IntKind.i64.wrap (x2 + 1))))))))))
      (k1 s11 s21))
noncomputable def slices_Compare_LI_int_l0_again {R : Type} (N : Nat) (ks : (j : Nat) → ((slices_Compare_LI_int_l0_ex.getD j (.ret, Sh.none)).2).T → Option R) (k : Nat) (x : slices_Compare_LI_int_l0_sh.T) : Option R :=
  slices_Compare_LI_int_l0 N (fun y0 => ks 0 ((y0, ()), ())) (fun y0 y1 => ks 1 ((y0, y1, ()), ())) k x.1.1 x.1.2.1 x.1.2.2.1 x.1.2.2.2.1 x.1.2.2.2.2.1
noncomputable def slices_Compare_LI_int_l0_s (N : Nat) : LSum := ⟨slices_Compare_LI_int_l0_sh, slices_Compare_LI_int_l0_ex, fun x ks => slices_Compare_LI_int_l0_again N ks N x⟩
theorem slices_Compare_LI_int_l0_step (N : Nat) (R : Type) (k : Nat) (x : slices_Compare_LI_int_l0_sh.T) (ks : (j : Nat) → ((slices_Compare_LI_int_l0_ex.getD j (.ret, Sh.none)).2).T → Option R) : slices_Compare_LI_int_l0_again N ks (k + 1) x = roundF (slices_Compare_LI_int_G N) tab [] (loopAt slices_Compare_LI_int_code 0) slices_Compare_LI_int_l0_sh slices_Compare_LI_int_l0_ex (fun y => slices_Compare_LI_int_l0_again N ks k y) ks x := by kernel_rfl
theorem slices_Compare_LI_int_l0_ok (N : Nat) : LoopOk Try.prog Try.f81.ntmps (slices_Compare_LI_int_l0_s N) (loopAt slices_Compare_LI_int_code 0) :=
  loop_ok (l := slices_Compare_LI_int_l0_s N) progOk (slices_Compare_LI_int_gok N) (draw_ok progOk (slices_Compare_LI_int_gok N)) (fun R k x ks => slices_Compare_LI_int_l0_again N ks k x) (fun _ _ _ => rfl) (fun R k x ks => slices_Compare_LI_int_l0_step N R k x ks) (fun R x ks r h => ⟨N, h⟩) (lsOk_at (L := []) trivial) (by kernel_rfl) (by kernel_rfl)
noncomputable def slices_Compare_LI_int (N : Nat) (s1 : (List Int)) (s2 : (List Int)) : Option ((Int × Unit) × (Unit)) :=
  slices_Compare_LI_int_l0 N (fun x => some ((x, ()), ())) (fun s11 s21 => (br (ilt (tLen s11) (tLen s21))
    (some (((-1), ()), ()))
    (some ((0, ()), ())))) N s1 s2 s1 (tLen s1) 0
noncomputable def slices_Compare_LI_int_S (N : Nat) : FSum := ⟨slices_Compare_LI_int_ps, slices_Compare_LI_int_rs, fun x => slices_Compare_LI_int N x.1 x.2.1⟩
theorem slices_Compare_LI_int_run (N : Nat) (x : argsT slices_Compare_LI_int_ps) : slices_Compare_LI_int N x.1 x.2.1 = funF (slices_Compare_LI_int_G N) tab [slices_Compare_LI_int_l0_s N] Try.f81 slices_Compare_LI_int_ps slices_Compare_LI_int_rs x := by kernel_rfl
theorem slices_Compare_LI_int_pc (N : Nat) : PC Try.prog 81 (slices_Compare_LI_int_S N) := by
  have e : slices_Compare_LI_int_S N = ⟨slices_Compare_LI_int_ps, slices_Compare_LI_int_rs, funF (slices_Compare_LI_int_G N) tab [slices_Compare_LI_int_l0_s N] Try.f81 slices_Compare_LI_int_ps slices_Compare_LI_int_rs⟩ := congrArg (FSum.mk slices_Compare_LI_int_ps slices_Compare_LI_int_rs) (funext (slices_Compare_LI_int_run N))
  rw [e]
  exact fun_ok (c := slices_Compare_LI_int_code) progOk (slices_Compare_LI_int_gok N) (draw_ok progOk (slices_Compare_LI_int_gok N)) Try.call81 Try.func81 (by kernel_rfl) (lsOk_at (L := [slices_Compare_LI_int_l0_s N]) ⟨slices_Compare_LI_int_l0_ok N, trivial⟩) (by kernel_rfl) (by kernel_rfl) (by kernel_rfl) (by kernel_rfl) (by kernel_rfl)

/-! ### impl_spaceOf -/
abbrev impl_spaceOf_ps : List (PV.Mode × Ty) := [(.own, LLI), (.ro, GLILIBo)]
abbrev impl_spaceOf_rs : List (Bool × Ty) := [(true, QLLILQII)]
noncomputable def impl_spaceOf_G (N : Nat) : GTab := gOf [(80, slices_SortFunc_LLI_LI_S N), (81, slices_Compare_LI_int_S N)]
theorem impl_spaceOf_gok (N : Nat) : GOk Try.prog (impl_spaceOf_G N) := gOf_ok ⟨slices_SortFunc_LLI_LI_pc N, slices_Compare_LI_int_pc N, trivial⟩
noncomputable def impl_spaceOf_code : Code := (Try.f46.body).getD .skip
noncomputable def impl_spaceOf_l0_0_sh : Sh := ⟨[(1, .one (.ro GLILIBo)), (4, .one (.adr 0 0)), (5, .one (.adr 1 0)), (6, .one (.ro I)), (7, .one (.el 2)), (16, .one (.ref 2)), (17, .one (.ro I)), (18, .one (.ro I)), (27, .one (.sub 2 1)), (28, .one (.ro I)), (29, .one (.ro I))], [.box [.nilsl, .nilsl], .box [.ref 2, .ref 3], .sl 43 LI .deep, .sl 80 QII .own]⟩
noncomputable def impl_spaceOf_l0_0_ex : List (Ex × Sh) := [(.exit 2, ⟨[(1, .one (.ro GLILIBo)), (4, .one (.adr 0 0)), (5, .one (.adr 1 0)), (16, .one (.ref 2)), (17, .one (.ro I)), (18, .one (.ro I))], [.box [.nilsl, .nilsl], .box [.ref 2, .ref 3], .sl 43 LI .deep, .sl 80 QII .own]⟩)]
noncomputable def impl_spaceOf_l0_0 {R : Type} (N : Nat) (k0 : ((List Int) → (List Int) → Option Bool) → Int → Int → (List (List Int)) → (List (Int × Int)) → Option R) : Nat → ((List Int) → (List Int) → Option Bool) → Int → Int → Int → Int → Int → Int → Int → Int → (List (List Int)) → (List (Int × Int)) → Option R
  | 0, _, _, _, _, _, _, _, _, _, _, _ => none
  | K + 1, isStep2, i, a, x2, x3, x4, x5, x6, x7, o2, o3 =>
    (br (ilt x7 x6)
      ((chk (ile 0 x7 && ilt x7 (x5 - x4))
        ((isStep2 (rdL o2 a) (rdL o2 (x4 + x7))).bind fun v =>
        (br v
        ((chk (room o3 [(i, (IntKind.i64.wrap ((IntKind.i64.wrap (i + 1)) + x7)))])
          (impl_spaceOf_l0_0 N k0 K isStep2 i a x2 x3 x4 x5 x6 (IntKind.i64.wrap (x7 + 1)) o2 (tApp o3 [(i, (IntKind.i64.wrap ((IntKind.i64.wrap (i + 1)) + x7)))]))))
        (impl_spaceOf_l0_0 N k0 K isStep2 i a x2 x3 x4 x5 x6 (IntKind.i64.wrap (x7 + 1)) o2 o3)))))
      (k0 isStep2 x2 x3 o2 o3))
noncomputable def impl_spaceOf_l0_0_again {R : Type} (N : Nat) (ks : (j : Nat) → ((impl_spaceOf_l0_0_ex.getD j (.ret, Sh.none)).2).T → Option R) (k : Nat) (x : impl_spaceOf_l0_0_sh.T) : Option R :=
  impl_spaceOf_l0_0 N (fun y0 y1 y2 y3 y4 => ks 0 ((y0, (), (), (), y1, y2, ()), (((), (), ()), ((), (), ()), y3, y4, ()))) k x.1.1 x.1.2.2.2.1 x.1.2.2.2.2.1 x.1.2.2.2.2.2.2.1 x.1.2.2.2.2.2.2.2.1 x.1.2.2.2.2.2.2.2.2.1.1 x.1.2.2.2.2.2.2.2.2.1.2 x.1.2.2.2.2.2.2.2.2.2.1 x.1.2.2.2.2.2.2.2.2.2.2.1 x.2.2.2.1 x.2.2.2.2.1
noncomputable def impl_spaceOf_l0_0_s (N : Nat) : LSum := ⟨impl_spaceOf_l0_0_sh, impl_spaceOf_l0_0_ex, fun x ks => impl_spaceOf_l0_0_again N ks N x⟩
theorem impl_spaceOf_l0_0_step (N : Nat) (R : Type) (k : Nat) (x : impl_spaceOf_l0_0_sh.T) (ks : (j : Nat) → ((impl_spaceOf_l0_0_ex.getD j (.ret, Sh.none)).2).T → Option R) : impl_spaceOf_l0_0_again N ks (k + 1) x = roundF (impl_spaceOf_G N) tab [] (loopAt (loopAt impl_spaceOf_code 0) 0) impl_spaceOf_l0_0_sh impl_spaceOf_l0_0_ex (fun y => impl_spaceOf_l0_0_again N ks k y) ks x := by kernel_rfl
theorem impl_spaceOf_l0_0_ok (N : Nat) : LoopOk Try.prog Try.f46.ntmps (impl_spaceOf_l0_0_s N) (loopAt (loopAt impl_spaceOf_code 0) 0) :=
  loop_ok (l := impl_spaceOf_l0_0_s N) progOk (impl_spaceOf_gok N) (draw_ok progOk (impl_spaceOf_gok N)) (fun R k x ks => impl_spaceOf_l0_0_again N ks k x) (fun _ _ _ => rfl) (fun R k x ks => impl_spaceOf_l0_0_step N R k x ks) (fun R x ks r h => ⟨N, h⟩) (lsOk_at (L := []) trivial) (by kernel_rfl) (by kernel_rfl)
noncomputable def impl_spaceOf_l0_sh : Sh := ⟨[(1, .one (.ro GLILIBo)), (4, .one (.adr 0 0)), (5, .one (.adr 1 0)), (16, .one (.ref 2)), (17, .one (.ro I)), (18, .one (.ro I))], [.box [.nilsl, .nilsl], .box [.ref 2, .ref 3], .sl 43 LI .deep, .sl 80 QII .own]⟩
noncomputable def impl_spaceOf_l0_ex : List (Ex × Sh) := [(.exit 0, ⟨[(4, .one (.adr 0 0)), (5, .one (.adr 1 0))], [.box [.nilsl, .nilsl], .box [.ref 2, .ref 3], .sl 43 LI .deep, .sl 80 QII .own]⟩)]
noncomputable def impl_spaceOf_l0 {R : Type} (N : Nat) (k0 : (List (List Int)) → (List (Int × Int)) → Option R) : Nat → ((List Int) → (List Int) → Option Bool) → Int → Int → (List (List Int)) → (List (Int × Int)) → Option R
  | 0, _, _, _, _, _ => none
  | K + 1, isStep1, x, x1, o, o1 =>
    (br (ilt x1 x)
      ((chk (inb o x1)
        (chk (ile 0 (IntKind.i64.wrap (x1 + 1)) && ile (IntKind.i64.wrap (x1 + 1)) (tLen o) && ile (tLen o) (tLen o))
        (impl_spaceOf_l0_0 N (fun isStep2 x2 x3 o2 o3 => impl_spaceOf_l0 N k0 K isStep2 x2 (IntKind.i64.wrap (x3 + 1)) o2 o3) N isStep1 x1 x1 x x1 (IntKind.i64.wrap (x1 + 1)) (tLen o) ((tLen o) - (IntKind.i64.wrap (x1 + 1))) 0 o o1))))
      (k0 o o1))
noncomputable def impl_spaceOf_l0_again {R : Type} (N : Nat) (ks : (j : Nat) → ((impl_spaceOf_l0_ex.getD j (.ret, Sh.none)).2).T → Option R) (k : Nat) (x : impl_spaceOf_l0_sh.T) : Option R :=
  impl_spaceOf_l0 N (fun y0 y1 => ks 0 (((), (), ()), (((), (), ()), ((), (), ()), y0, y1, ()))) k x.1.1 x.1.2.2.2.2.1 x.1.2.2.2.2.2.1 x.2.2.2.1 x.2.2.2.2.1
noncomputable def impl_spaceOf_l0_s (N : Nat) : LSum := ⟨impl_spaceOf_l0_sh, impl_spaceOf_l0_ex, fun x ks => impl_spaceOf_l0_again N ks N x⟩
theorem impl_spaceOf_l0_step (N : Nat) (R : Type) (k : Nat) (x : impl_spaceOf_l0_sh.T) (ks : (j : Nat) → ((impl_spaceOf_l0_ex.getD j (.ret, Sh.none)).2).T → Option R) : impl_spaceOf_l0_again N ks (k + 1) x = roundF (impl_spaceOf_G N) tab [impl_spaceOf_l0_0_s N] (loopAt impl_spaceOf_code 0) impl_spaceOf_l0_sh impl_spaceOf_l0_ex (fun y => impl_spaceOf_l0_again N ks k y) ks x := by kernel_rfl
theorem impl_spaceOf_l0_ok (N : Nat) : LoopOk Try.prog Try.f46.ntmps (impl_spaceOf_l0_s N) (loopAt impl_spaceOf_code 0) :=
  loop_ok (l := impl_spaceOf_l0_s N) progOk (impl_spaceOf_gok N) (draw_ok progOk (impl_spaceOf_gok N)) (fun R k x ks => impl_spaceOf_l0_again N ks k x) (fun _ _ _ => rfl) (fun R k x ks => impl_spaceOf_l0_step N R k x ks) (fun R x ks r h => ⟨N, h⟩) (lsOk_at (L := [impl_spaceOf_l0_0_s N]) ⟨impl_spaceOf_l0_0_ok N, trivial⟩) (by kernel_rfl) (by kernel_rfl)
noncomputable def impl_spaceOf (N : Nat) (states : (List (List Int))) (isStep : ((List Int) → (List Int) → Option Bool)) : Option ((((List (List Int)) × (List (Int × Int))) × Unit) × (Unit)) :=
  ((slices_SortFunc_LLI_LI N states (fun y0 y1 => (slices_Compare_LI_int N y0 y1).bind fun z => some z.1.1)).bind fun r =>
    impl_spaceOf_l0 N (fun o o1 => some (((o, o1), ()), ())) N isStep (tLen states) 0 states [])
noncomputable def impl_spaceOf_S (N : Nat) : FSum := ⟨impl_spaceOf_ps, impl_spaceOf_rs, fun x => impl_spaceOf N x.1 x.2.1⟩
theorem impl_spaceOf_run (N : Nat) (x : argsT impl_spaceOf_ps) : impl_spaceOf N x.1 x.2.1 = funF (impl_spaceOf_G N) tab [impl_spaceOf_l0_s N] Try.f46 impl_spaceOf_ps impl_spaceOf_rs x := by kernel_rfl
theorem impl_spaceOf_pc (N : Nat) : PC Try.prog 46 (impl_spaceOf_S N) := by
  have e : impl_spaceOf_S N = ⟨impl_spaceOf_ps, impl_spaceOf_rs, funF (impl_spaceOf_G N) tab [impl_spaceOf_l0_s N] Try.f46 impl_spaceOf_ps impl_spaceOf_rs⟩ := congrArg (FSum.mk impl_spaceOf_ps impl_spaceOf_rs) (funext (impl_spaceOf_run N))
  rw [e]
  exact fun_ok (c := impl_spaceOf_code) progOk (impl_spaceOf_gok N) (draw_ok progOk (impl_spaceOf_gok N)) Try.call46 Try.func46 (by kernel_rfl) (lsOk_at (L := [impl_spaceOf_l0_s N]) ⟨impl_spaceOf_l0_ok N, trivial⟩) (by kernel_rfl) (by kernel_rfl) (by kernel_rfl) (by kernel_rfl) (by kernel_rfl)

/-! ### impl_places -/
abbrev impl_places_ps : List (PV.Mode × Ty) := [(.ro, LI), (.ro, LI)]
abbrev impl_places_rs : List (Bool × Ty) := [(true, LI)]
noncomputable def impl_places_G (N : Nat) : GTab := gOf []
theorem impl_places_gok (N : Nat) : GOk Try.prog (impl_places_G N) := gOf_ok trivial
noncomputable def impl_places_code : Code := (Try.f115.body).getD .skip
noncomputable def impl_places_l0_sh : Sh := ⟨[(1, .one (.ro LI)), (5, .one (.ref 0)), (9, .one (.ro LI)), (10, .one (.ro I)), (11, .one (.ro I))], [.sl 3 I .own]⟩
noncomputable def impl_places_l0_ex : List (Ex × Sh) := [(.exit 0, ⟨[(5, .one (.ref 0))], [.sl 3 I .own]⟩)]
noncomputable def impl_places_l0 {R : Type} (N : Nat) (k0 : (List Int) → Option R) : Nat → (List Int) → (List Int) → Int → Int → (List Int) → Option R
  | 0, _, _, _, _, _ => none
  | K + 1, b1, x, x1, x2, o =>
    (br (ilt x2 x1)
      ((chk (inb x x2)
        (chk (inb b1 x2)
        (br (ine (rdI b1 x2) (rdI x x2))
        ((chk (room o [x2])
          (impl_places_l0 N k0 K b1 x x1 (IntKind.i64.wrap (x2 + 1)) (tApp o [x2]))))
        (impl_places_l0 N k0 K b1 x x1 (IntKind.i64.wrap (x2 + 1)) o)))))
      (k0 o))
noncomputable def impl_places_l0_again {R : Type} (N : Nat) (ks : (j : Nat) → ((impl_places_l0_ex.getD j (.ret, Sh.none)).2).T → Option R) (k : Nat) (x : impl_places_l0_sh.T) : Option R :=
  impl_places_l0 N (fun y0 => ks 0 (((), ()), (y0, ()))) k x.1.1 x.1.2.2.1 x.1.2.2.2.1 x.1.2.2.2.2.1 x.2.1
noncomputable def impl_places_l0_s (N : Nat) : LSum := ⟨impl_places_l0_sh, impl_places_l0_ex, fun x ks => impl_places_l0_again N ks N x⟩
theorem impl_places_l0_step (N : Nat) (R : Type) (k : Nat) (x : impl_places_l0_sh.T) (ks : (j : Nat) → ((impl_places_l0_ex.getD j (.ret, Sh.none)).2).T → Option R) : impl_places_l0_again N ks (k + 1) x = roundF (impl_places_G N) tab [] (loopAt impl_places_code 0) impl_places_l0_sh impl_places_l0_ex (fun y => impl_places_l0_again N ks k y) ks x := by kernel_rfl
theorem impl_places_l0_ok (N : Nat) : LoopOk Try.prog Try.f115.ntmps (impl_places_l0_s N) (loopAt impl_places_code 0) :=
  loop_ok (l := impl_places_l0_s N) progOk (impl_places_gok N) (draw_ok progOk (impl_places_gok N)) (fun R k x ks => impl_places_l0_again N ks k x) (fun _ _ _ => rfl) (fun R k x ks => impl_places_l0_step N R k x ks) (fun R x ks r h => ⟨N, h⟩) (lsOk_at (L := []) trivial) (by kernel_rfl) (by kernel_rfl)
noncomputable def impl_places (N : Nat) (a : (List Int)) (b : (List Int)) : Option (((List Int) × Unit) × (Unit)) :=
  impl_places_l0 N (fun o => some ((o, ()), ())) N b a (tLen a) 0 []
noncomputable def impl_places_S (N : Nat) : FSum := ⟨impl_places_ps, impl_places_rs, fun x => impl_places N x.1 x.2.1⟩
theorem impl_places_run (N : Nat) (x : argsT impl_places_ps) : impl_places N x.1 x.2.1 = funF (impl_places_G N) tab [impl_places_l0_s N] Try.f115 impl_places_ps impl_places_rs x := by kernel_rfl
theorem impl_places_pc (N : Nat) : PC Try.prog 115 (impl_places_S N) := by
  have e : impl_places_S N = ⟨impl_places_ps, impl_places_rs, funF (impl_places_G N) tab [impl_places_l0_s N] Try.f115 impl_places_ps impl_places_rs⟩ := congrArg (FSum.mk impl_places_ps impl_places_rs) (funext (impl_places_run N))
  rw [e]
  exact fun_ok (c := impl_places_code) progOk (impl_places_gok N) (draw_ok progOk (impl_places_gok N)) Try.call115 Try.func115 (by kernel_rfl) (lsOk_at (L := [impl_places_l0_s N]) ⟨impl_places_l0_ok N, trivial⟩) (by kernel_rfl) (by kernel_rfl) (by kernel_rfl) (by kernel_rfl) (by kernel_rfl)

/-! ### impl_isChange -/
abbrev impl_isChange_ps : List (PV.Mode × Ty) := [(.ro, LI), (.ro, LI)]
abbrev impl_isChange_rs : List (Bool × Ty) := [(true, .bool)]
noncomputable def impl_isChange_G (N : Nat) : GTab := gOf [(115, impl_places_S N)]
theorem impl_isChange_gok (N : Nat) : GOk Try.prog (impl_isChange_G N) := gOf_ok ⟨impl_places_pc N, trivial⟩
noncomputable def impl_isChange_code : Code := (Try.f102.body).getD .skip
noncomputable def impl_isChange (N : Nat) (a : (List Int)) (b : (List Int)) : Option ((Bool × Unit) × (Unit)) :=
  ((impl_places N a b).bind fun r =>
    some (((ieq (tLen r.1.1) 1), ()), ()))
noncomputable def impl_isChange_S (N : Nat) : FSum := ⟨impl_isChange_ps, impl_isChange_rs, fun x => impl_isChange N x.1 x.2.1⟩
theorem impl_isChange_run (N : Nat) (x : argsT impl_isChange_ps) : impl_isChange N x.1 x.2.1 = funF (impl_isChange_G N) tab [] Try.f102 impl_isChange_ps impl_isChange_rs x := by kernel_rfl
theorem impl_isChange_pc (N : Nat) : PC Try.prog 102 (impl_isChange_S N) := by
  have e : impl_isChange_S N = ⟨impl_isChange_ps, impl_isChange_rs, funF (impl_isChange_G N) tab [] Try.f102 impl_isChange_ps impl_isChange_rs⟩ := congrArg (FSum.mk impl_isChange_ps impl_isChange_rs) (funext (impl_isChange_run N))
  rw [e]
  exact fun_ok (c := impl_isChange_code) progOk (impl_isChange_gok N) (draw_ok progOk (impl_isChange_gok N)) Try.call102 Try.func102 (by kernel_rfl) (lsOk_at (L := []) trivial) (by kernel_rfl) (by kernel_rfl) (by kernel_rfl) (by kernel_rfl) (by kernel_rfl)

/-! ### impl_Formula_flips -/
abbrev impl_Formula_flips_ps : List (PV.Mode × Ty) := [(.ro, QILLI)]
abbrev impl_Formula_flips_rs : List (Bool × Ty) := [(true, QLLILQII)]
noncomputable def impl_Formula_flips_G (N : Nat) : GTab := gOf [(149, impl_Formula_solutions_S N), (46, impl_spaceOf_S N), (102, impl_isChange_S N)]
theorem impl_Formula_flips_gok (N : Nat) : GOk Try.prog (impl_Formula_flips_G N) := gOf_ok ⟨impl_Formula_solutions_pc N, impl_spaceOf_pc N, impl_isChange_pc N, trivial⟩
noncomputable def impl_Formula_flips_code : Code := (Try.f113.body).getD .skip
noncomputable def impl_Formula_flips (N : Nat) (f : (Int × (List (List Int)))) : Option ((((List (List Int)) × (List (Int × Int))) × Unit) × (Unit)) :=
  ((impl_Formula_solutions N (f.1, f.2)).bind fun r =>
    ((impl_spaceOf N r.1.1 (fun y0 y1 => (impl_isChange N y0 y1).bind fun z => some z.1.1)).bind fun r1 =>
      some (((r1.1.1.1, r1.1.1.2), ()), ())))
noncomputable def impl_Formula_flips_S (N : Nat) : FSum := ⟨impl_Formula_flips_ps, impl_Formula_flips_rs, fun x => impl_Formula_flips N x.1⟩
theorem impl_Formula_flips_run (N : Nat) (x : argsT impl_Formula_flips_ps) : impl_Formula_flips N x.1 = funF (impl_Formula_flips_G N) tab [] Try.f113 impl_Formula_flips_ps impl_Formula_flips_rs x := by kernel_rfl
theorem impl_Formula_flips_pc (N : Nat) : PC Try.prog 113 (impl_Formula_flips_S N) := by
  have e : impl_Formula_flips_S N = ⟨impl_Formula_flips_ps, impl_Formula_flips_rs, funF (impl_Formula_flips_G N) tab [] Try.f113 impl_Formula_flips_ps impl_Formula_flips_rs⟩ := congrArg (FSum.mk impl_Formula_flips_ps impl_Formula_flips_rs) (funext (impl_Formula_flips_run N))
  rw [e]
  exact fun_ok (c := impl_Formula_flips_code) progOk (impl_Formula_flips_gok N) (draw_ok progOk (impl_Formula_flips_gok N)) Try.call113 Try.func113 (by kernel_rfl) (lsOk_at (L := []) trivial) (by kernel_rfl) (by kernel_rfl) (by kernel_rfl) (by kernel_rfl) (by kernel_rfl)

/-! ### slices_BinarySearchFunc_LLI_LI_LI -/
abbrev slices_BinarySearchFunc_LLI_LI_LI_ps : List (PV.Mode × Ty) := [(.ro, LLI), (.ro, LI), (.ro, GLILII)]
abbrev slices_BinarySearchFunc_LLI_LI_LI_rs : List (Bool × Ty) := [(true, I), (true, .bool)]
noncomputable def slices_BinarySearchFunc_LLI_LI_LI_G (N : Nat) : GTab := gOf []
theorem slices_BinarySearchFunc_LLI_LI_LI_gok (N : Nat) : GOk Try.prog (slices_BinarySearchFunc_LLI_LI_LI_G N) := gOf_ok trivial
noncomputable def slices_BinarySearchFunc_LLI_LI_LI_code : Code := (Try.f186.body).getD .skip
noncomputable def slices_BinarySearchFunc_LLI_LI_LI_l0_sh : Sh := ⟨[(0, .one (.ro LLI)), (1, .one (.ro LI)), (2, .one (.ro GLILII)), (8, .one (.ro I)), (9, .one (.ro I)), (10, .one (.ro I))], []⟩
noncomputable def slices_BinarySearchFunc_LLI_LI_LI_l0_ex : List (Ex × Sh) := [(.exit 0, ⟨[(0, .one (.ro LLI)), (1, .one (.ro LI)), (2, .one (.ro GLILII)), (8, .one (.ro I)), (9, .one (.ro I))], []⟩)]
noncomputable def slices_BinarySearchFunc_LLI_LI_LI_l0 {R : Type} (N : Nat) (k0 : (List (List Int)) → (List Int) → ((List Int) → (List Int) → Option Int) → Int → Int → Option R) : Nat → (List (List Int)) → (List Int) → ((List Int) → (List Int) → Option Int) → Int → Int → Int → Option R
  | 0, _, _, _, _, _, _ => none
  | K + 1, x1, target1, cmp1, n, i, j =>
    (br (ilt i j)
      ((chk (inb x1 (IntKind.i64.wrap ((shrI .u64 (IntKind.u64.wrap ((IntKind.i64.wrap (i + j)))) 1))))
        ((cmp1 (rdL x1 (IntKind.i64.wrap ((shrI .u64 (IntKind.u64.wrap ((IntKind.i64.wrap (i + j)))) 1)))) target1).bind fun v =>
        (br (ilt v 0)
        (slices_BinarySearchFunc_LLI_LI_LI_l0 N k0 K x1 target1 cmp1 n (IntKind.i64.wrap ((IntKind.i64.wrap ((shrI .u64 (IntKind.u64.wrap ((IntKind.i64.wrap (i + j)))) 1))) + 1)) j)
        (slices_BinarySearchFunc_LLI_LI_LI_l0 N k0 K x1 target1 cmp1 n i (IntKind.i64.wrap ((shrI .u64 (IntKind.u64.wrap ((IntKind.i64.wrap (i + j)))) 1))))))))
      (k0 x1 target1 cmp1 n i))
noncomputable def slices_BinarySearchFunc_LLI_LI_LI_l0_again {R : Type} (N : Nat) (ks : (j : Nat) → ((slices_BinarySearchFunc_LLI_LI_LI_l0_ex.getD j (.ret, Sh.none)).2).T → Option R) (k : Nat) (x : slices_BinarySearchFunc_LLI_LI_LI_l0_sh.T) : Option R :=
  slices_BinarySearchFunc_LLI_LI_LI_l0 N (fun y0 y1 y2 y3 y4 => ks 0 ((y0, y1, y2, y3, y4, ()), ())) k x.1.1 x.1.2.1 x.1.2.2.1 x.1.2.2.2.1 x.1.2.2.2.2.1 x.1.2.2.2.2.2.1
noncomputable def slices_BinarySearchFunc_LLI_LI_LI_l0_s (N : Nat) : LSum := ⟨slices_BinarySearchFunc_LLI_LI_LI_l0_sh, slices_BinarySearchFunc_LLI_LI_LI_l0_ex, fun x ks => slices_BinarySearchFunc_LLI_LI_LI_l0_again N ks N x⟩
theorem slices_BinarySearchFunc_LLI_LI_LI_l0_step (N : Nat) (R : Type) (k : Nat) (x : slices_BinarySearchFunc_LLI_LI_LI_l0_sh.T) (ks : (j : Nat) → ((slices_BinarySearchFunc_LLI_LI_LI_l0_ex.getD j (.ret, Sh.none)).2).T → Option R) : slices_BinarySearchFunc_LLI_LI_LI_l0_again N ks (k + 1) x = roundF (slices_BinarySearchFunc_LLI_LI_LI_G N) tab [] (loopAt slices_BinarySearchFunc_LLI_LI_LI_code 0) slices_BinarySearchFunc_LLI_LI_LI_l0_sh slices_BinarySearchFunc_LLI_LI_LI_l0_ex (fun y => slices_BinarySearchFunc_LLI_LI_LI_l0_again N ks k y) ks x := by kernel_rfl
theorem slices_BinarySearchFunc_LLI_LI_LI_l0_ok (N : Nat) : LoopOk Try.prog Try.f186.ntmps (slices_BinarySearchFunc_LLI_LI_LI_l0_s N) (loopAt slices_BinarySearchFunc_LLI_LI_LI_code 0) :=
  loop_ok (l := slices_BinarySearchFunc_LLI_LI_LI_l0_s N) progOk (slices_BinarySearchFunc_LLI_LI_LI_gok N) (draw_ok progOk (slices_BinarySearchFunc_LLI_LI_LI_gok N)) (fun R k x ks => slices_BinarySearchFunc_LLI_LI_LI_l0_again N ks k x) (fun _ _ _ => rfl) (fun R k x ks => slices_BinarySearchFunc_LLI_LI_LI_l0_step N R k x ks) (fun R x ks r h => ⟨N, h⟩) (lsOk_at (L := []) trivial) (by kernel_rfl) (by kernel_rfl)
noncomputable def slices_BinarySearchFunc_LLI_LI_LI (N : Nat) (x : (List (List Int))) (target : (List Int)) (cmp : ((List Int) → (List Int) → Option Int)) : Option ((Int × Bool × Unit) × (Unit)) :=
  slices_BinarySearchFunc_LLI_LI_LI_l0 N (fun x1 target1 cmp1 n i => (br (ilt i n)
    ((chk (inb x1 i)
      ((cmp1 (rdL x1 i) target1).bind fun v =>
      some ((i, (ieq v 0), ()), ()))))
    (some ((i, false, ()), ())))) N x target cmp (tLen x) 0 (tLen x)
noncomputable def slices_BinarySearchFunc_LLI_LI_LI_S (N : Nat) : FSum := ⟨slices_BinarySearchFunc_LLI_LI_LI_ps, slices_BinarySearchFunc_LLI_LI_LI_rs, fun x => slices_BinarySearchFunc_LLI_LI_LI N x.1 x.2.1 x.2.2.1⟩
theorem slices_BinarySearchFunc_LLI_LI_LI_run (N : Nat) (x : argsT slices_BinarySearchFunc_LLI_LI_LI_ps) : slices_BinarySearchFunc_LLI_LI_LI N x.1 x.2.1 x.2.2.1 = funF (slices_BinarySearchFunc_LLI_LI_LI_G N) tab [slices_BinarySearchFunc_LLI_LI_LI_l0_s N] Try.f186 slices_BinarySearchFunc_LLI_LI_LI_ps slices_BinarySearchFunc_LLI_LI_LI_rs x := by kernel_rfl
theorem slices_BinarySearchFunc_LLI_LI_LI_pc (N : Nat) : PC Try.prog 186 (slices_BinarySearchFunc_LLI_LI_LI_S N) := by
  have e : slices_BinarySearchFunc_LLI_LI_LI_S N = ⟨slices_BinarySearchFunc_LLI_LI_LI_ps, slices_BinarySearchFunc_LLI_LI_LI_rs, funF (slices_BinarySearchFunc_LLI_LI_LI_G N) tab [slices_BinarySearchFunc_LLI_LI_LI_l0_s N] Try.f186 slices_BinarySearchFunc_LLI_LI_LI_ps slices_BinarySearchFunc_LLI_LI_LI_rs⟩ := congrArg (FSum.mk slices_BinarySearchFunc_LLI_LI_LI_ps slices_BinarySearchFunc_LLI_LI_LI_rs) (funext (slices_BinarySearchFunc_LLI_LI_LI_run N))
  rw [e]
  exact fun_ok (c := slices_BinarySearchFunc_LLI_LI_LI_code) progOk (slices_BinarySearchFunc_LLI_LI_LI_gok N) (draw_ok progOk (slices_BinarySearchFunc_LLI_LI_LI_gok N)) Try.call186 Try.func186 (by kernel_rfl) (lsOk_at (L := [slices_BinarySearchFunc_LLI_LI_LI_l0_s N]) ⟨slices_BinarySearchFunc_LLI_LI_LI_l0_ok N, trivial⟩) (by kernel_rfl) (by kernel_rfl) (by kernel_rfl) (by kernel_rfl) (by kernel_rfl)

/-! ### impl_Space_place -/
abbrev impl_Space_place_ps : List (PV.Mode × Ty) := [(.ro, QLLILQII), (.ro, LI)]
abbrev impl_Space_place_rs : List (Bool × Ty) := [(true, I), (true, .bool)]
noncomputable def impl_Space_place_G (N : Nat) : GTab := gOf [(186, slices_BinarySearchFunc_LLI_LI_LI_S N), (81, slices_Compare_LI_int_S N)]
theorem impl_Space_place_gok (N : Nat) : GOk Try.prog (impl_Space_place_G N) := gOf_ok ⟨slices_BinarySearchFunc_LLI_LI_LI_pc N, slices_Compare_LI_int_pc N, trivial⟩
noncomputable def impl_Space_place_code : Code := (Try.f150.body).getD .skip
noncomputable def impl_Space_place (N : Nat) (x : ((List (List Int)) × (List (Int × Int)))) (state : (List Int)) : Option ((Int × Bool × Unit) × (Unit)) :=
  ((slices_BinarySearchFunc_LLI_LI_LI N x.1 state (fun y0 y1 => (slices_Compare_LI_int N y0 y1).bind fun z => some z.1.1)).bind fun r =>
    some ((r.1.1, r.1.2.1, ()), ()))
noncomputable def impl_Space_place_S (N : Nat) : FSum := ⟨impl_Space_place_ps, impl_Space_place_rs, fun x => impl_Space_place N x.1 x.2.1⟩
theorem impl_Space_place_run (N : Nat) (x : argsT impl_Space_place_ps) : impl_Space_place N x.1 x.2.1 = funF (impl_Space_place_G N) tab [] Try.f150 impl_Space_place_ps impl_Space_place_rs x := by kernel_rfl
theorem impl_Space_place_pc (N : Nat) : PC Try.prog 150 (impl_Space_place_S N) := by
  have e : impl_Space_place_S N = ⟨impl_Space_place_ps, impl_Space_place_rs, funF (impl_Space_place_G N) tab [] Try.f150 impl_Space_place_ps impl_Space_place_rs⟩ := congrArg (FSum.mk impl_Space_place_ps impl_Space_place_rs) (funext (impl_Space_place_run N))
  rw [e]
  exact fun_ok (c := impl_Space_place_code) progOk (impl_Space_place_gok N) (draw_ok progOk (impl_Space_place_gok N)) Try.call150 Try.func150 (by kernel_rfl) (lsOk_at (L := []) trivial) (by kernel_rfl) (by kernel_rfl) (by kernel_rfl) (by kernel_rfl) (by kernel_rfl)

/-! ### cmp_Less_int -/
abbrev cmp_Less_int_ps : List (PV.Mode × Ty) := [(.ro, I), (.ro, I)]
abbrev cmp_Less_int_rs : List (Bool × Ty) := [(true, .bool)]
noncomputable def cmp_Less_int_G (N : Nat) : GTab := gOf [(164, cmp_isNaN_int_S N)]
theorem cmp_Less_int_gok (N : Nat) : GOk Try.prog (cmp_Less_int_G N) := gOf_ok ⟨cmp_isNaN_int_pc N, trivial⟩
noncomputable def cmp_Less_int_code : Code := (Try.f179.body).getD .skip
noncomputable def cmp_Less_int (N : Nat) (x : Int) (y : Int) : Option ((Bool × Unit) × (Unit)) :=
  ((cmp_isNaN_int N x).bind fun r =>
    (br r.1.1
      (((cmp_isNaN_int N y).bind fun r1 =>
        (br (!r1.1.1)
          (some ((true, ()), ()))
          (some (((ilt x y), ()), ())))))
      (some (((ilt x y), ()), ()))))
noncomputable def cmp_Less_int_S (N : Nat) : FSum := ⟨cmp_Less_int_ps, cmp_Less_int_rs, fun x => cmp_Less_int N x.1 x.2.1⟩
theorem cmp_Less_int_run (N : Nat) (x : argsT cmp_Less_int_ps) : cmp_Less_int N x.1 x.2.1 = funF (cmp_Less_int_G N) tab [] Try.f179 cmp_Less_int_ps cmp_Less_int_rs x := by kernel_rfl
theorem cmp_Less_int_pc (N : Nat) : PC Try.prog 179 (cmp_Less_int_S N) := by
  have e : cmp_Less_int_S N = ⟨cmp_Less_int_ps, cmp_Less_int_rs, funF (cmp_Less_int_G N) tab [] Try.f179 cmp_Less_int_ps cmp_Less_int_rs⟩ := congrArg (FSum.mk cmp_Less_int_ps cmp_Less_int_rs) (funext (cmp_Less_int_run N))
  rw [e]
  exact fun_ok (c := cmp_Less_int_code) progOk (cmp_Less_int_gok N) (draw_ok progOk (cmp_Less_int_gok N)) Try.call179 Try.func179 (by kernel_rfl) (lsOk_at (L := []) trivial) (by kernel_rfl) (by kernel_rfl) (by kernel_rfl) (by kernel_rfl) (by kernel_rfl)

/-! ### slices_insertionSortOrdered_int -/
abbrev slices_insertionSortOrdered_int_ps : List (PV.Mode × Ty) := [(.mut, LI), (.ro, I), (.ro, I)]
abbrev slices_insertionSortOrdered_int_rs : List (Bool × Ty) := []
noncomputable def slices_insertionSortOrdered_int_G (N : Nat) : GTab := gOf [(179, cmp_Less_int_S N)]
theorem slices_insertionSortOrdered_int_gok (N : Nat) : GOk Try.prog (slices_insertionSortOrdered_int_G N) := gOf_ok ⟨cmp_Less_int_pc N, trivial⟩
noncomputable def slices_insertionSortOrdered_int_code : Code := (Try.f173.body).getD .skip
noncomputable def slices_insertionSortOrdered_int_l0_0_sh : Sh := ⟨[(0, .one (.ref 0)), (1, .one (.ro I)), (2, .one (.ro I)), (6, .one (.ro I)), (7, .one (.ro I))], [.sl 3 I .own]⟩
noncomputable def slices_insertionSortOrdered_int_l0_0_ex : List (Ex × Sh) := [(.exit 2, ⟨[(0, .one (.ref 0)), (1, .one (.ro I)), (2, .one (.ro I)), (6, .one (.ro I))], [.sl 3 I .own]⟩)]
noncomputable def slices_insertionSortOrdered_int_l0_0 {R : Type} (N : Nat) (k0 : Int → Int → Int → (List Int) → Option R) : Nat → Int → Int → Int → Int → (List Int) → Option R
  | 0, _, _, _, _, _ => none
  | K + 1, a2, b2, i1, j, o1 =>
    (br (ilt a2 j)
      ((chk (inb o1 j)
        (chk (inb o1 (IntKind.i64.wrap (j - 1)))
        ((cmp_Less_int N (rdI o1 j) (rdI o1 (IntKind.i64.wrap (j - 1)))).bind fun r =>
        (br r.1.1
          ((chk (inb o1 (IntKind.i64.wrap (j - 1)))
            (chk (inb o1 j)
            (chk (inb o1 j)
            (chk (inb (tSet o1 j (rdI o1 (IntKind.i64.wrap (j - 1)))) (IntKind.i64.wrap (j - 1)))
            (slices_insertionSortOrdered_int_l0_0 N k0 K a2 b2 i1 (IntKind.i64.wrap (j - 1)) (tSet (tSet o1 j (rdI o1 (IntKind.i64.wrap (j - 1)))) (IntKind.i64.wrap (j - 1)) (rdI o1 j))))))))
          (k0 a2 b2 i1 o1))))))
      (k0 a2 b2 i1 o1))
noncomputable def slices_insertionSortOrdered_int_l0_0_again {R : Type} (N : Nat) (ks : (j : Nat) → ((slices_insertionSortOrdered_int_l0_0_ex.getD j (.ret, Sh.none)).2).T → Option R) (k : Nat) (x : slices_insertionSortOrdered_int_l0_0_sh.T) : Option R :=
  slices_insertionSortOrdered_int_l0_0 N (fun y0 y1 y2 y3 => ks 0 (((), y0, y1, y2, ()), (y3, ()))) k x.1.2.1 x.1.2.2.1 x.1.2.2.2.1 x.1.2.2.2.2.1 x.2.1
noncomputable def slices_insertionSortOrdered_int_l0_0_s (N : Nat) : LSum := ⟨slices_insertionSortOrdered_int_l0_0_sh, slices_insertionSortOrdered_int_l0_0_ex, fun x ks => slices_insertionSortOrdered_int_l0_0_again N ks N x⟩
theorem slices_insertionSortOrdered_int_l0_0_step (N : Nat) (R : Type) (k : Nat) (x : slices_insertionSortOrdered_int_l0_0_sh.T) (ks : (j : Nat) → ((slices_insertionSortOrdered_int_l0_0_ex.getD j (.ret, Sh.none)).2).T → Option R) : slices_insertionSortOrdered_int_l0_0_again N ks (k + 1) x = roundF (slices_insertionSortOrdered_int_G N) tab [] (loopAt (loopAt slices_insertionSortOrdered_int_code 0) 0) slices_insertionSortOrdered_int_l0_0_sh slices_insertionSortOrdered_int_l0_0_ex (fun y => slices_insertionSortOrdered_int_l0_0_again N ks k y) ks x := by kernel_rfl
theorem slices_insertionSortOrdered_int_l0_0_ok (N : Nat) : LoopOk Try.prog Try.f173.ntmps (slices_insertionSortOrdered_int_l0_0_s N) (loopAt (loopAt slices_insertionSortOrdered_int_code 0) 0) :=
  loop_ok (l := slices_insertionSortOrdered_int_l0_0_s N) progOk (slices_insertionSortOrdered_int_gok N) (draw_ok progOk (slices_insertionSortOrdered_int_gok N)) (fun R k x ks => slices_insertionSortOrdered_int_l0_0_again N ks k x) (fun _ _ _ => rfl) (fun R k x ks => slices_insertionSortOrdered_int_l0_0_step N R k x ks) (fun R x ks r h => ⟨N, h⟩) (lsOk_at (L := []) trivial) (by kernel_rfl) (by kernel_rfl)
noncomputable def slices_insertionSortOrdered_int_l0_sh : Sh := ⟨[(0, .one (.ref 0)), (1, .one (.ro I)), (2, .one (.ro I)), (6, .one (.ro I))], [.sl 3 I .own]⟩
noncomputable def slices_insertionSortOrdered_int_l0_ex : List (Ex × Sh) := [(.exit 0, ⟨[(0, .one (.ref 0))], [.sl 3 I .own]⟩)]
noncomputable def slices_insertionSortOrdered_int_l0 {R : Type} (N : Nat) (k0 : (List Int) → Option R) : Nat → Int → Int → Int → (List Int) → Option R
  | 0, _, _, _, _ => none
  | K + 1, a1, b1, i, o =>
    (br (ilt i b1)
      (slices_insertionSortOrdered_int_l0_0 N (fun a2 b2 i1 o1 => slices_insertionSortOrdered_int_l0 N k0 K a2 b2 (IntKind.i64.wrap (i1 + 1)) o1) N a1 b1 i i o)
      (k0 o))
noncomputable def slices_insertionSortOrdered_int_l0_again {R : Type} (N : Nat) (ks : (j : Nat) → ((slices_insertionSortOrdered_int_l0_ex.getD j (.ret, Sh.none)).2).T → Option R) (k : Nat) (x : slices_insertionSortOrdered_int_l0_sh.T) : Option R :=
  slices_insertionSortOrdered_int_l0 N (fun y0 => ks 0 (((), ()), (y0, ()))) k x.1.2.1 x.1.2.2.1 x.1.2.2.2.1 x.2.1
noncomputable def slices_insertionSortOrdered_int_l0_s (N : Nat) : LSum := ⟨slices_insertionSortOrdered_int_l0_sh, slices_insertionSortOrdered_int_l0_ex, fun x ks => slices_insertionSortOrdered_int_l0_again N ks N x⟩
theorem slices_insertionSortOrdered_int_l0_step (N : Nat) (R : Type) (k : Nat) (x : slices_insertionSortOrdered_int_l0_sh.T) (ks : (j : Nat) → ((slices_insertionSortOrdered_int_l0_ex.getD j (.ret, Sh.none)).2).T → Option R) : slices_insertionSortOrdered_int_l0_again N ks (k + 1) x = roundF (slices_insertionSortOrdered_int_G N) tab [slices_insertionSortOrdered_int_l0_0_s N] (loopAt slices_insertionSortOrdered_int_code 0) slices_insertionSortOrdered_int_l0_sh slices_insertionSortOrdered_int_l0_ex (fun y => slices_insertionSortOrdered_int_l0_again N ks k y) ks x := by kernel_rfl
theorem slices_insertionSortOrdered_int_l0_ok (N : Nat) : LoopOk Try.prog Try.f173.ntmps (slices_insertionSortOrdered_int_l0_s N) (loopAt slices_insertionSortOrdered_int_code 0) :=
  loop_ok (l := slices_insertionSortOrdered_int_l0_s N) progOk (slices_insertionSortOrdered_int_gok N) (draw_ok progOk (slices_insertionSortOrdered_int_gok N)) (fun R k x ks => slices_insertionSortOrdered_int_l0_again N ks k x) (fun _ _ _ => rfl) (fun R k x ks => slices_insertionSortOrdered_int_l0_step N R k x ks) (fun R x ks r h => ⟨N, h⟩) (lsOk_at (L := [slices_insertionSortOrdered_int_l0_0_s N]) ⟨slices_insertionSortOrdered_int_l0_0_ok N, trivial⟩) (by kernel_rfl) (by kernel_rfl)
noncomputable def slices_insertionSortOrdered_int (N : Nat) (data : (List Int)) (a : Int) (b : Int) : Option ((Unit) × ((List Int) × Unit)) :=
  slices_insertionSortOrdered_int_l0 N (fun o => some ((), (o, ()))) N a b (IntKind.i64.wrap (a + 1)) data
noncomputable def slices_insertionSortOrdered_int_S (N : Nat) : FSum := ⟨slices_insertionSortOrdered_int_ps, slices_insertionSortOrdered_int_rs, fun x => slices_insertionSortOrdered_int N x.1 x.2.1 x.2.2.1⟩
theorem slices_insertionSortOrdered_int_run (N : Nat) (x : argsT slices_insertionSortOrdered_int_ps) : slices_insertionSortOrdered_int N x.1 x.2.1 x.2.2.1 = funF (slices_insertionSortOrdered_int_G N) tab [slices_insertionSortOrdered_int_l0_s N] Try.f173 slices_insertionSortOrdered_int_ps slices_insertionSortOrdered_int_rs x := by kernel_rfl
theorem slices_insertionSortOrdered_int_pc (N : Nat) : PC Try.prog 173 (slices_insertionSortOrdered_int_S N) := by
  have e : slices_insertionSortOrdered_int_S N = ⟨slices_insertionSortOrdered_int_ps, slices_insertionSortOrdered_int_rs, funF (slices_insertionSortOrdered_int_G N) tab [slices_insertionSortOrdered_int_l0_s N] Try.f173 slices_insertionSortOrdered_int_ps slices_insertionSortOrdered_int_rs⟩ := congrArg (FSum.mk slices_insertionSortOrdered_int_ps slices_insertionSortOrdered_int_rs) (funext (slices_insertionSortOrdered_int_run N))
  rw [e]
  exact fun_ok (c := slices_insertionSortOrdered_int_code) progOk (slices_insertionSortOrdered_int_gok N) (draw_ok progOk (slices_insertionSortOrdered_int_gok N)) Try.call173 Try.func173 (by kernel_rfl) (lsOk_at (L := [slices_insertionSortOrdered_int_l0_s N]) ⟨slices_insertionSortOrdered_int_l0_ok N, trivial⟩) (by kernel_rfl) (by kernel_rfl) (by kernel_rfl) (by kernel_rfl) (by kernel_rfl)

/-! ### slices_order2Ordered_int -/
abbrev slices_order2Ordered_int_ps : List (PV.Mode × Ty) := [(.ro, LI), (.ro, I), (.ro, I), (.mut, BI)]
abbrev slices_order2Ordered_int_rs : List (Bool × Ty) := [(true, I), (true, I)]
noncomputable def slices_order2Ordered_int_G (N : Nat) : GTab := gOf [(179, cmp_Less_int_S N)]
theorem slices_order2Ordered_int_gok (N : Nat) : GOk Try.prog (slices_order2Ordered_int_G N) := gOf_ok ⟨cmp_Less_int_pc N, trivial⟩
noncomputable def slices_order2Ordered_int_code : Code := (Try.f206.body).getD .skip
noncomputable def slices_order2Ordered_int (N : Nat) (data : (List Int)) (a : Int) (b : Int) (swaps : Int) : Option ((Int × Int × Unit) × (Int × Unit)) :=
  (chk (inb data b)
    (chk (inb data a)
    ((cmp_Less_int N (rdI data b) (rdI data a)).bind fun r =>
    (br r.1.1
      (some ((b, a, ()), ((IntKind.i64.wrap (swaps + 1)), ())))
      (some ((a, b, ()), (swaps, ())))))))
noncomputable def slices_order2Ordered_int_S (N : Nat) : FSum := ⟨slices_order2Ordered_int_ps, slices_order2Ordered_int_rs, fun x => slices_order2Ordered_int N x.1 x.2.1 x.2.2.1 x.2.2.2.1⟩
theorem slices_order2Ordered_int_run (N : Nat) (x : argsT slices_order2Ordered_int_ps) : slices_order2Ordered_int N x.1 x.2.1 x.2.2.1 x.2.2.2.1 = funF (slices_order2Ordered_int_G N) tab [] Try.f206 slices_order2Ordered_int_ps slices_order2Ordered_int_rs x := by kernel_rfl
theorem slices_order2Ordered_int_pc (N : Nat) : PC Try.prog 206 (slices_order2Ordered_int_S N) := by
  have e : slices_order2Ordered_int_S N = ⟨slices_order2Ordered_int_ps, slices_order2Ordered_int_rs, funF (slices_order2Ordered_int_G N) tab [] Try.f206 slices_order2Ordered_int_ps slices_order2Ordered_int_rs⟩ := congrArg (FSum.mk slices_order2Ordered_int_ps slices_order2Ordered_int_rs) (funext (slices_order2Ordered_int_run N))
  rw [e]
  exact fun_ok (c := slices_order2Ordered_int_code) progOk (slices_order2Ordered_int_gok N) (draw_ok progOk (slices_order2Ordered_int_gok N)) Try.call206 Try.func206 (by kernel_rfl) (lsOk_at (L := []) trivial) (by kernel_rfl) (by kernel_rfl) (by kernel_rfl) (by kernel_rfl) (by kernel_rfl)

/-! ### slices_medianOrdered_int -/
abbrev slices_medianOrdered_int_ps : List (PV.Mode × Ty) := [(.ro, LI), (.ro, I), (.ro, I), (.ro, I), (.mut, BI)]
abbrev slices_medianOrdered_int_rs : List (Bool × Ty) := [(true, I)]
noncomputable def slices_medianOrdered_int_G (N : Nat) : GTab := gOf [(206, slices_order2Ordered_int_S N)]
theorem slices_medianOrdered_int_gok (N : Nat) : GOk Try.prog (slices_medianOrdered_int_G N) := gOf_ok ⟨slices_order2Ordered_int_pc N, trivial⟩
noncomputable def slices_medianOrdered_int_code : Code := (Try.f198.body).getD .skip
noncomputable def slices_medianOrdered_int (N : Nat) (data : (List Int)) (a : Int) (b : Int) (c : Int) (swaps : Int) : Option ((Int × Unit) × (Int × Unit)) :=
  ((slices_order2Ordered_int N data a b swaps).bind fun r =>
    ((slices_order2Ordered_int N data r.1.2.1 c r.2.1).bind fun r1 =>
      ((slices_order2Ordered_int N data r.1.1 r1.1.1 r1.2.1).bind fun r2 =>
        some ((r2.1.2.1, ()), (r2.2.1, ())))))
noncomputable def slices_medianOrdered_int_S (N : Nat) : FSum := ⟨slices_medianOrdered_int_ps, slices_medianOrdered_int_rs, fun x => slices_medianOrdered_int N x.1 x.2.1 x.2.2.1 x.2.2.2.1 x.2.2.2.2.1⟩
theorem slices_medianOrdered_int_run (N : Nat) (x : argsT slices_medianOrdered_int_ps) : slices_medianOrdered_int N x.1 x.2.1 x.2.2.1 x.2.2.2.1 x.2.2.2.2.1 = funF (slices_medianOrdered_int_G N) tab [] Try.f198 slices_medianOrdered_int_ps slices_medianOrdered_int_rs x := by kernel_rfl
theorem slices_medianOrdered_int_pc (N : Nat) : PC Try.prog 198 (slices_medianOrdered_int_S N) := by
  have e : slices_medianOrdered_int_S N = ⟨slices_medianOrdered_int_ps, slices_medianOrdered_int_rs, funF (slices_medianOrdered_int_G N) tab [] Try.f198 slices_medianOrdered_int_ps slices_medianOrdered_int_rs⟩ := congrArg (FSum.mk slices_medianOrdered_int_ps slices_medianOrdered_int_rs) (funext (slices_medianOrdered_int_run N))
  rw [e]
  exact fun_ok (c := slices_medianOrdered_int_code) progOk (slices_medianOrdered_int_gok N) (draw_ok progOk (slices_medianOrdered_int_gok N)) Try.call198 Try.func198 (by kernel_rfl) (lsOk_at (L := []) trivial) (by kernel_rfl) (by kernel_rfl) (by kernel_rfl) (by kernel_rfl) (by kernel_rfl)

/-! ### slices_medianAdjacentOrdered_int -/
abbrev slices_medianAdjacentOrdered_int_ps : List (PV.Mode × Ty) := [(.ro, LI), (.ro, I), (.mut, BI)]
abbrev slices_medianAdjacentOrdered_int_rs : List (Bool × Ty) := [(true, I)]
noncomputable def slices_medianAdjacentOrdered_int_G (N : Nat) : GTab := gOf [(198, slices_medianOrdered_int_S N)]
theorem slices_medianAdjacentOrdered_int_gok (N : Nat) : GOk Try.prog (slices_medianAdjacentOrdered_int_G N) := gOf_ok ⟨slices_medianOrdered_int_pc N, trivial⟩
noncomputable def slices_medianAdjacentOrdered_int_code : Code := (Try.f197.body).getD .skip
noncomputable def slices_medianAdjacentOrdered_int (N : Nat) (data : (List Int)) (a : Int) (swaps : Int) : Option ((Int × Unit) × (Int × Unit)) :=
  ((slices_medianOrdered_int N data (IntKind.i64.wrap (a - 1)) a (IntKind.i64.wrap (a + 1)) swaps).bind fun r =>
    some ((r.1.1, ()), (r.2.1, ())))
noncomputable def slices_medianAdjacentOrdered_int_S (N : Nat) : FSum := ⟨slices_medianAdjacentOrdered_int_ps, slices_medianAdjacentOrdered_int_rs, fun x => slices_medianAdjacentOrdered_int N x.1 x.2.1 x.2.2.1⟩
theorem slices_medianAdjacentOrdered_int_run (N : Nat) (x : argsT slices_medianAdjacentOrdered_int_ps) : slices_medianAdjacentOrdered_int N x.1 x.2.1 x.2.2.1 = funF (slices_medianAdjacentOrdered_int_G N) tab [] Try.f197 slices_medianAdjacentOrdered_int_ps slices_medianAdjacentOrdered_int_rs x := by kernel_rfl
theorem slices_medianAdjacentOrdered_int_pc (N : Nat) : PC Try.prog 197 (slices_medianAdjacentOrdered_int_S N) := by
  have e : slices_medianAdjacentOrdered_int_S N = ⟨slices_medianAdjacentOrdered_int_ps, slices_medianAdjacentOrdered_int_rs, funF (slices_medianAdjacentOrdered_int_G N) tab [] Try.f197 slices_medianAdjacentOrdered_int_ps slices_medianAdjacentOrdered_int_rs⟩ := congrArg (FSum.mk slices_medianAdjacentOrdered_int_ps slices_medianAdjacentOrdered_int_rs) (funext (slices_medianAdjacentOrdered_int_run N))
  rw [e]
  exact fun_ok (c := slices_medianAdjacentOrdered_int_code) progOk (slices_medianAdjacentOrdered_int_gok N) (draw_ok progOk (slices_medianAdjacentOrdered_int_gok N)) Try.call197 Try.func197 (by kernel_rfl) (lsOk_at (L := []) trivial) (by kernel_rfl) (by kernel_rfl) (by kernel_rfl) (by kernel_rfl) (by kernel_rfl)

/-! ### slices_choosePivotOrdered_int -/
abbrev slices_choosePivotOrdered_int_ps : List (PV.Mode × Ty) := [(.ro, LI), (.ro, I), (.ro, I)]
abbrev slices_choosePivotOrdered_int_rs : List (Bool × Ty) := [(true, I), (true, I)]
noncomputable def slices_choosePivotOrdered_int_G (N : Nat) : GTab := gOf [(197, slices_medianAdjacentOrdered_int_S N), (198, slices_medianOrdered_int_S N)]
theorem slices_choosePivotOrdered_int_gok (N : Nat) : GOk Try.prog (slices_choosePivotOrdered_int_G N) := gOf_ok ⟨slices_medianAdjacentOrdered_int_pc N, slices_medianOrdered_int_pc N, trivial⟩
noncomputable def slices_choosePivotOrdered_int_code : Code := (Try.f176.body).getD .skip
noncomputable def slices_choosePivotOrdered_int (N : Nat) (data : (List Int)) (a : Int) (b : Int) : Option ((Int × Int × Unit) × (Unit)) :=
  (br (ile 8 (IntKind.i64.wrap (b - a)))
    ((br (ile 50 (IntKind.i64.wrap (b - a)))
      (((slices_medianAdjacentOrdered_int N data (IntKind.i64.wrap (a + (IntKind.i64.wrap ((IntKind.i64.wrap ((IntKind.i64.wrap (b - a)).tdiv 4)) * 1)))) 0).bind fun r =>
        ((slices_medianAdjacentOrdered_int N data (IntKind.i64.wrap (a + (IntKind.i64.wrap ((IntKind.i64.wrap ((IntKind.i64.wrap (b - a)).tdiv 4)) * 2)))) r.2.1).bind fun r1 =>
          ((slices_medianAdjacentOrdered_int N data (IntKind.i64.wrap (a + (IntKind.i64.wrap ((IntKind.i64.wrap ((IntKind.i64.wrap (b - a)).tdiv 4)) * 3)))) r1.2.1).bind fun r2 =>
            ((slices_medianOrdered_int N data r.1.1 r1.1.1 r2.1.1 r2.2.1).bind fun r3 =>
              (br (ieq r3.2.1 0)
                (some ((r3.1.1, 1, ()), ()))
                ((br (ieq r3.2.1 12)
                  (some ((r3.1.1, 2, ()), ()))
                  (some ((r3.1.1, 0, ()), ()))))))))))
      (((slices_medianOrdered_int N data (IntKind.i64.wrap (a + (IntKind.i64.wrap ((IntKind.i64.wrap ((IntKind.i64.wrap (b - a)).tdiv 4)) * 1)))) (IntKind.i64.wrap (a + (IntKind.i64.wrap ((IntKind.i64.wrap ((IntKind.i64.wrap (b - a)).tdiv 4)) * 2)))) (IntKind.i64.wrap (a + (IntKind.i64.wrap ((IntKind.i64.wrap ((IntKind.i64.wrap (b - a)).tdiv 4)) * 3)))) 0).bind fun r4 =>
        (br (ieq r4.2.1 0)
          (some ((r4.1.1, 1, ()), ()))
          ((br (ieq r4.2.1 12)
            (some ((r4.1.1, 2, ()), ()))
            (some ((r4.1.1, 0, ()), ())))))))))
    (some (((IntKind.i64.wrap (a + (IntKind.i64.wrap ((IntKind.i64.wrap ((IntKind.i64.wrap (b - a)).tdiv 4)) * 2)))), 1, ()), ())))
noncomputable def slices_choosePivotOrdered_int_S (N : Nat) : FSum := ⟨slices_choosePivotOrdered_int_ps, slices_choosePivotOrdered_int_rs, fun x => slices_choosePivotOrdered_int N x.1 x.2.1 x.2.2.1⟩
theorem slices_choosePivotOrdered_int_run (N : Nat) (x : argsT slices_choosePivotOrdered_int_ps) : slices_choosePivotOrdered_int N x.1 x.2.1 x.2.2.1 = funF (slices_choosePivotOrdered_int_G N) tab [] Try.f176 slices_choosePivotOrdered_int_ps slices_choosePivotOrdered_int_rs x := by kernel_rfl
theorem slices_choosePivotOrdered_int_pc (N : Nat) : PC Try.prog 176 (slices_choosePivotOrdered_int_S N) := by
  have e : slices_choosePivotOrdered_int_S N = ⟨slices_choosePivotOrdered_int_ps, slices_choosePivotOrdered_int_rs, funF (slices_choosePivotOrdered_int_G N) tab [] Try.f176 slices_choosePivotOrdered_int_ps slices_choosePivotOrdered_int_rs⟩ := congrArg (FSum.mk slices_choosePivotOrdered_int_ps slices_choosePivotOrdered_int_rs) (funext (slices_choosePivotOrdered_int_run N))
  rw [e]
  exact fun_ok (c := slices_choosePivotOrdered_int_code) progOk (slices_choosePivotOrdered_int_gok N) (draw_ok progOk (slices_choosePivotOrdered_int_gok N)) Try.call176 Try.func176 (by kernel_rfl) (lsOk_at (L := []) trivial) (by kernel_rfl) (by kernel_rfl) (by kernel_rfl) (by kernel_rfl) (by kernel_rfl)

/-! ### slices_partialInsertionSortOrdered_int -/
abbrev slices_partialInsertionSortOrdered_int_ps : List (PV.Mode × Ty) := [(.mut, LI), (.ro, I), (.ro, I)]
abbrev slices_partialInsertionSortOrdered_int_rs : List (Bool × Ty) := [(true, .bool)]
noncomputable def slices_partialInsertionSortOrdered_int_G (N : Nat) : GTab := gOf [(179, cmp_Less_int_S N)]
theorem slices_partialInsertionSortOrdered_int_gok (N : Nat) : GOk Try.prog (slices_partialInsertionSortOrdered_int_G N) := gOf_ok ⟨cmp_Less_int_pc N, trivial⟩
noncomputable def slices_partialInsertionSortOrdered_int_code : Code := (Try.f178.body).getD .skip
noncomputable def slices_partialInsertionSortOrdered_int_l0_0_sh : Sh := ⟨[(0, .one (.ref 0)), (1, .one (.ro I)), (2, .one (.ro I)), (7, .one (.ro I)), (8, .one (.ro I))], [.sl 3 I .own]⟩
noncomputable def slices_partialInsertionSortOrdered_int_l0_0_ex : List (Ex × Sh) := [(.exit 2, ⟨[(0, .one (.ref 0)), (1, .one (.ro I)), (2, .one (.ro I)), (7, .one (.ro I)), (8, .one (.ro I))], [.sl 3 I .own]⟩)]
noncomputable def slices_partialInsertionSortOrdered_int_l0_0 {R : Type} (N : Nat) (k0 : Int → Int → Int → Int → (List Int) → Option R) : Nat → Int → Int → Int → Int → (List Int) → Option R
  | 0, _, _, _, _, _ => none
  | K + 1, x4, x5, x6, x7, o1 =>
    (br (ilt x6 x5)
      ((chk (inb o1 x6)
        (chk (inb o1 (IntKind.i64.wrap (x6 - 1)))
        ((cmp_Less_int N (rdI o1 x6) (rdI o1 (IntKind.i64.wrap (x6 - 1)))).bind fun r =>
        (br (!r.1.1)
          (slices_partialInsertionSortOrdered_int_l0_0 N k0 K x4 x5 (IntKind.i64.wrap (x6 + 1)) x7 o1)
          (k0 x4 x5 x6 x7 o1))))))
      (k0 x4 x5 x6 x7 o1))
noncomputable def slices_partialInsertionSortOrdered_int_l0_0_again {R : Type} (N : Nat) (ks : (j : Nat) → ((slices_partialInsertionSortOrdered_int_l0_0_ex.getD j (.ret, Sh.none)).2).T → Option R) (k : Nat) (x : slices_partialInsertionSortOrdered_int_l0_0_sh.T) : Option R :=
  slices_partialInsertionSortOrdered_int_l0_0 N (fun y0 y1 y2 y3 y4 => ks 0 (((), y0, y1, y2, y3, ()), (y4, ()))) k x.1.2.1 x.1.2.2.1 x.1.2.2.2.1 x.1.2.2.2.2.1 x.2.1
noncomputable def slices_partialInsertionSortOrdered_int_l0_0_s (N : Nat) : LSum := ⟨slices_partialInsertionSortOrdered_int_l0_0_sh, slices_partialInsertionSortOrdered_int_l0_0_ex, fun x ks => slices_partialInsertionSortOrdered_int_l0_0_again N ks N x⟩
theorem slices_partialInsertionSortOrdered_int_l0_0_step (N : Nat) (R : Type) (k : Nat) (x : slices_partialInsertionSortOrdered_int_l0_0_sh.T) (ks : (j : Nat) → ((slices_partialInsertionSortOrdered_int_l0_0_ex.getD j (.ret, Sh.none)).2).T → Option R) : slices_partialInsertionSortOrdered_int_l0_0_again N ks (k + 1) x = roundF (slices_partialInsertionSortOrdered_int_G N) tab [] (loopAt (loopAt slices_partialInsertionSortOrdered_int_code 0) 0) slices_partialInsertionSortOrdered_int_l0_0_sh slices_partialInsertionSortOrdered_int_l0_0_ex (fun y => slices_partialInsertionSortOrdered_int_l0_0_again N ks k y) ks x := by kernel_rfl
theorem slices_partialInsertionSortOrdered_int_l0_0_ok (N : Nat) : LoopOk Try.prog Try.f178.ntmps (slices_partialInsertionSortOrdered_int_l0_0_s N) (loopAt (loopAt slices_partialInsertionSortOrdered_int_code 0) 0) :=
  loop_ok (l := slices_partialInsertionSortOrdered_int_l0_0_s N) progOk (slices_partialInsertionSortOrdered_int_gok N) (draw_ok progOk (slices_partialInsertionSortOrdered_int_gok N)) (fun R k x ks => slices_partialInsertionSortOrdered_int_l0_0_again N ks k x) (fun _ _ _ => rfl) (fun R k x ks => slices_partialInsertionSortOrdered_int_l0_0_step N R k x ks) (fun R x ks r h => ⟨N, h⟩) (lsOk_at (L := []) trivial) (by kernel_rfl) (by kernel_rfl)
noncomputable def slices_partialInsertionSortOrdered_int_l0_1_sh : Sh := ⟨[(0, .one (.ref 0)), (1, .one (.ro I)), (2, .one (.ro I)), (7, .one (.ro I)), (8, .one (.ro I)), (9, .one (.ro I))], [.sl 3 I .own]⟩
noncomputable def slices_partialInsertionSortOrdered_int_l0_1_ex : List (Ex × Sh) := [(.exit 4, ⟨[(0, .one (.ref 0)), (1, .one (.ro I)), (2, .one (.ro I)), (7, .one (.ro I)), (8, .one (.ro I))], [.sl 3 I .own]⟩)]
noncomputable def slices_partialInsertionSortOrdered_int_l0_1 {R : Type} (N : Nat) (k0 : Int → Int → Int → Int → (List Int) → Option R) : Nat → Int → Int → Int → Int → Int → (List Int) → Option R
  | 0, _, _, _, _, _, _ => none
  | K + 1, x8, x9, x10, x11, x12, o2 =>
    (br (ile 1 x12)
      ((chk (inb o2 x12)
        (chk (inb o2 (IntKind.i64.wrap (x12 - 1)))
        ((cmp_Less_int N (rdI o2 x12) (rdI o2 (IntKind.i64.wrap (x12 - 1)))).bind fun r =>
        (br (!r.1.1)
          (k0 x8 x9 x10 x11 o2)
          ((chk (inb o2 (IntKind.i64.wrap (x12 - 1)))
            (chk (inb o2 x12)
            (chk (inb o2 x12)
            (chk (inb (tSet o2 x12 (rdI o2 (IntKind.i64.wrap (x12 - 1)))) (IntKind.i64.wrap (x12 - 1)))
            (slices_partialInsertionSortOrdered_int_l0_1 N k0 K x8 x9 x10 x11 (IntKind.i64.wrap (x12 - 1)) (tSet (tSet o2 x12 (rdI o2 (IntKind.i64.wrap (x12 - 1)))) (IntKind.i64.wrap (x12 - 1)) (rdI o2 x12)))))))))))))
      (k0 x8 x9 x10 x11 o2))
noncomputable def slices_partialInsertionSortOrdered_int_l0_1_again {R : Type} (N : Nat) (ks : (j : Nat) → ((slices_partialInsertionSortOrdered_int_l0_1_ex.getD j (.ret, Sh.none)).2).T → Option R) (k : Nat) (x : slices_partialInsertionSortOrdered_int_l0_1_sh.T) : Option R :=
  slices_partialInsertionSortOrdered_int_l0_1 N (fun y0 y1 y2 y3 y4 => ks 0 (((), y0, y1, y2, y3, ()), (y4, ()))) k x.1.2.1 x.1.2.2.1 x.1.2.2.2.1 x.1.2.2.2.2.1 x.1.2.2.2.2.2.1 x.2.1
noncomputable def slices_partialInsertionSortOrdered_int_l0_1_s (N : Nat) : LSum := ⟨slices_partialInsertionSortOrdered_int_l0_1_sh, slices_partialInsertionSortOrdered_int_l0_1_ex, fun x ks => slices_partialInsertionSortOrdered_int_l0_1_again N ks N x⟩
theorem slices_partialInsertionSortOrdered_int_l0_1_step (N : Nat) (R : Type) (k : Nat) (x : slices_partialInsertionSortOrdered_int_l0_1_sh.T) (ks : (j : Nat) → ((slices_partialInsertionSortOrdered_int_l0_1_ex.getD j (.ret, Sh.none)).2).T → Option R) : slices_partialInsertionSortOrdered_int_l0_1_again N ks (k + 1) x = roundF (slices_partialInsertionSortOrdered_int_G N) tab [] (loopAt (loopAt slices_partialInsertionSortOrdered_int_code 0) 1) slices_partialInsertionSortOrdered_int_l0_1_sh slices_partialInsertionSortOrdered_int_l0_1_ex (fun y => slices_partialInsertionSortOrdered_int_l0_1_again N ks k y) ks x := by kernel_rfl
theorem slices_partialInsertionSortOrdered_int_l0_1_ok (N : Nat) : LoopOk Try.prog Try.f178.ntmps (slices_partialInsertionSortOrdered_int_l0_1_s N) (loopAt (loopAt slices_partialInsertionSortOrdered_int_code 0) 1) :=
  loop_ok (l := slices_partialInsertionSortOrdered_int_l0_1_s N) progOk (slices_partialInsertionSortOrdered_int_gok N) (draw_ok progOk (slices_partialInsertionSortOrdered_int_gok N)) (fun R k x ks => slices_partialInsertionSortOrdered_int_l0_1_again N ks k x) (fun _ _ _ => rfl) (fun R k x ks => slices_partialInsertionSortOrdered_int_l0_1_step N R k x ks) (fun R x ks r h => ⟨N, h⟩) (lsOk_at (L := []) trivial) (by kernel_rfl) (by kernel_rfl)
noncomputable def slices_partialInsertionSortOrdered_int_l0_2_sh : Sh := ⟨[(0, .one (.ref 0)), (1, .one (.ro I)), (2, .one (.ro I)), (7, .one (.ro I)), (8, .one (.ro I)), (10, .one (.ro I))], [.sl 3 I .own]⟩
noncomputable def slices_partialInsertionSortOrdered_int_l0_2_ex : List (Ex × Sh) := [(.exit 6, ⟨[(0, .one (.ref 0)), (1, .one (.ro I)), (2, .one (.ro I)), (7, .one (.ro I)), (8, .one (.ro I))], [.sl 3 I .own]⟩)]
noncomputable def slices_partialInsertionSortOrdered_int_l0_2 {R : Type} (N : Nat) (k0 : Int → Int → Int → Int → (List Int) → Option R) : Nat → Int → Int → Int → Int → Int → (List Int) → Option R
  | 0, _, _, _, _, _, _ => none
  | K + 1, x12, x13, x14, x15, x16, o3 =>
    (br (ilt x16 x13)
      ((chk (inb o3 x16)
        (chk (inb o3 (IntKind.i64.wrap (x16 - 1)))
        ((cmp_Less_int N (rdI o3 x16) (rdI o3 (IntKind.i64.wrap (x16 - 1)))).bind fun r =>
        (br (!r.1.1)
          (k0 x12 x13 x14 x15 o3)
          ((chk (inb o3 (IntKind.i64.wrap (x16 - 1)))
            (chk (inb o3 x16)
            (chk (inb o3 x16)
            (chk (inb (tSet o3 x16 (rdI o3 (IntKind.i64.wrap (x16 - 1)))) (IntKind.i64.wrap (x16 - 1)))
            (slices_partialInsertionSortOrdered_int_l0_2 N k0 K x12 x13 x14 x15 (IntKind.i64.wrap (x16 + 1)) (tSet (tSet o3 x16 (rdI o3 (IntKind.i64.wrap (x16 - 1)))) (IntKind.i64.wrap (x16 - 1)) (rdI o3 x16)))))))))))))
      (k0 x12 x13 x14 x15 o3))
noncomputable def slices_partialInsertionSortOrdered_int_l0_2_again {R : Type} (N : Nat) (ks : (j : Nat) → ((slices_partialInsertionSortOrdered_int_l0_2_ex.getD j (.ret, Sh.none)).2).T → Option R) (k : Nat) (x : slices_partialInsertionSortOrdered_int_l0_2_sh.T) : Option R :=
  slices_partialInsertionSortOrdered_int_l0_2 N (fun y0 y1 y2 y3 y4 => ks 0 (((), y0, y1, y2, y3, ()), (y4, ()))) k x.1.2.1 x.1.2.2.1 x.1.2.2.2.1 x.1.2.2.2.2.1 x.1.2.2.2.2.2.1 x.2.1
noncomputable def slices_partialInsertionSortOrdered_int_l0_2_s (N : Nat) : LSum := ⟨slices_partialInsertionSortOrdered_int_l0_2_sh, slices_partialInsertionSortOrdered_int_l0_2_ex, fun x ks => slices_partialInsertionSortOrdered_int_l0_2_again N ks N x⟩
theorem slices_partialInsertionSortOrdered_int_l0_2_step (N : Nat) (R : Type) (k : Nat) (x : slices_partialInsertionSortOrdered_int_l0_2_sh.T) (ks : (j : Nat) → ((slices_partialInsertionSortOrdered_int_l0_2_ex.getD j (.ret, Sh.none)).2).T → Option R) : slices_partialInsertionSortOrdered_int_l0_2_again N ks (k + 1) x = roundF (slices_partialInsertionSortOrdered_int_G N) tab [] (loopAt (loopAt slices_partialInsertionSortOrdered_int_code 0) 2) slices_partialInsertionSortOrdered_int_l0_2_sh slices_partialInsertionSortOrdered_int_l0_2_ex (fun y => slices_partialInsertionSortOrdered_int_l0_2_again N ks k y) ks x := by kernel_rfl
theorem slices_partialInsertionSortOrdered_int_l0_2_ok (N : Nat) : LoopOk Try.prog Try.f178.ntmps (slices_partialInsertionSortOrdered_int_l0_2_s N) (loopAt (loopAt slices_partialInsertionSortOrdered_int_code 0) 2) :=
  loop_ok (l := slices_partialInsertionSortOrdered_int_l0_2_s N) progOk (slices_partialInsertionSortOrdered_int_gok N) (draw_ok progOk (slices_partialInsertionSortOrdered_int_gok N)) (fun R k x ks => slices_partialInsertionSortOrdered_int_l0_2_again N ks k x) (fun _ _ _ => rfl) (fun R k x ks => slices_partialInsertionSortOrdered_int_l0_2_step N R k x ks) (fun R x ks r h => ⟨N, h⟩) (lsOk_at (L := []) trivial) (by kernel_rfl) (by kernel_rfl)
noncomputable def slices_partialInsertionSortOrdered_int_l0_sh : Sh := ⟨[(0, .one (.ref 0)), (1, .one (.ro I)), (2, .one (.ro I)), (7, .one (.ro I)), (8, .one (.ro I))], [.sl 3 I .own]⟩
noncomputable def slices_partialInsertionSortOrdered_int_l0_ex : List (Ex × Sh) := [(.ret, ⟨[(0, .one (.ref 0)), (6, .one (.ro .bool))], [.sl 3 I .own]⟩), (.exit 0, ⟨[(0, .one (.ref 0))], [.sl 3 I .own]⟩)]
noncomputable def slices_partialInsertionSortOrdered_int_l0 {R : Type} (N : Nat) (k0 : Bool → (List Int) → Option R) (k1 : (List Int) → Option R) : Nat → Int → Int → Int → Int → (List Int) → Option R
  | 0, _, _, _, _, _ => none
  | K + 1, x, x1, x2, x3, o =>
    (br (ilt x3 5)
      (slices_partialInsertionSortOrdered_int_l0_0 N (fun x4 x5 x6 x7 o1 => (br (ieq x6 x5)
        (k0 true o1)
        ((br (ilt (IntKind.i64.wrap (x5 - x4)) 50)
          (k0 false o1)
          ((chk (inb o1 (IntKind.i64.wrap (x6 - 1)))
            (chk (inb o1 x6)
            (chk (inb o1 x6)
            (chk (inb (tSet o1 x6 (rdI o1 (IntKind.i64.wrap (x6 - 1)))) (IntKind.i64.wrap (x6 - 1)))
            (br (ile 2 (IntKind.i64.wrap (x6 - x4)))
            (slices_partialInsertionSortOrdered_int_l0_1 N (fun x8 x9 x10 x11 o2 => (br (ile 2 (IntKind.i64.wrap (x9 - x10)))
              (slices_partialInsertionSortOrdered_int_l0_2 N (fun x12 x13 x14 x15 o3 => slices_partialInsertionSortOrdered_int_l0 N k0 k1 K x12 x13 x14 (IntKind.i64.wrap (x15 + 1)) o3) N x8 x9 x10 x11 (IntKind.i64.wrap (x10 + 1)) o2)
              (slices_partialInsertionSortOrdered_int_l0 N k0 k1 K x8 x9 x10 (IntKind.i64.wrap (x11 + 1)) o2))) N x4 x5 x6 x7 (IntKind.i64.wrap (x6 - 1)) (tSet (tSet o1 x6 (rdI o1 (IntKind.i64.wrap (x6 - 1)))) (IntKind.i64.wrap (x6 - 1)) (rdI o1 x6)))
            ((br (ile 2 (IntKind.i64.wrap (x5 - x6)))
              (slices_partialInsertionSortOrdered_int_l0_2 N (fun x16 x17 x18 x19 o4 => slices_partialInsertionSortOrdered_int_l0 N k0 k1 K x16 x17 x18 (IntKind.i64.wrap (x19 + 1)) o4) N x4 x5 x6 x7 (IntKind.i64.wrap (x6 + 1)) (tSet (tSet o1 x6 (rdI o1 (IntKind.i64.wrap (x6 - 1)))) (IntKind.i64.wrap (x6 - 1)) (rdI o1 x6)))
              (slices_partialInsertionSortOrdered_int_l0 N k0 k1 K x4 x5 x6 (IntKind.i64.wrap (x7 + 1)) (tSet (tSet o1 x6 (rdI o1 (IntKind.i64.wrap (x6 - 1)))) (IntKind.i64.wrap (x6 - 1)) (rdI o1 x6))))))))))))))) N x x1 x2 x3 o)
      (k1 o))
noncomputable def slices_partialInsertionSortOrdered_int_l0_again {R : Type} (N : Nat) (ks : (j : Nat) → ((slices_partialInsertionSortOrdered_int_l0_ex.getD j (.ret, Sh.none)).2).T → Option R) (k : Nat) (x : slices_partialInsertionSortOrdered_int_l0_sh.T) : Option R :=
  slices_partialInsertionSortOrdered_int_l0 N (fun y0 y1 => ks 0 (((), y0, ()), (y1, ()))) (fun y0 => ks 1 (((), ()), (y0, ()))) k x.1.2.1 x.1.2.2.1 x.1.2.2.2.1 x.1.2.2.2.2.1 x.2.1
noncomputable def slices_partialInsertionSortOrdered_int_l0_s (N : Nat) : LSum := ⟨slices_partialInsertionSortOrdered_int_l0_sh, slices_partialInsertionSortOrdered_int_l0_ex, fun x ks => slices_partialInsertionSortOrdered_int_l0_again N ks N x⟩
theorem slices_partialInsertionSortOrdered_int_l0_step (N : Nat) (R : Type) (k : Nat) (x : slices_partialInsertionSortOrdered_int_l0_sh.T) (ks : (j : Nat) → ((slices_partialInsertionSortOrdered_int_l0_ex.getD j (.ret, Sh.none)).2).T → Option R) : slices_partialInsertionSortOrdered_int_l0_again N ks (k + 1) x = roundF (slices_partialInsertionSortOrdered_int_G N) tab [slices_partialInsertionSortOrdered_int_l0_0_s N, slices_partialInsertionSortOrdered_int_l0_1_s N, slices_partialInsertionSortOrdered_int_l0_2_s N] (loopAt slices_partialInsertionSortOrdered_int_code 0) slices_partialInsertionSortOrdered_int_l0_sh slices_partialInsertionSortOrdered_int_l0_ex (fun y => slices_partialInsertionSortOrdered_int_l0_again N ks k y) ks x := by kernel_rfl
theorem slices_partialInsertionSortOrdered_int_l0_ok (N : Nat) : LoopOk Try.prog Try.f178.ntmps (slices_partialInsertionSortOrdered_int_l0_s N) (loopAt slices_partialInsertionSortOrdered_int_code 0) :=
  loop_ok (l := slices_partialInsertionSortOrdered_int_l0_s N) progOk (slices_partialInsertionSortOrdered_int_gok N) (draw_ok progOk (slices_partialInsertionSortOrdered_int_gok N)) (fun R k x ks => slices_partialInsertionSortOrdered_int_l0_again N ks k x) (fun _ _ _ => rfl) (fun R k x ks => slices_partialInsertionSortOrdered_int_l0_step N R k x ks) (fun R x ks r h => ⟨N, h⟩) (lsOk_at (L := [slices_partialInsertionSortOrdered_int_l0_0_s N, slices_partialInsertionSortOrdered_int_l0_1_s N, slices_partialInsertionSortOrdered_int_l0_2_s N]) ⟨slices_partialInsertionSortOrdered_int_l0_0_ok N, slices_partialInsertionSortOrdered_int_l0_1_ok N, slices_partialInsertionSortOrdered_int_l0_2_ok N, trivial⟩) (by kernel_rfl) (by kernel_rfl)
noncomputable def slices_partialInsertionSortOrdered_int (N : Nat) (c : (List Int)) (c1 : Int) (c2 : Int) : Option ((Bool × Unit) × ((List Int) × Unit)) :=
  slices_partialInsertionSortOrdered_int_l0 N (fun x o => some ((x, ()), (o, ()))) (fun o1 => some ((false, ()), (o1, ()))) N c1 c2 (IntKind.i64.wrap (c1 + 1)) 0 c
noncomputable def slices_partialInsertionSortOrdered_int_S (N : Nat) : FSum := ⟨slices_partialInsertionSortOrdered_int_ps, slices_partialInsertionSortOrdered_int_rs, fun x => slices_partialInsertionSortOrdered_int N x.1 x.2.1 x.2.2.1⟩
theorem slices_partialInsertionSortOrdered_int_run (N : Nat) (x : argsT slices_partialInsertionSortOrdered_int_ps) : slices_partialInsertionSortOrdered_int N x.1 x.2.1 x.2.2.1 = funF (slices_partialInsertionSortOrdered_int_G N) tab [slices_partialInsertionSortOrdered_int_l0_s N] Try.f178 slices_partialInsertionSortOrdered_int_ps slices_partialInsertionSortOrdered_int_rs x := by kernel_rfl
theorem slices_partialInsertionSortOrdered_int_pc (N : Nat) : PC Try.prog 178 (slices_partialInsertionSortOrdered_int_S N) := by
  have e : slices_partialInsertionSortOrdered_int_S N = ⟨slices_partialInsertionSortOrdered_int_ps, slices_partialInsertionSortOrdered_int_rs, funF (slices_partialInsertionSortOrdered_int_G N) tab [slices_partialInsertionSortOrdered_int_l0_s N] Try.f178 slices_partialInsertionSortOrdered_int_ps slices_partialInsertionSortOrdered_int_rs⟩ := congrArg (FSum.mk slices_partialInsertionSortOrdered_int_ps slices_partialInsertionSortOrdered_int_rs) (funext (slices_partialInsertionSortOrdered_int_run N))
  rw [e]
  exact fun_ok (c := slices_partialInsertionSortOrdered_int_code) progOk (slices_partialInsertionSortOrdered_int_gok N) (draw_ok progOk (slices_partialInsertionSortOrdered_int_gok N)) Try.call178 Try.func178 (by kernel_rfl) (lsOk_at (L := [slices_partialInsertionSortOrdered_int_l0_s N]) ⟨slices_partialInsertionSortOrdered_int_l0_ok N, trivial⟩) (by kernel_rfl) (by kernel_rfl) (by kernel_rfl) (by kernel_rfl) (by kernel_rfl)

/-! ### slices_pdqsortOrdered_int -/
abbrev slices_pdqsortOrdered_int_ps : List (PV.Mode × Ty) := [(.mut, LI), (.ro, I), (.ro, I), (.ro, I)]
abbrev slices_pdqsortOrdered_int_rs : List (Bool × Ty) := []
noncomputable def slices_pdqsortOrdered_int_G (N : Nat) : GTab := gOf [(173, slices_insertionSortOrdered_int_S N), (176, slices_choosePivotOrdered_int_S N), (178, slices_partialInsertionSortOrdered_int_S N), (179, cmp_Less_int_S N)]
theorem slices_pdqsortOrdered_int_gok (N : Nat) : GOk Try.prog (slices_pdqsortOrdered_int_G N) := gOf_ok ⟨slices_insertionSortOrdered_int_pc N, slices_choosePivotOrdered_int_pc N, slices_partialInsertionSortOrdered_int_pc N, cmp_Less_int_pc N, trivial⟩
noncomputable def slices_pdqsortOrdered_int_code : Code := (Try.f143.body).getD .skip
noncomputable def slices_pdqsortOrdered_int_l0_sh : Sh := ⟨[(0, .one (.ref 0)), (1, .one (.ro I)), (2, .one (.ro I)), (3, .one (.ro I)), (8, .one (.ro .bool)), (9, .one (.ro .bool))], [.sl 3 I .own]⟩
noncomputable def slices_pdqsortOrdered_int_l0_ex : List (Ex × Sh) := [(.ret, ⟨[(0, .one (.ref 0))], [.sl 3 I .own]⟩)]
noncomputable def slices_pdqsortOrdered_int_l0 {R : Type} (N : Nat) (k0 : (List Int) → Option R) : Nat → Int → Int → Int → Bool → Bool → (List Int) → Option R
  | 0, _, _, _, _, _, _ => none
  | K + 1, x, x1, x2, x3, x4, o =>
    (br (ile (IntKind.i64.wrap (x1 - x)) 12)
      (((slices_insertionSortOrdered_int N o x x1).bind fun r =>
        k0 r.2.1))
      ((br (ieq x2 0)
        (none)
        ((br (!x3)
          (none)
          (((slices_choosePivotOrdered_int N o x x1).bind fun r1 =>
            (br (ieq r1.1.2.1 2)
              (none)
              ((br x3
                ((br x4
                  ((br (ieq r1.1.2.1 1)
                    (((slices_partialInsertionSortOrdered_int N o x x1).bind fun r2 =>
                      (br r2.1.1
                        (k0 r2.2.1)
                        ((br (ilt 0 x)
                          ((chk (inb r2.2.1 (IntKind.i64.wrap (x - 1)))
                            (chk (inb r2.2.1 r1.1.1)
                            ((cmp_Less_int N (rdI r2.2.1 (IntKind.i64.wrap (x - 1))) (rdI r2.2.1 r1.1.1)).bind fun r3 =>
                            (br (!r3.1.1)
                              (none)
                              (none))))))
                          (none))))))
                    ((br (ilt 0 x)
                      ((chk (inb o (IntKind.i64.wrap (x - 1)))
                        (chk (inb o r1.1.1)
                        ((cmp_Less_int N (rdI o (IntKind.i64.wrap (x - 1))) (rdI o r1.1.1)).bind fun r4 =>
                        (br (!r4.1.1)
                          (none)
                          (none))))))
                      (none)))))
                  ((br (ilt 0 x)
                    ((chk (inb o (IntKind.i64.wrap (x - 1)))
                      (chk (inb o r1.1.1)
                      ((cmp_Less_int N (rdI o (IntKind.i64.wrap (x - 1))) (rdI o r1.1.1)).bind fun r5 =>
                      (br (!r5.1.1)
                        (none)
                        (none))))))
                    (none)))))
                ((br (ilt 0 x)
                  ((chk (inb o (IntKind.i64.wrap (x - 1)))
                    (chk (inb o r1.1.1)
                    ((cmp_Less_int N (rdI o (IntKind.i64.wrap (x - 1))) (rdI o r1.1.1)).bind fun r6 =>
                    (br (!r6.1.1)
                      (none)
                      (none))))))
                  (none)))))))))))))
noncomputable def slices_pdqsortOrdered_int_l0_again {R : Type} (N : Nat) (ks : (j : Nat) → ((slices_pdqsortOrdered_int_l0_ex.getD j (.ret, Sh.none)).2).T → Option R) (k : Nat) (x : slices_pdqsortOrdered_int_l0_sh.T) : Option R :=
  slices_pdqsortOrdered_int_l0 N (fun y0 => ks 0 (((), ()), (y0, ()))) k x.1.2.1 x.1.2.2.1 x.1.2.2.2.1 x.1.2.2.2.2.1 x.1.2.2.2.2.2.1 x.2.1
noncomputable def slices_pdqsortOrdered_int_l0_s (N : Nat) : LSum := ⟨slices_pdqsortOrdered_int_l0_sh, slices_pdqsortOrdered_int_l0_ex, fun x ks => slices_pdqsortOrdered_int_l0_again N ks N x⟩
theorem slices_pdqsortOrdered_int_l0_step (N : Nat) (R : Type) (k : Nat) (x : slices_pdqsortOrdered_int_l0_sh.T) (ks : (j : Nat) → ((slices_pdqsortOrdered_int_l0_ex.getD j (.ret, Sh.none)).2).T → Option R) : slices_pdqsortOrdered_int_l0_again N ks (k + 1) x = roundF (slices_pdqsortOrdered_int_G N) tab [] (loopAt slices_pdqsortOrdered_int_code 0) slices_pdqsortOrdered_int_l0_sh slices_pdqsortOrdered_int_l0_ex (fun y => slices_pdqsortOrdered_int_l0_again N ks k y) ks x := by kernel_rfl
theorem slices_pdqsortOrdered_int_l0_ok (N : Nat) : LoopOk Try.prog Try.f143.ntmps (slices_pdqsortOrdered_int_l0_s N) (loopAt slices_pdqsortOrdered_int_code 0) :=
  loop_ok (l := slices_pdqsortOrdered_int_l0_s N) progOk (slices_pdqsortOrdered_int_gok N) (draw_ok progOk (slices_pdqsortOrdered_int_gok N)) (fun R k x ks => slices_pdqsortOrdered_int_l0_again N ks k x) (fun _ _ _ => rfl) (fun R k x ks => slices_pdqsortOrdered_int_l0_step N R k x ks) (fun R x ks r h => ⟨N, h⟩) (lsOk_at (L := []) trivial) (by kernel_rfl) (by kernel_rfl)
noncomputable def slices_pdqsortOrdered_int (N : Nat) (c : (List Int)) (c1 : Int) (c2 : Int) (c3 : Int) : Option ((Unit) × ((List Int) × Unit)) :=
  slices_pdqsortOrdered_int_l0 N (fun o => some ((), (o, ()))) N c1 c2 c3 true true c
noncomputable def slices_pdqsortOrdered_int_S (N : Nat) : FSum := ⟨slices_pdqsortOrdered_int_ps, slices_pdqsortOrdered_int_rs, fun x => slices_pdqsortOrdered_int N x.1 x.2.1 x.2.2.1 x.2.2.2.1⟩
theorem slices_pdqsortOrdered_int_run (N : Nat) (x : argsT slices_pdqsortOrdered_int_ps) : slices_pdqsortOrdered_int N x.1 x.2.1 x.2.2.1 x.2.2.2.1 = funF (slices_pdqsortOrdered_int_G N) tab [slices_pdqsortOrdered_int_l0_s N] Try.f143 slices_pdqsortOrdered_int_ps slices_pdqsortOrdered_int_rs x := by kernel_rfl
theorem slices_pdqsortOrdered_int_pc (N : Nat) : PC Try.prog 143 (slices_pdqsortOrdered_int_S N) := by
  have e : slices_pdqsortOrdered_int_S N = ⟨slices_pdqsortOrdered_int_ps, slices_pdqsortOrdered_int_rs, funF (slices_pdqsortOrdered_int_G N) tab [slices_pdqsortOrdered_int_l0_s N] Try.f143 slices_pdqsortOrdered_int_ps slices_pdqsortOrdered_int_rs⟩ := congrArg (FSum.mk slices_pdqsortOrdered_int_ps slices_pdqsortOrdered_int_rs) (funext (slices_pdqsortOrdered_int_run N))
  rw [e]
  exact fun_ok (c := slices_pdqsortOrdered_int_code) progOk (slices_pdqsortOrdered_int_gok N) (draw_ok progOk (slices_pdqsortOrdered_int_gok N)) Try.call143 Try.func143 (by kernel_rfl) (lsOk_at (L := [slices_pdqsortOrdered_int_l0_s N]) ⟨slices_pdqsortOrdered_int_l0_ok N, trivial⟩) (by kernel_rfl) (by kernel_rfl) (by kernel_rfl) (by kernel_rfl) (by kernel_rfl)

/-! ### slices_Sort_LI_int -/
abbrev slices_Sort_LI_int_ps : List (PV.Mode × Ty) := [(.mut, LI)]
abbrev slices_Sort_LI_int_rs : List (Bool × Ty) := []
noncomputable def slices_Sort_LI_int_G (N : Nat) : GTab := gOf [(127, math_bits_Len_S N), (143, slices_pdqsortOrdered_int_S N)]
theorem slices_Sort_LI_int_gok (N : Nat) : GOk Try.prog (slices_Sort_LI_int_G N) := gOf_ok ⟨math_bits_Len_pc N, slices_pdqsortOrdered_int_pc N, trivial⟩
noncomputable def slices_Sort_LI_int_code : Code := (Try.f103.body).getD .skip
noncomputable def slices_Sort_LI_int (N : Nat) (x : (List Int)) : Option ((Unit) × ((List Int) × Unit)) :=
  ((math_bits_Len N (IntKind.u64.wrap ((tLen x)))).bind fun r =>
    ((slices_pdqsortOrdered_int N x 0 (tLen x) r.1.1).bind fun r1 =>
      some ((), (r1.2.1, ()))))
noncomputable def slices_Sort_LI_int_S (N : Nat) : FSum := ⟨slices_Sort_LI_int_ps, slices_Sort_LI_int_rs, fun x => slices_Sort_LI_int N x.1⟩
theorem slices_Sort_LI_int_run (N : Nat) (x : argsT slices_Sort_LI_int_ps) : slices_Sort_LI_int N x.1 = funF (slices_Sort_LI_int_G N) tab [] Try.f103 slices_Sort_LI_int_ps slices_Sort_LI_int_rs x := by kernel_rfl
theorem slices_Sort_LI_int_pc (N : Nat) : PC Try.prog 103 (slices_Sort_LI_int_S N) := by
  have e : slices_Sort_LI_int_S N = ⟨slices_Sort_LI_int_ps, slices_Sort_LI_int_rs, funF (slices_Sort_LI_int_G N) tab [] Try.f103 slices_Sort_LI_int_ps slices_Sort_LI_int_rs⟩ := congrArg (FSum.mk slices_Sort_LI_int_ps slices_Sort_LI_int_rs) (funext (slices_Sort_LI_int_run N))
  rw [e]
  exact fun_ok (c := slices_Sort_LI_int_code) progOk (slices_Sort_LI_int_gok N) (draw_ok progOk (slices_Sort_LI_int_gok N)) Try.call103 Try.func103 (by kernel_rfl) (lsOk_at (L := []) trivial) (by kernel_rfl) (by kernel_rfl) (by kernel_rfl) (by kernel_rfl) (by kernel_rfl)

/-! ### impl_Space_roads -/
abbrev impl_Space_roads_ps : List (PV.Mode × Ty) := [(.ro, QLLILQII)]
abbrev impl_Space_roads_rs : List (Bool × Ty) := [(true, LLI)]
noncomputable def impl_Space_roads_G (N : Nat) : GTab := gOf [(103, slices_Sort_LI_int_S N)]
theorem impl_Space_roads_gok (N : Nat) : GOk Try.prog (impl_Space_roads_G N) := gOf_ok ⟨slices_Sort_LI_int_pc N, trivial⟩
noncomputable def impl_Space_roads_code : Code := (Try.f61.body).getD .skip
noncomputable def impl_Space_roads_l0_sh : Sh := ⟨[(3, .one (.ref 0)), (13, .one (.ro LQII)), (14, .one (.ro I)), (15, .one (.ro I))], [.sl 43 LI .deep]⟩
noncomputable def impl_Space_roads_l0_ex : List (Ex × Sh) := [(.exit 0, ⟨[(3, .one (.ref 0))], [.sl 43 LI .deep]⟩)]
noncomputable def impl_Space_roads_l0 {R : Type} (N : Nat) (k0 : (List (List Int)) → Option R) : Nat → (List (Int × Int)) → Int → Int → (List (List Int)) → Option R
  | 0, _, _, _, _ => none
  | K + 1, x1, x2, x3, o =>
    (br (ilt x3 x2)
      ((chk (inb x1 x3)
        (chk (inb o ((rdP x1 x3).1))
        (chk (room (rdL o ((rdP x1 x3).1)) [(rdP x1 x3).2])
        (chk (inb o ((rdP x1 x3).1))
        (chk (ieq ((rdP x1 x3).1) ((rdP x1 x3).1))
        (chk (inb (tSet o ((rdP x1 x3).1) (tApp (rdL o ((rdP x1 x3).1)) [(rdP x1 x3).2])) ((rdP x1 x3).2))
        (chk (room (rdL (tSet o ((rdP x1 x3).1) (tApp (rdL o ((rdP x1 x3).1)) [(rdP x1 x3).2])) ((rdP x1 x3).2)) [(rdP x1 x3).1])
        (chk (inb (tSet o ((rdP x1 x3).1) (tApp (rdL o ((rdP x1 x3).1)) [(rdP x1 x3).2])) ((rdP x1 x3).2))
        (chk (ieq ((rdP x1 x3).2) ((rdP x1 x3).2))
        (impl_Space_roads_l0 N k0 K x1 x2 (IntKind.i64.wrap (x3 + 1)) (tSet (tSet o ((rdP x1 x3).1) (tApp (rdL o ((rdP x1 x3).1)) [(rdP x1 x3).2])) ((rdP x1 x3).2) (tApp (rdL (tSet o ((rdP x1 x3).1) (tApp (rdL o ((rdP x1 x3).1)) [(rdP x1 x3).2])) ((rdP x1 x3).2)) [(rdP x1 x3).1])))))))))))))
      (k0 o))
noncomputable def impl_Space_roads_l0_again {R : Type} (N : Nat) (ks : (j : Nat) → ((impl_Space_roads_l0_ex.getD j (.ret, Sh.none)).2).T → Option R) (k : Nat) (x : impl_Space_roads_l0_sh.T) : Option R :=
  impl_Space_roads_l0 N (fun y0 => ks 0 (((), ()), (y0, ()))) k x.1.2.1 x.1.2.2.1 x.1.2.2.2.1 x.2.1
noncomputable def impl_Space_roads_l0_s (N : Nat) : LSum := ⟨impl_Space_roads_l0_sh, impl_Space_roads_l0_ex, fun x ks => impl_Space_roads_l0_again N ks N x⟩
theorem impl_Space_roads_l0_step (N : Nat) (R : Type) (k : Nat) (x : impl_Space_roads_l0_sh.T) (ks : (j : Nat) → ((impl_Space_roads_l0_ex.getD j (.ret, Sh.none)).2).T → Option R) : impl_Space_roads_l0_again N ks (k + 1) x = roundF (impl_Space_roads_G N) tab [] (loopAt impl_Space_roads_code 0) impl_Space_roads_l0_sh impl_Space_roads_l0_ex (fun y => impl_Space_roads_l0_again N ks k y) ks x := by kernel_rfl
theorem impl_Space_roads_l0_ok (N : Nat) : LoopOk Try.prog Try.f61.ntmps (impl_Space_roads_l0_s N) (loopAt impl_Space_roads_code 0) :=
  loop_ok (l := impl_Space_roads_l0_s N) progOk (impl_Space_roads_gok N) (draw_ok progOk (impl_Space_roads_gok N)) (fun R k x ks => impl_Space_roads_l0_again N ks k x) (fun _ _ _ => rfl) (fun R k x ks => impl_Space_roads_l0_step N R k x ks) (fun R x ks r h => ⟨N, h⟩) (lsOk_at (L := []) trivial) (by kernel_rfl) (by kernel_rfl)
noncomputable def impl_Space_roads_l1_sh : Sh := ⟨[(3, .one (.ref 0)), (46, .one (.ref 0)), (47, .one (.ro I)), (48, .one (.ro I))], [.sl 43 LI .deep]⟩
noncomputable def impl_Space_roads_l1_ex : List (Ex × Sh) := [(.exit 2, ⟨[(3, .one (.ref 0))], [.sl 43 LI .deep]⟩)]
noncomputable def impl_Space_roads_l1 {R : Type} (N : Nat) (k0 : (List (List Int)) → Option R) : Nat → Int → Int → (List (List Int)) → Option R
  | 0, _, _, _ => none
  | K + 1, x1, x2, o1 =>
    (br (ilt x2 x1)
      ((chk (inb o1 x2)
        ((slices_Sort_LI_int N (rdL o1 x2)).bind fun r =>
        impl_Space_roads_l1 N k0 K x1 (IntKind.i64.wrap (x2 + 1)) (tSet o1 x2 r.2.1))))
      (k0 o1))
noncomputable def impl_Space_roads_l1_again {R : Type} (N : Nat) (ks : (j : Nat) → ((impl_Space_roads_l1_ex.getD j (.ret, Sh.none)).2).T → Option R) (k : Nat) (x : impl_Space_roads_l1_sh.T) : Option R :=
  impl_Space_roads_l1 N (fun y0 => ks 0 (((), ()), (y0, ()))) k x.1.2.2.1 x.1.2.2.2.1 x.2.1
noncomputable def impl_Space_roads_l1_s (N : Nat) : LSum := ⟨impl_Space_roads_l1_sh, impl_Space_roads_l1_ex, fun x ks => impl_Space_roads_l1_again N ks N x⟩
theorem impl_Space_roads_l1_step (N : Nat) (R : Type) (k : Nat) (x : impl_Space_roads_l1_sh.T) (ks : (j : Nat) → ((impl_Space_roads_l1_ex.getD j (.ret, Sh.none)).2).T → Option R) : impl_Space_roads_l1_again N ks (k + 1) x = roundF (impl_Space_roads_G N) tab [] (loopAt impl_Space_roads_code 1) impl_Space_roads_l1_sh impl_Space_roads_l1_ex (fun y => impl_Space_roads_l1_again N ks k y) ks x := by kernel_rfl
theorem impl_Space_roads_l1_ok (N : Nat) : LoopOk Try.prog Try.f61.ntmps (impl_Space_roads_l1_s N) (loopAt impl_Space_roads_code 1) :=
  loop_ok (l := impl_Space_roads_l1_s N) progOk (impl_Space_roads_gok N) (draw_ok progOk (impl_Space_roads_gok N)) (fun R k x ks => impl_Space_roads_l1_again N ks k x) (fun _ _ _ => rfl) (fun R k x ks => impl_Space_roads_l1_step N R k x ks) (fun R x ks r h => ⟨N, h⟩) (lsOk_at (L := []) trivial) (by kernel_rfl) (by kernel_rfl)
noncomputable def impl_Space_roads (N : Nat) (x : ((List (List Int)) × (List (Int × Int)))) : Option (((List (List Int)) × Unit) × (Unit)) :=
  (chk (ile 0 (tLen x.1) && ile (tLen x.1) (tLen x.1) && fits (tLen x.1))
    (impl_Space_roads_l0 N (fun o => impl_Space_roads_l1 N (fun o1 => some ((o1, ()), ())) N (tLen o) 0 o) N x.2 (tLen x.2) 0 (tRep (tLen x.1) [])))
noncomputable def impl_Space_roads_S (N : Nat) : FSum := ⟨impl_Space_roads_ps, impl_Space_roads_rs, fun x => impl_Space_roads N x.1⟩
theorem impl_Space_roads_run (N : Nat) (x : argsT impl_Space_roads_ps) : impl_Space_roads N x.1 = funF (impl_Space_roads_G N) tab [impl_Space_roads_l0_s N, impl_Space_roads_l1_s N] Try.f61 impl_Space_roads_ps impl_Space_roads_rs x := by kernel_rfl
theorem impl_Space_roads_pc (N : Nat) : PC Try.prog 61 (impl_Space_roads_S N) := by
  have e : impl_Space_roads_S N = ⟨impl_Space_roads_ps, impl_Space_roads_rs, funF (impl_Space_roads_G N) tab [impl_Space_roads_l0_s N, impl_Space_roads_l1_s N] Try.f61 impl_Space_roads_ps impl_Space_roads_rs⟩ := congrArg (FSum.mk impl_Space_roads_ps impl_Space_roads_rs) (funext (impl_Space_roads_run N))
  rw [e]
  exact fun_ok (c := impl_Space_roads_code) progOk (impl_Space_roads_gok N) (draw_ok progOk (impl_Space_roads_gok N)) Try.call61 Try.func61 (by kernel_rfl) (lsOk_at (L := [impl_Space_roads_l0_s N, impl_Space_roads_l1_s N]) ⟨impl_Space_roads_l0_ok N, impl_Space_roads_l1_ok N, trivial⟩) (by kernel_rfl) (by kernel_rfl) (by kernel_rfl) (by kernel_rfl) (by kernel_rfl)

/-! ### math_bits_Mul64 -/
abbrev math_bits_Mul64_ps : List (PV.Mode × Ty) := [(.ro, U64), (.ro, U64)]
abbrev math_bits_Mul64_rs : List (Bool × Ty) := [(true, U64), (true, U64)]
noncomputable def math_bits_Mul64_G (N : Nat) : GTab := gOf []
theorem math_bits_Mul64_gok (N : Nat) : GOk Try.prog (math_bits_Mul64_G N) := gOf_ok trivial
noncomputable def math_bits_Mul64_code : Code := (Try.f210.body).getD .skip
noncomputable def math_bits_Mul64 (N : Nat) (x : Int) (y : Int) : Option ((Int × Int × Unit) × (Unit)) :=
  some (((IntKind.u64.wrap ((IntKind.u64.wrap ((IntKind.u64.wrap ((shrI .u64 x 32) * (shrI .u64 y 32))) + (shrI .u64 (IntKind.u64.wrap ((IntKind.u64.wrap ((shrI .u64 x 32) * (bitop .and .u64 y 4294967295))) + (shrI .u64 (IntKind.u64.wrap ((bitop .and .u64 x 4294967295) * (bitop .and .u64 y 4294967295))) 32))) 32))) + (shrI .u64 (IntKind.u64.wrap ((bitop .and .u64 (IntKind.u64.wrap ((IntKind.u64.wrap ((shrI .u64 x 32) * (bitop .and .u64 y 4294967295))) + (shrI .u64 (IntKind.u64.wrap ((bitop .and .u64 x 4294967295) * (bitop .and .u64 y 4294967295))) 32))) 4294967295) + (IntKind.u64.wrap ((bitop .and .u64 x 4294967295) * (shrI .u64 y 32))))) 32))), (IntKind.u64.wrap (x * y)), ()), ())
noncomputable def math_bits_Mul64_S (N : Nat) : FSum := ⟨math_bits_Mul64_ps, math_bits_Mul64_rs, fun x => math_bits_Mul64 N x.1 x.2.1⟩
theorem math_bits_Mul64_run (N : Nat) (x : argsT math_bits_Mul64_ps) : math_bits_Mul64 N x.1 x.2.1 = funF (math_bits_Mul64_G N) tab [] Try.f210 math_bits_Mul64_ps math_bits_Mul64_rs x := by kernel_rfl
theorem math_bits_Mul64_pc (N : Nat) : PC Try.prog 210 (math_bits_Mul64_S N) := by
  have e : math_bits_Mul64_S N = ⟨math_bits_Mul64_ps, math_bits_Mul64_rs, funF (math_bits_Mul64_G N) tab [] Try.f210 math_bits_Mul64_ps math_bits_Mul64_rs⟩ := congrArg (FSum.mk math_bits_Mul64_ps math_bits_Mul64_rs) (funext (math_bits_Mul64_run N))
  rw [e]
  exact fun_ok (c := math_bits_Mul64_code) progOk (math_bits_Mul64_gok N) (draw_ok progOk (math_bits_Mul64_gok N)) Try.call210 Try.func210 (by kernel_rfl) (lsOk_at (L := []) trivial) (by kernel_rfl) (by kernel_rfl) (by kernel_rfl) (by kernel_rfl) (by kernel_rfl)

/-! ### math_bits_Mul -/
abbrev math_bits_Mul_ps : List (PV.Mode × Ty) := [(.ro, U64), (.ro, U64)]
abbrev math_bits_Mul_rs : List (Bool × Ty) := [(true, U64), (true, U64)]
noncomputable def math_bits_Mul_G (N : Nat) : GTab := gOf [(210, math_bits_Mul64_S N)]
theorem math_bits_Mul_gok (N : Nat) : GOk Try.prog (math_bits_Mul_G N) := gOf_ok ⟨math_bits_Mul64_pc N, trivial⟩
noncomputable def math_bits_Mul_code : Code := (Try.f208.body).getD .skip
noncomputable def math_bits_Mul (N : Nat) (x : Int) (y : Int) : Option ((Int × Int × Unit) × (Unit)) :=
  ((math_bits_Mul64 N x y).bind fun r =>
    some ((r.1.1, r.1.2.1, ()), ()))
noncomputable def math_bits_Mul_S (N : Nat) : FSum := ⟨math_bits_Mul_ps, math_bits_Mul_rs, fun x => math_bits_Mul N x.1 x.2.1⟩
theorem math_bits_Mul_run (N : Nat) (x : argsT math_bits_Mul_ps) : math_bits_Mul N x.1 x.2.1 = funF (math_bits_Mul_G N) tab [] Try.f208 math_bits_Mul_ps math_bits_Mul_rs x := by kernel_rfl
theorem math_bits_Mul_pc (N : Nat) : PC Try.prog 208 (math_bits_Mul_S N) := by
  have e : math_bits_Mul_S N = ⟨math_bits_Mul_ps, math_bits_Mul_rs, funF (math_bits_Mul_G N) tab [] Try.f208 math_bits_Mul_ps math_bits_Mul_rs⟩ := congrArg (FSum.mk math_bits_Mul_ps math_bits_Mul_rs) (funext (math_bits_Mul_run N))
  rw [e]
  exact fun_ok (c := math_bits_Mul_code) progOk (math_bits_Mul_gok N) (draw_ok progOk (math_bits_Mul_gok N)) Try.call208 Try.func208 (by kernel_rfl) (lsOk_at (L := []) trivial) (by kernel_rfl) (by kernel_rfl) (by kernel_rfl) (by kernel_rfl) (by kernel_rfl)

/-! ### slices_Repeat_LI_int -/
abbrev slices_Repeat_LI_int_ps : List (PV.Mode × Ty) := [(.ro, LI), (.ro, I)]
abbrev slices_Repeat_LI_int_rs : List (Bool × Ty) := [(true, LI)]
noncomputable def slices_Repeat_LI_int_G (N : Nat) : GTab := gOf [(208, math_bits_Mul_S N)]
theorem slices_Repeat_LI_int_gok (N : Nat) : GOk Try.prog (slices_Repeat_LI_int_G N) := gOf_ok ⟨math_bits_Mul_pc N, trivial⟩
noncomputable def slices_Repeat_LI_int_code : Code := (Try.f204.body).getD .skip
noncomputable def slices_Repeat_LI_int_l0_sh : Sh := ⟨[(7, .one (.ref 0)), (8, .one (.ro I))], [.sl 3 I .own]⟩
noncomputable def slices_Repeat_LI_int_l0_ex : List (Ex × Sh) := [(.exit 0, ⟨[(7, .one (.ref 0))], [.sl 3 I .own]⟩)]
noncomputable def slices_Repeat_LI_int_l0 {R : Type} (N : Nat) (k0 : (List Int) → Option R) : Nat → Int → (List Int) → Option R
  | 0, _, _ => none
  | K + 1, n, o =>
    (br (ilt n (tLen o))
      ((chk (ile 0 n && ile n (tLen o) && ile (tLen o) (tLen o))
        (chk (ile 0 0 && ile 0 n && ile n (tLen o))
        (slices_Repeat_LI_int_l0 N k0 K (IntKind.i64.wrap (n + (tMin ((tLen o) - n) (tLen (tCut o 0 n))))) (tPut o n (tCut (tCut o 0 n) 0 (tMin ((tLen o) - n) (tLen (tCut o 0 n)))))))))
      (k0 o))
noncomputable def slices_Repeat_LI_int_l0_again {R : Type} (N : Nat) (ks : (j : Nat) → ((slices_Repeat_LI_int_l0_ex.getD j (.ret, Sh.none)).2).T → Option R) (k : Nat) (x : slices_Repeat_LI_int_l0_sh.T) : Option R :=
  slices_Repeat_LI_int_l0 N (fun y0 => ks 0 (((), ()), (y0, ()))) k x.1.2.1 x.2.1
noncomputable def slices_Repeat_LI_int_l0_s (N : Nat) : LSum := ⟨slices_Repeat_LI_int_l0_sh, slices_Repeat_LI_int_l0_ex, fun x ks => slices_Repeat_LI_int_l0_again N ks N x⟩
theorem slices_Repeat_LI_int_l0_step (N : Nat) (R : Type) (k : Nat) (x : slices_Repeat_LI_int_l0_sh.T) (ks : (j : Nat) → ((slices_Repeat_LI_int_l0_ex.getD j (.ret, Sh.none)).2).T → Option R) : slices_Repeat_LI_int_l0_again N ks (k + 1) x = roundF (slices_Repeat_LI_int_G N) tab [] (loopAt slices_Repeat_LI_int_code 0) slices_Repeat_LI_int_l0_sh slices_Repeat_LI_int_l0_ex (fun y => slices_Repeat_LI_int_l0_again N ks k y) ks x := by kernel_rfl
theorem slices_Repeat_LI_int_l0_ok (N : Nat) : LoopOk Try.prog Try.f204.ntmps (slices_Repeat_LI_int_l0_s N) (loopAt slices_Repeat_LI_int_code 0) :=
  loop_ok (l := slices_Repeat_LI_int_l0_s N) progOk (slices_Repeat_LI_int_gok N) (draw_ok progOk (slices_Repeat_LI_int_gok N)) (fun R k x ks => slices_Repeat_LI_int_l0_again N ks k x) (fun _ _ _ => rfl) (fun R k x ks => slices_Repeat_LI_int_l0_step N R k x ks) (fun R x ks r h => ⟨N, h⟩) (lsOk_at (L := []) trivial) (by kernel_rfl) (by kernel_rfl)
noncomputable def slices_Repeat_LI_int (N : Nat) (x : (List Int)) (count : Int) : Option (((List Int) × Unit) × (Unit)) :=
  (br (ilt count 0)
    (none)
    (((math_bits_Mul N (IntKind.u64.wrap ((tLen x))) (IntKind.u64.wrap (count))).bind fun r =>
      (br (ilt 0 r.1.1)
        (none)
        ((br (ilt 9223372036854775807 r.1.2.1)
          (none)
          ((chk (ile 0 (IntKind.i64.wrap (r.1.2.1)) && ile (IntKind.i64.wrap (r.1.2.1)) (IntKind.i64.wrap (r.1.2.1)) && fits (IntKind.i64.wrap (r.1.2.1)))
            (slices_Repeat_LI_int_l0 N (fun o => some ((o, ()), ())) N (tMin (tLen (tRep (IntKind.i64.wrap (r.1.2.1)) (0 : Int))) (tLen x)) (tPut (tRep (IntKind.i64.wrap (r.1.2.1)) (0 : Int)) 0 (tCut x 0 (tMin (tLen (tRep (IntKind.i64.wrap (r.1.2.1)) (0 : Int))) (tLen x)))))))))))))
noncomputable def slices_Repeat_LI_int_S (N : Nat) : FSum := ⟨slices_Repeat_LI_int_ps, slices_Repeat_LI_int_rs, fun x => slices_Repeat_LI_int N x.1 x.2.1⟩
theorem slices_Repeat_LI_int_run (N : Nat) (x : argsT slices_Repeat_LI_int_ps) : slices_Repeat_LI_int N x.1 x.2.1 = funF (slices_Repeat_LI_int_G N) tab [slices_Repeat_LI_int_l0_s N] Try.f204 slices_Repeat_LI_int_ps slices_Repeat_LI_int_rs x := by kernel_rfl
theorem slices_Repeat_LI_int_pc (N : Nat) : PC Try.prog 204 (slices_Repeat_LI_int_S N) := by
  have e : slices_Repeat_LI_int_S N = ⟨slices_Repeat_LI_int_ps, slices_Repeat_LI_int_rs, funF (slices_Repeat_LI_int_G N) tab [slices_Repeat_LI_int_l0_s N] Try.f204 slices_Repeat_LI_int_ps slices_Repeat_LI_int_rs⟩ := congrArg (FSum.mk slices_Repeat_LI_int_ps slices_Repeat_LI_int_rs) (funext (slices_Repeat_LI_int_run N))
  rw [e]
  exact fun_ok (c := slices_Repeat_LI_int_code) progOk (slices_Repeat_LI_int_gok N) (draw_ok progOk (slices_Repeat_LI_int_gok N)) Try.call204 Try.func204 (by kernel_rfl) (lsOk_at (L := [slices_Repeat_LI_int_l0_s N]) ⟨slices_Repeat_LI_int_l0_ok N, trivial⟩) (by kernel_rfl) (by kernel_rfl) (by kernel_rfl) (by kernel_rfl) (by kernel_rfl)

/-! ### impl_spread -/
abbrev impl_spread_ps : List (PV.Mode × Ty) := [(.ro, LLI), (.ro, I)]
abbrev impl_spread_rs : List (Bool × Ty) := [(true, LI)]
noncomputable def impl_spread_G (N : Nat) : GTab := gOf [(204, slices_Repeat_LI_int_S N)]
theorem impl_spread_gok (N : Nat) : GOk Try.prog (impl_spread_G N) := gOf_ok ⟨slices_Repeat_LI_int_pc N, trivial⟩
noncomputable def impl_spread_code : Code := (Try.f187.body).getD .skip
noncomputable def impl_spread_l0_0_sh : Sh := ⟨[(0, .one (.ro LLI)), (5, .one (.ref 0)), (6, .one (.sub 1 1)), (7, .one (.ro I)), (30, .one (.ro LI)), (31, .one (.ro I)), (32, .one (.ro I))], [.sl 3 I .own, .sl 3 I .own]⟩
noncomputable def impl_spread_l0_0_ex : List (Ex × Sh) := [(.exit 2, ⟨[(0, .one (.ro LLI)), (5, .one (.ref 0)), (6, .one (.sub 1 1))], [.sl 3 I .own, .sl 3 I .own]⟩)]
noncomputable def impl_spread_l0_0 {R : Type} (N : Nat) (k0 : (List (List Int)) → Int → Int → (List Int) → (List Int) → Option R) : Nat → (List (List Int)) → Int → Int → Int → (List Int) → Int → Int → (List Int) → (List Int) → Option R
  | 0, _, _, _, _, _, _, _, _, _ => none
  | K + 1, roads2, queue2, queue3, i, x, x1, x2, o2, o3 =>
    (br (ilt x2 x1)
      ((chk (inb x x2)
        (chk (inb o2 (rdI x x2))
        (br (ilt (rdI o2 (rdI x x2)) 0)
        ((chk (inb o2 i)
          (chk (inb o2 (rdI x x2))
          (chk (room (tCut o3 queue2 queue3) [(rdI x x2)])
          (impl_spread_l0_0 N k0 K roads2 0 (tLen (tApp (tCut o3 queue2 queue3) [(rdI x x2)])) i x x1 (IntKind.i64.wrap (x2 + 1)) (tSet o2 (rdI x x2) (IntKind.i64.wrap ((rdI o2 i) + 1))) (tApp (tCut o3 queue2 queue3) [(rdI x x2)]))))))
        (impl_spread_l0_0 N k0 K roads2 queue2 queue3 i x x1 (IntKind.i64.wrap (x2 + 1)) o2 o3)))))
      (k0 roads2 queue2 queue3 o2 o3))
noncomputable def impl_spread_l0_0_again {R : Type} (N : Nat) (ks : (j : Nat) → ((impl_spread_l0_0_ex.getD j (.ret, Sh.none)).2).T → Option R) (k : Nat) (x : impl_spread_l0_0_sh.T) : Option R :=
  impl_spread_l0_0 N (fun y0 y1 y2 y3 y4 => ks 0 ((y0, (), (y1, y2), ()), (y3, y4, ()))) k x.1.1 x.1.2.2.1.1 x.1.2.2.1.2 x.1.2.2.2.1 x.1.2.2.2.2.1 x.1.2.2.2.2.2.1 x.1.2.2.2.2.2.2.1 x.2.1 x.2.2.1
noncomputable def impl_spread_l0_0_s (N : Nat) : LSum := ⟨impl_spread_l0_0_sh, impl_spread_l0_0_ex, fun x ks => impl_spread_l0_0_again N ks N x⟩
theorem impl_spread_l0_0_step (N : Nat) (R : Type) (k : Nat) (x : impl_spread_l0_0_sh.T) (ks : (j : Nat) → ((impl_spread_l0_0_ex.getD j (.ret, Sh.none)).2).T → Option R) : impl_spread_l0_0_again N ks (k + 1) x = roundF (impl_spread_G N) tab [] (loopAt (loopAt impl_spread_code 0) 0) impl_spread_l0_0_sh impl_spread_l0_0_ex (fun y => impl_spread_l0_0_again N ks k y) ks x := by kernel_rfl
theorem impl_spread_l0_0_ok (N : Nat) : LoopOk Try.prog Try.f187.ntmps (impl_spread_l0_0_s N) (loopAt (loopAt impl_spread_code 0) 0) :=
  loop_ok (l := impl_spread_l0_0_s N) progOk (impl_spread_gok N) (draw_ok progOk (impl_spread_gok N)) (fun R k x ks => impl_spread_l0_0_again N ks k x) (fun _ _ _ => rfl) (fun R k x ks => impl_spread_l0_0_step N R k x ks) (fun R x ks r h => ⟨N, h⟩) (lsOk_at (L := []) trivial) (by kernel_rfl) (by kernel_rfl)
noncomputable def impl_spread_l0_sh : Sh := ⟨[(0, .one (.ro LLI)), (5, .one (.ref 0)), (6, .one (.sub 1 1))], [.sl 3 I .own, .sl 3 I .own]⟩
noncomputable def impl_spread_l0_ex : List (Ex × Sh) := [(.exit 0, ⟨[(5, .one (.ref 0))], [.sl 3 I .own]⟩)]
noncomputable def impl_spread_l0 {R : Type} (N : Nat) (k0 : (List Int) → Option R) : Nat → (List (List Int)) → Int → Int → (List Int) → (List Int) → Option R
  | 0, _, _, _, _, _ => none
  | K + 1, roads1, queue, queue1, o, o1 =>
    (br (ilt 0 (queue1 - queue))
      ((chk (ile 0 0 && ilt 0 (queue1 - queue))
        (chk (ile 0 1 && ile 1 (queue1 - queue) && ile (queue1 - queue) (queue1 - queue))
        (chk (inb roads1 (rdI o1 (queue + 0)))
        (impl_spread_l0_0 N (fun roads2 queue2 queue3 o2 o3 => impl_spread_l0 N k0 K roads2 queue2 queue3 o2 o3) N roads1 (queue + 1) (queue + (queue1 - queue)) (rdI o1 (queue + 0)) (rdL roads1 (rdI o1 (queue + 0))) (tLen (rdL roads1 (rdI o1 (queue + 0)))) 0 o o1)))))
      (k0 o))
noncomputable def impl_spread_l0_again {R : Type} (N : Nat) (ks : (j : Nat) → ((impl_spread_l0_ex.getD j (.ret, Sh.none)).2).T → Option R) (k : Nat) (x : impl_spread_l0_sh.T) : Option R :=
  impl_spread_l0 N (fun y0 => ks 0 (((), ()), (y0, ()))) k x.1.1 x.1.2.2.1.1 x.1.2.2.1.2 x.2.1 x.2.2.1
noncomputable def impl_spread_l0_s (N : Nat) : LSum := ⟨impl_spread_l0_sh, impl_spread_l0_ex, fun x ks => impl_spread_l0_again N ks N x⟩
theorem impl_spread_l0_step (N : Nat) (R : Type) (k : Nat) (x : impl_spread_l0_sh.T) (ks : (j : Nat) → ((impl_spread_l0_ex.getD j (.ret, Sh.none)).2).T → Option R) : impl_spread_l0_again N ks (k + 1) x = roundF (impl_spread_G N) tab [impl_spread_l0_0_s N] (loopAt impl_spread_code 0) impl_spread_l0_sh impl_spread_l0_ex (fun y => impl_spread_l0_again N ks k y) ks x := by kernel_rfl
theorem impl_spread_l0_ok (N : Nat) : LoopOk Try.prog Try.f187.ntmps (impl_spread_l0_s N) (loopAt impl_spread_code 0) :=
  loop_ok (l := impl_spread_l0_s N) progOk (impl_spread_gok N) (draw_ok progOk (impl_spread_gok N)) (fun R k x ks => impl_spread_l0_again N ks k x) (fun _ _ _ => rfl) (fun R k x ks => impl_spread_l0_step N R k x ks) (fun R x ks r h => ⟨N, h⟩) (lsOk_at (L := [impl_spread_l0_0_s N]) ⟨impl_spread_l0_0_ok N, trivial⟩) (by kernel_rfl) (by kernel_rfl)
noncomputable def impl_spread (N : Nat) (roads : (List (List Int))) (fromv : Int) : Option (((List Int) × Unit) × (Unit)) :=
  ((slices_Repeat_LI_int N [(-1)] (tLen roads)).bind fun r =>
    (chk (inb r.1.1 fromv)
      (impl_spread_l0 N (fun o => some ((o, ()), ())) N roads 0 (tLen [fromv]) (tSet r.1.1 fromv 0) [fromv])))
noncomputable def impl_spread_S (N : Nat) : FSum := ⟨impl_spread_ps, impl_spread_rs, fun x => impl_spread N x.1 x.2.1⟩
theorem impl_spread_run (N : Nat) (x : argsT impl_spread_ps) : impl_spread N x.1 x.2.1 = funF (impl_spread_G N) tab [impl_spread_l0_s N] Try.f187 impl_spread_ps impl_spread_rs x := by kernel_rfl
theorem impl_spread_pc (N : Nat) : PC Try.prog 187 (impl_spread_S N) := by
  have e : impl_spread_S N = ⟨impl_spread_ps, impl_spread_rs, funF (impl_spread_G N) tab [impl_spread_l0_s N] Try.f187 impl_spread_ps impl_spread_rs⟩ := congrArg (FSum.mk impl_spread_ps impl_spread_rs) (funext (impl_spread_run N))
  rw [e]
  exact fun_ok (c := impl_spread_code) progOk (impl_spread_gok N) (draw_ok progOk (impl_spread_gok N)) Try.call187 Try.func187 (by kernel_rfl) (lsOk_at (L := [impl_spread_l0_s N]) ⟨impl_spread_l0_ok N, trivial⟩) (by kernel_rfl) (by kernel_rfl) (by kernel_rfl) (by kernel_rfl) (by kernel_rfl)
end Go.Proofs.Ytgelipdkheahdaa
