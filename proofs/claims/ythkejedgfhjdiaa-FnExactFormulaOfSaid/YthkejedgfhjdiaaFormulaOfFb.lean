/- Functions of the program as functions on data. -/
import Derived.Test.YthkejedgfhjdiaaFormulaOfFa
set_option linter.all false
namespace Go.Proofs.Ythkejedgfhjdiaa
open Go Go.PV
/-! ### cmp_isNaN_int -/
noncomputable def cmp_isNaN_int_G (N : Nat) : GTab := gOf []
theorem cmp_isNaN_int_gok (N : Nat) : GOk Try.prog (cmp_isNaN_int_G N) := gOf_ok trivial
noncomputable def cmp_isNaN_int_code : Code := (Try.f200.body).getD .skip
noncomputable def cmp_isNaN_int (N : Nat) (x : Int) : Option ((Bool × Unit) × (Unit)) :=
  some (((ine x x), ()), ())
abbrev cmp_isNaN_int_ps : List (PV.Mode × Ty) := [(.ro, I)]
abbrev cmp_isNaN_int_rs : List (Bool × Ty) := [(true, .bool)]
noncomputable def cmp_isNaN_int_S (N : Nat) : FSum := ⟨cmp_isNaN_int_ps, cmp_isNaN_int_rs, fun x => cmp_isNaN_int N x.1⟩
theorem cmp_isNaN_int_run (N : Nat) (x : argsT cmp_isNaN_int_ps) : cmp_isNaN_int N x.1 = funF (cmp_isNaN_int_G N) tab [] Try.f200 cmp_isNaN_int_ps cmp_isNaN_int_rs x := by kernel_rfl
theorem cmp_isNaN_int_pc (N : Nat) : PC Try.prog 200 (cmp_isNaN_int_S N) := by
  have e : cmp_isNaN_int_S N = ⟨cmp_isNaN_int_ps, cmp_isNaN_int_rs, funF (cmp_isNaN_int_G N) tab [] Try.f200 cmp_isNaN_int_ps cmp_isNaN_int_rs⟩ := congrArg (FSum.mk cmp_isNaN_int_ps cmp_isNaN_int_rs) (funext (cmp_isNaN_int_run N))
  rw [e]
  exact fun_ok (c := cmp_isNaN_int_code) progOk (cmp_isNaN_int_gok N) (draw_ok progOk (cmp_isNaN_int_gok N)) Try.call200 Try.func200 (by kernel_rfl) (lsOk_at (L := []) trivial) (by kernel_rfl) (by kernel_rfl) (by kernel_rfl) (by kernel_rfl) (by kernel_rfl)

/-! ### cmp_Less_int -/
noncomputable def cmp_Less_int_G (N : Nat) : GTab := gOf [(200, cmp_isNaN_int_S N)]
theorem cmp_Less_int_gok (N : Nat) : GOk Try.prog (cmp_Less_int_G N) := gOf_ok ⟨cmp_isNaN_int_pc N, trivial⟩
noncomputable def cmp_Less_int_code : Code := (Try.f183.body).getD .skip
noncomputable def cmp_Less_int (N : Nat) (x : Int) (y : Int) : Option ((Bool × Unit) × (Unit)) :=
  ((cmp_isNaN_int N x).bind fun r =>
    (br r.1.1
      (((cmp_isNaN_int N y).bind fun r1 =>
        (br (!r1.1.1)
          (some ((true, ()), ()))
          (some (((ilt x y), ()), ())))))
      (some (((ilt x y), ()), ()))))
abbrev cmp_Less_int_ps : List (PV.Mode × Ty) := [(.ro, I), (.ro, I)]
abbrev cmp_Less_int_rs : List (Bool × Ty) := [(true, .bool)]
noncomputable def cmp_Less_int_S (N : Nat) : FSum := ⟨cmp_Less_int_ps, cmp_Less_int_rs, fun x => cmp_Less_int N x.1 x.2.1⟩
theorem cmp_Less_int_run (N : Nat) (x : argsT cmp_Less_int_ps) : cmp_Less_int N x.1 x.2.1 = funF (cmp_Less_int_G N) tab [] Try.f183 cmp_Less_int_ps cmp_Less_int_rs x := by kernel_rfl
theorem cmp_Less_int_pc (N : Nat) : PC Try.prog 183 (cmp_Less_int_S N) := by
  have e : cmp_Less_int_S N = ⟨cmp_Less_int_ps, cmp_Less_int_rs, funF (cmp_Less_int_G N) tab [] Try.f183 cmp_Less_int_ps cmp_Less_int_rs⟩ := congrArg (FSum.mk cmp_Less_int_ps cmp_Less_int_rs) (funext (cmp_Less_int_run N))
  rw [e]
  exact fun_ok (c := cmp_Less_int_code) progOk (cmp_Less_int_gok N) (draw_ok progOk (cmp_Less_int_gok N)) Try.call183 Try.func183 (by kernel_rfl) (lsOk_at (L := []) trivial) (by kernel_rfl) (by kernel_rfl) (by kernel_rfl) (by kernel_rfl) (by kernel_rfl)

/-! ### slices_insertionSortOrdered_int -/
noncomputable def slices_insertionSortOrdered_int_G (N : Nat) : GTab := gOf [(183, cmp_Less_int_S N)]
theorem slices_insertionSortOrdered_int_gok (N : Nat) : GOk Try.prog (slices_insertionSortOrdered_int_G N) := gOf_ok ⟨cmp_Less_int_pc N, trivial⟩
noncomputable def slices_insertionSortOrdered_int_code : Code := (Try.f177.body).getD .skip
noncomputable def slices_insertionSortOrdered_int_l0_0_sh : Sh := ⟨[(0, .one (.ref 0)), (1, .one (.ro I)), (2, .one (.ro I)), (6, .one (.ro I)), (7, .one (.ro I))], [.sl 3 I .own]⟩
noncomputable def slices_insertionSortOrdered_int_l0_0_ex : List (Ex × Sh) := [(.exit 2, ⟨[(0, .one (.ref 0)), (1, .one (.ro I)), (2, .one (.ro I)), (6, .one (.ro I))], [.sl 3 I .own]⟩)]
noncomputable def slices_insertionSortOrdered_int_l0_0 {R : Type} (N : Nat) (k0 : Int → Int → Int → (List Int) → Option R) : Nat → Int → Int → Int → Int → (List Int) → Option R
  | 0, _, _, _, _, _ => none
  | K + 1, a2, b2, i1, j, o1 =>
    (br (ilt a2 j)
      ((chk (inb o1 j)
        (chk (inb o1 (IntKind.i64.wrap (j - 1)))
        ((cmp_Less_int N (rdI o1 j) (rdI o1 (IntKind.i64.wrap (j - 1)))).bind fun r =>
        (br r.1.1
          ((chk (inb o1 (IntKind.i64.wrap (j - 1)))
            (chk (inb o1 j)
            (chk (inb o1 j)
            (chk (inb (tSet o1 j (rdI o1 (IntKind.i64.wrap (j - 1)))) (IntKind.i64.wrap (j - 1)))
            (slices_insertionSortOrdered_int_l0_0 N k0 K a2 b2 i1 (IntKind.i64.wrap (j - 1)) (tSet (tSet o1 j (rdI o1 (IntKind.i64.wrap (j - 1)))) (IntKind.i64.wrap (j - 1)) (rdI o1 j))))))))
          (k0 a2 b2 i1 o1))))))
      (k0 a2 b2 i1 o1))
noncomputable def slices_insertionSortOrdered_int_l0_0_again {R : Type} (N : Nat) (ks : (j : Nat) → ((slices_insertionSortOrdered_int_l0_0_ex.getD j (.ret, Sh.none)).2).T → Option R) (k : Nat) (x : slices_insertionSortOrdered_int_l0_0_sh.T) : Option R :=
  slices_insertionSortOrdered_int_l0_0 N (fun y0 y1 y2 y3 => ks 0 (((), y0, y1, y2, ()), (y3, ()))) k x.1.2.1 x.1.2.2.1 x.1.2.2.2.1 x.1.2.2.2.2.1 x.2.1
noncomputable def slices_insertionSortOrdered_int_l0_0_s (N : Nat) : LSum := ⟨slices_insertionSortOrdered_int_l0_0_sh, slices_insertionSortOrdered_int_l0_0_ex, fun x ks => slices_insertionSortOrdered_int_l0_0_again N ks N x⟩
theorem slices_insertionSortOrdered_int_l0_0_step (N : Nat) (R : Type) (k : Nat) (x : slices_insertionSortOrdered_int_l0_0_sh.T) (ks : (j : Nat) → ((slices_insertionSortOrdered_int_l0_0_ex.getD j (.ret, Sh.none)).2).T → Option R) : slices_insertionSortOrdered_int_l0_0_again N ks (k + 1) x = roundF (slices_insertionSortOrdered_int_G N) tab [] (loopAt (loopAt slices_insertionSortOrdered_int_code 0) 0) slices_insertionSortOrdered_int_l0_0_sh slices_insertionSortOrdered_int_l0_0_ex (fun y => slices_insertionSortOrdered_int_l0_0_again N ks k y) ks x := by kernel_rfl
theorem slices_insertionSortOrdered_int_l0_0_ok (N : Nat) : LoopOk Try.prog Try.f177.ntmps (slices_insertionSortOrdered_int_l0_0_s N) (loopAt (loopAt slices_insertionSortOrdered_int_code 0) 0) :=
  loop_ok (l := slices_insertionSortOrdered_int_l0_0_s N) progOk (slices_insertionSortOrdered_int_gok N) (draw_ok progOk (slices_insertionSortOrdered_int_gok N)) (fun R k x ks => slices_insertionSortOrdered_int_l0_0_again N ks k x) (fun _ _ _ => rfl) (fun R k x ks => slices_insertionSortOrdered_int_l0_0_step N R k x ks) (fun R x ks r h => ⟨N, h⟩) (lsOk_at (L := []) trivial) (by kernel_rfl) (by kernel_rfl)
noncomputable def slices_insertionSortOrdered_int_l0_sh : Sh := ⟨[(0, .one (.ref 0)), (1, .one (.ro I)), (2, .one (.ro I)), (6, .one (.ro I))], [.sl 3 I .own]⟩
noncomputable def slices_insertionSortOrdered_int_l0_ex : List (Ex × Sh) := [(.exit 0, ⟨[(0, .one (.ref 0))], [.sl 3 I .own]⟩)]
noncomputable def slices_insertionSortOrdered_int_l0 {R : Type} (N : Nat) (k0 : (List Int) → Option R) : Nat → Int → Int → Int → (List Int) → Option R
  | 0, _, _, _, _ => none
  | K + 1, a1, b1, i, o =>
    (br (ilt i b1)
      (slices_insertionSortOrdered_int_l0_0 N (fun a2 b2 i1 o1 => slices_insertionSortOrdered_int_l0 N k0 K a2 b2 (IntKind.i64.wrap (i1 + 1)) o1) N a1 b1 i i o)
      (k0 o))
noncomputable def slices_insertionSortOrdered_int_l0_again {R : Type} (N : Nat) (ks : (j : Nat) → ((slices_insertionSortOrdered_int_l0_ex.getD j (.ret, Sh.none)).2).T → Option R) (k : Nat) (x : slices_insertionSortOrdered_int_l0_sh.T) : Option R :=
  slices_insertionSortOrdered_int_l0 N (fun y0 => ks 0 (((), ()), (y0, ()))) k x.1.2.1 x.1.2.2.1 x.1.2.2.2.1 x.2.1
noncomputable def slices_insertionSortOrdered_int_l0_s (N : Nat) : LSum := ⟨slices_insertionSortOrdered_int_l0_sh, slices_insertionSortOrdered_int_l0_ex, fun x ks => slices_insertionSortOrdered_int_l0_again N ks N x⟩
theorem slices_insertionSortOrdered_int_l0_step (N : Nat) (R : Type) (k : Nat) (x : slices_insertionSortOrdered_int_l0_sh.T) (ks : (j : Nat) → ((slices_insertionSortOrdered_int_l0_ex.getD j (.ret, Sh.none)).2).T → Option R) : slices_insertionSortOrdered_int_l0_again N ks (k + 1) x = roundF (slices_insertionSortOrdered_int_G N) tab [slices_insertionSortOrdered_int_l0_0_s N] (loopAt slices_insertionSortOrdered_int_code 0) slices_insertionSortOrdered_int_l0_sh slices_insertionSortOrdered_int_l0_ex (fun y => slices_insertionSortOrdered_int_l0_again N ks k y) ks x := by kernel_rfl
theorem slices_insertionSortOrdered_int_l0_ok (N : Nat) : LoopOk Try.prog Try.f177.ntmps (slices_insertionSortOrdered_int_l0_s N) (loopAt slices_insertionSortOrdered_int_code 0) :=
  loop_ok (l := slices_insertionSortOrdered_int_l0_s N) progOk (slices_insertionSortOrdered_int_gok N) (draw_ok progOk (slices_insertionSortOrdered_int_gok N)) (fun R k x ks => slices_insertionSortOrdered_int_l0_again N ks k x) (fun _ _ _ => rfl) (fun R k x ks => slices_insertionSortOrdered_int_l0_step N R k x ks) (fun R x ks r h => ⟨N, h⟩) (lsOk_at (L := [slices_insertionSortOrdered_int_l0_0_s N]) ⟨slices_insertionSortOrdered_int_l0_0_ok N, trivial⟩) (by kernel_rfl) (by kernel_rfl)
noncomputable def slices_insertionSortOrdered_int (N : Nat) (data : (List Int)) (a : Int) (b : Int) : Option ((Unit) × ((List Int) × Unit)) :=
  slices_insertionSortOrdered_int_l0 N (fun o => some ((), (o, ()))) N a b (IntKind.i64.wrap (a + 1)) data
abbrev slices_insertionSortOrdered_int_ps : List (PV.Mode × Ty) := [(.mut, LI), (.ro, I), (.ro, I)]
abbrev slices_insertionSortOrdered_int_rs : List (Bool × Ty) := []
noncomputable def slices_insertionSortOrdered_int_S (N : Nat) : FSum := ⟨slices_insertionSortOrdered_int_ps, slices_insertionSortOrdered_int_rs, fun x => slices_insertionSortOrdered_int N x.1 x.2.1 x.2.2.1⟩
theorem slices_insertionSortOrdered_int_run (N : Nat) (x : argsT slices_insertionSortOrdered_int_ps) : slices_insertionSortOrdered_int N x.1 x.2.1 x.2.2.1 = funF (slices_insertionSortOrdered_int_G N) tab [slices_insertionSortOrdered_int_l0_s N] Try.f177 slices_insertionSortOrdered_int_ps slices_insertionSortOrdered_int_rs x := by kernel_rfl
theorem slices_insertionSortOrdered_int_pc (N : Nat) : PC Try.prog 177 (slices_insertionSortOrdered_int_S N) := by
  have e : slices_insertionSortOrdered_int_S N = ⟨slices_insertionSortOrdered_int_ps, slices_insertionSortOrdered_int_rs, funF (slices_insertionSortOrdered_int_G N) tab [slices_insertionSortOrdered_int_l0_s N] Try.f177 slices_insertionSortOrdered_int_ps slices_insertionSortOrdered_int_rs⟩ := congrArg (FSum.mk slices_insertionSortOrdered_int_ps slices_insertionSortOrdered_int_rs) (funext (slices_insertionSortOrdered_int_run N))
  rw [e]
  exact fun_ok (c := slices_insertionSortOrdered_int_code) progOk (slices_insertionSortOrdered_int_gok N) (draw_ok progOk (slices_insertionSortOrdered_int_gok N)) Try.call177 Try.func177 (by kernel_rfl) (lsOk_at (L := [slices_insertionSortOrdered_int_l0_s N]) ⟨slices_insertionSortOrdered_int_l0_ok N, trivial⟩) (by kernel_rfl) (by kernel_rfl) (by kernel_rfl) (by kernel_rfl) (by kernel_rfl)

/-! ### slices_pdqsortOrdered_int -/
noncomputable def slices_pdqsortOrdered_int_G (N : Nat) : GTab := gOf [(177, slices_insertionSortOrdered_int_S N)]
theorem slices_pdqsortOrdered_int_gok (N : Nat) : GOk Try.prog (slices_pdqsortOrdered_int_G N) := gOf_ok ⟨slices_insertionSortOrdered_int_pc N, trivial⟩
noncomputable def slices_pdqsortOrdered_int_code : Code := (Try.f160.body).getD .skip
noncomputable def slices_pdqsortOrdered_int_l0_sh : Sh := ⟨[(0, .one (.ref 0)), (1, .one (.ro I)), (2, .one (.ro I)), (3, .one (.ro I)), (8, .one (.ro .bool)), (9, .one (.ro .bool))], [.sl 3 I .own]⟩
noncomputable def slices_pdqsortOrdered_int_l0_ex : List (Ex × Sh) := [(.ret, ⟨[(0, .one (.ref 0))], [.sl 3 I .own]⟩)]
noncomputable def slices_pdqsortOrdered_int_l0 {R : Type} (N : Nat) (k0 : (List Int) → Option R) : Nat → Int → Int → Int → Bool → Bool → (List Int) → Option R
  | 0, _, _, _, _, _, _ => none
  | K + 1, x, x1, x2, x3, x4, o =>
    (br (ile (IntKind.i64.wrap (x1 - x)) 12)
      (((slices_insertionSortOrdered_int N o x x1).bind fun r =>
        k0 r.2.1))
      ((br (ieq x2 0)
        (none)
        ((br (!x3)
          (none)
          (none))))))
noncomputable def slices_pdqsortOrdered_int_l0_again {R : Type} (N : Nat) (ks : (j : Nat) → ((slices_pdqsortOrdered_int_l0_ex.getD j (.ret, Sh.none)).2).T → Option R) (k : Nat) (x : slices_pdqsortOrdered_int_l0_sh.T) : Option R :=
  slices_pdqsortOrdered_int_l0 N (fun y0 => ks 0 (((), ()), (y0, ()))) k x.1.2.1 x.1.2.2.1 x.1.2.2.2.1 x.1.2.2.2.2.1 x.1.2.2.2.2.2.1 x.2.1
noncomputable def slices_pdqsortOrdered_int_l0_s (N : Nat) : LSum := ⟨slices_pdqsortOrdered_int_l0_sh, slices_pdqsortOrdered_int_l0_ex, fun x ks => slices_pdqsortOrdered_int_l0_again N ks N x⟩
theorem slices_pdqsortOrdered_int_l0_step (N : Nat) (R : Type) (k : Nat) (x : slices_pdqsortOrdered_int_l0_sh.T) (ks : (j : Nat) → ((slices_pdqsortOrdered_int_l0_ex.getD j (.ret, Sh.none)).2).T → Option R) : slices_pdqsortOrdered_int_l0_again N ks (k + 1) x = roundF (slices_pdqsortOrdered_int_G N) tab [] (loopAt slices_pdqsortOrdered_int_code 0) slices_pdqsortOrdered_int_l0_sh slices_pdqsortOrdered_int_l0_ex (fun y => slices_pdqsortOrdered_int_l0_again N ks k y) ks x := by kernel_rfl
theorem slices_pdqsortOrdered_int_l0_ok (N : Nat) : LoopOk Try.prog Try.f160.ntmps (slices_pdqsortOrdered_int_l0_s N) (loopAt slices_pdqsortOrdered_int_code 0) :=
  loop_ok (l := slices_pdqsortOrdered_int_l0_s N) progOk (slices_pdqsortOrdered_int_gok N) (draw_ok progOk (slices_pdqsortOrdered_int_gok N)) (fun R k x ks => slices_pdqsortOrdered_int_l0_again N ks k x) (fun _ _ _ => rfl) (fun R k x ks => slices_pdqsortOrdered_int_l0_step N R k x ks) (fun R x ks r h => ⟨N, h⟩) (lsOk_at (L := []) trivial) (by kernel_rfl) (by kernel_rfl)
noncomputable def slices_pdqsortOrdered_int (N : Nat) (c : (List Int)) (c1 : Int) (c2 : Int) (c3 : Int) : Option ((Unit) × ((List Int) × Unit)) :=
  slices_pdqsortOrdered_int_l0 N (fun o => some ((), (o, ()))) N c1 c2 c3 true true c
abbrev slices_pdqsortOrdered_int_ps : List (PV.Mode × Ty) := [(.mut, LI), (.ro, I), (.ro, I), (.ro, I)]
abbrev slices_pdqsortOrdered_int_rs : List (Bool × Ty) := []
noncomputable def slices_pdqsortOrdered_int_S (N : Nat) : FSum := ⟨slices_pdqsortOrdered_int_ps, slices_pdqsortOrdered_int_rs, fun x => slices_pdqsortOrdered_int N x.1 x.2.1 x.2.2.1 x.2.2.2.1⟩
theorem slices_pdqsortOrdered_int_run (N : Nat) (x : argsT slices_pdqsortOrdered_int_ps) : slices_pdqsortOrdered_int N x.1 x.2.1 x.2.2.1 x.2.2.2.1 = funF (slices_pdqsortOrdered_int_G N) tab [slices_pdqsortOrdered_int_l0_s N] Try.f160 slices_pdqsortOrdered_int_ps slices_pdqsortOrdered_int_rs x := by kernel_rfl
theorem slices_pdqsortOrdered_int_pc (N : Nat) : PC Try.prog 160 (slices_pdqsortOrdered_int_S N) := by
  have e : slices_pdqsortOrdered_int_S N = ⟨slices_pdqsortOrdered_int_ps, slices_pdqsortOrdered_int_rs, funF (slices_pdqsortOrdered_int_G N) tab [slices_pdqsortOrdered_int_l0_s N] Try.f160 slices_pdqsortOrdered_int_ps slices_pdqsortOrdered_int_rs⟩ := congrArg (FSum.mk slices_pdqsortOrdered_int_ps slices_pdqsortOrdered_int_rs) (funext (slices_pdqsortOrdered_int_run N))
  rw [e]
  exact fun_ok (c := slices_pdqsortOrdered_int_code) progOk (slices_pdqsortOrdered_int_gok N) (draw_ok progOk (slices_pdqsortOrdered_int_gok N)) Try.call160 Try.func160 (by kernel_rfl) (lsOk_at (L := [slices_pdqsortOrdered_int_l0_s N]) ⟨slices_pdqsortOrdered_int_l0_ok N, trivial⟩) (by kernel_rfl) (by kernel_rfl) (by kernel_rfl) (by kernel_rfl) (by kernel_rfl)

/-! ### slices_Sort_LI_int -/
noncomputable def slices_Sort_LI_int_G (N : Nat) : GTab := gOf [(161, math_bits_Len_S N), (160, slices_pdqsortOrdered_int_S N)]
theorem slices_Sort_LI_int_gok (N : Nat) : GOk Try.prog (slices_Sort_LI_int_G N) := gOf_ok ⟨math_bits_Len_pc N, slices_pdqsortOrdered_int_pc N, trivial⟩
noncomputable def slices_Sort_LI_int_code : Code := (Try.f119.body).getD .skip
noncomputable def slices_Sort_LI_int (N : Nat) (x : (List Int)) : Option ((Unit) × ((List Int) × Unit)) :=
  ((math_bits_Len N (IntKind.u64.wrap ((tLen x)))).bind fun r =>
    ((slices_pdqsortOrdered_int N x 0 (tLen x) r.1.1).bind fun r1 =>
      some ((), (r1.2.1, ()))))
abbrev slices_Sort_LI_int_ps : List (PV.Mode × Ty) := [(.mut, LI)]
abbrev slices_Sort_LI_int_rs : List (Bool × Ty) := []
noncomputable def slices_Sort_LI_int_S (N : Nat) : FSum := ⟨slices_Sort_LI_int_ps, slices_Sort_LI_int_rs, fun x => slices_Sort_LI_int N x.1⟩
theorem slices_Sort_LI_int_run (N : Nat) (x : argsT slices_Sort_LI_int_ps) : slices_Sort_LI_int N x.1 = funF (slices_Sort_LI_int_G N) tab [] Try.f119 slices_Sort_LI_int_ps slices_Sort_LI_int_rs x := by kernel_rfl
theorem slices_Sort_LI_int_pc (N : Nat) : PC Try.prog 119 (slices_Sort_LI_int_S N) := by
  have e : slices_Sort_LI_int_S N = ⟨slices_Sort_LI_int_ps, slices_Sort_LI_int_rs, funF (slices_Sort_LI_int_G N) tab [] Try.f119 slices_Sort_LI_int_ps slices_Sort_LI_int_rs⟩ := congrArg (FSum.mk slices_Sort_LI_int_ps slices_Sort_LI_int_rs) (funext (slices_Sort_LI_int_run N))
  rw [e]
  exact fun_ok (c := slices_Sort_LI_int_code) progOk (slices_Sort_LI_int_gok N) (draw_ok progOk (slices_Sort_LI_int_gok N)) Try.call119 Try.func119 (by kernel_rfl) (lsOk_at (L := []) trivial) (by kernel_rfl) (by kernel_rfl) (by kernel_rfl) (by kernel_rfl) (by kernel_rfl)

/-! ### impl_formulaOf -/
noncomputable def impl_formulaOf_G (N : Nat) : GTab := gOf [(132, impl_assignments_S N), (133, impl_formulaOf_c1_S N), (65, slices_ContainsFunc_LLI_LI_S N), (134, impl_formulaOf_c2_S N), (119, slices_Sort_LI_int_S N)]
theorem impl_formulaOf_gok (N : Nat) : GOk Try.prog (impl_formulaOf_G N) := gOf_ok ⟨impl_assignments_pc N, impl_formulaOf_c1_pc N, slices_ContainsFunc_LLI_LI_pc N, impl_formulaOf_c2_pc N, slices_Sort_LI_int_pc N, trivial⟩
noncomputable def impl_formulaOf_code : Code := (Try.f68.body).getD .skip
noncomputable def impl_formulaOf_l0_0_sh : Sh := ⟨[(1, .one (.ro LLI)), (4, .one (.adr 0 0)), (5, .one (.adr 1 0)), (8, .one (.ref 2)), (14, .one (.ro LLI)), (15, .one (.ro I)), (16, .one (.ro I)), (24, .one (.ro LI)), (25, .one (.ro I)), (26, .one (.ro I))], [.box [.ro I, .nilsl], .box [.ro I, .ref 3], .sl 3 I .own, .sl 33 LI .deep]⟩
noncomputable def impl_formulaOf_l0_0_ex : List (Ex × Sh) := [(.exit 2, ⟨[(1, .one (.ro LLI)), (4, .one (.adr 0 0)), (5, .one (.adr 1 0)), (8, .one (.ref 2)), (14, .one (.ro LLI)), (15, .one (.ro I)), (16, .one (.ro I))], [.box [.ro I, .nilsl], .box [.ro I, .ref 3], .sl 3 I .own, .sl 33 LI .deep]⟩)]
noncomputable def impl_formulaOf_l0_0 {R : Type} (N : Nat) (k0 : (List (List Int)) → (List (List Int)) → Int → Int → Int → Int → (List Int) → (List (List Int)) → Option R) : Nat → (List (List Int)) → (List (List Int)) → Int → Int → (List Int) → Int → Int → Int → Int → (List Int) → (List (List Int)) → Option R
  | 0, _, _, _, _, _, _, _, _, _, _, _ => none
  | K + 1, solutions2, x3, x4, x5, x6, x7, x8, o3, o4, o5, o6 =>
    (br (ilt x8 x7)
      ((chk (inb x6 x8)
        (br (ieq (rdI x6 x8) 1)
        ((chk (room o5 [(IntKind.i64.wrap ((-1) - x8))])
          (impl_formulaOf_l0_0 N k0 K solutions2 x3 x4 x5 x6 x7 (IntKind.i64.wrap (x8 + 1)) o3 o4 (tApp o5 [(IntKind.i64.wrap ((-1) - x8))]) o6)))
        ((chk (room o5 [(IntKind.i64.wrap (x8 + 1))])
          (impl_formulaOf_l0_0 N k0 K solutions2 x3 x4 x5 x6 x7 (IntKind.i64.wrap (x8 + 1)) o3 o4 (tApp o5 [(IntKind.i64.wrap (x8 + 1))]) o6))))))
      (k0 solutions2 x3 x4 x5 o3 o4 o5 o6))
noncomputable def impl_formulaOf_l0_0_again {R : Type} (N : Nat) (ks : (j : Nat) → ((impl_formulaOf_l0_0_ex.getD j (.ret, Sh.none)).2).T → Option R) (k : Nat) (x : impl_formulaOf_l0_0_sh.T) : Option R :=
  impl_formulaOf_l0_0 N (fun y0 y1 y2 y3 y4 y5 y6 y7 => ks 0 ((y0, (), (), (), y1, y2, y3, ()), ((y4, (), ()), (y5, (), ()), y6, y7, ()))) k x.1.1 x.1.2.2.2.2.1 x.1.2.2.2.2.2.1 x.1.2.2.2.2.2.2.1 x.1.2.2.2.2.2.2.2.1 x.1.2.2.2.2.2.2.2.2.1 x.1.2.2.2.2.2.2.2.2.2.1 x.2.1.1 x.2.2.1.1 x.2.2.2.1 x.2.2.2.2.1
noncomputable def impl_formulaOf_l0_0_s (N : Nat) : LSum := ⟨impl_formulaOf_l0_0_sh, impl_formulaOf_l0_0_ex, fun x ks => impl_formulaOf_l0_0_again N ks N x⟩
theorem impl_formulaOf_l0_0_step (N : Nat) (R : Type) (k : Nat) (x : impl_formulaOf_l0_0_sh.T) (ks : (j : Nat) → ((impl_formulaOf_l0_0_ex.getD j (.ret, Sh.none)).2).T → Option R) : impl_formulaOf_l0_0_again N ks (k + 1) x = roundF (impl_formulaOf_G N) tab [] (loopAt (loopAt impl_formulaOf_code 0) 0) impl_formulaOf_l0_0_sh impl_formulaOf_l0_0_ex (fun y => impl_formulaOf_l0_0_again N ks k y) ks x := by kernel_rfl
theorem impl_formulaOf_l0_0_ok (N : Nat) : LoopOk Try.prog Try.f68.ntmps (impl_formulaOf_l0_0_s N) (loopAt (loopAt impl_formulaOf_code 0) 0) :=
  loop_ok (l := impl_formulaOf_l0_0_s N) progOk (impl_formulaOf_gok N) (draw_ok progOk (impl_formulaOf_gok N)) (fun R k x ks => impl_formulaOf_l0_0_again N ks k x) (fun _ _ _ => rfl) (fun R k x ks => impl_formulaOf_l0_0_step N R k x ks) (fun R x ks r h => ⟨N, h⟩) (lsOk_at (L := []) trivial) (by kernel_rfl) (by kernel_rfl)
noncomputable def impl_formulaOf_l0_sh : Sh := ⟨[(1, .one (.ro LLI)), (4, .one (.adr 0 0)), (5, .one (.adr 1 0)), (14, .one (.ro LLI)), (15, .one (.ro I)), (16, .one (.ro I))], [.box [.ro I, .nilsl], .box [.ro I, .ref 2], .sl 33 LI .deep]⟩
noncomputable def impl_formulaOf_l0_ex : List (Ex × Sh) := [(.exit 0, ⟨[(4, .one (.adr 0 0)), (5, .one (.adr 1 0))], [.box [.ro I, .nilsl], .box [.ro I, .ref 2], .sl 33 LI .deep]⟩)]
noncomputable def impl_formulaOf_l0 {R : Type} (N : Nat) (k0 : Int → Int → (List (List Int)) → Option R) : Nat → (List (List Int)) → (List (List Int)) → Int → Int → Int → Int → (List (List Int)) → Option R
  | 0, _, _, _, _, _, _, _ => none
  | K + 1, solutions1, x, x1, x2, o, o1, o2 =>
    (br (ilt x2 x1)
      ((chk (inb x x2)
        ((slices_ContainsFunc_LLI_LI N solutions1 (fun y0 => (impl_formulaOf_c2 N y0 (rdL x x2)).bind fun z => some z.1.1)).bind fun r1 =>
        (br r1.1.1
          (impl_formulaOf_l0 N k0 K solutions1 x x1 (IntKind.i64.wrap (x2 + 1)) o o1 o2)
          (impl_formulaOf_l0_0 N (fun solutions2 x3 x4 x5 o3 o4 o5 o6 => ((slices_Sort_LI_int N o5).bind fun r2 =>
            (chk (room o6 [r2.2.1])
              (impl_formulaOf_l0 N k0 K solutions2 x3 x4 (IntKind.i64.wrap (x5 + 1)) o3 o4 (tApp o6 [r2.2.1]))))) N solutions1 x x1 x2 (rdL x x2) (tLen (rdL x x2)) 0 o o1 [] o2)))))
      (k0 o o1 o2))
noncomputable def impl_formulaOf_l0_again {R : Type} (N : Nat) (ks : (j : Nat) → ((impl_formulaOf_l0_ex.getD j (.ret, Sh.none)).2).T → Option R) (k : Nat) (x : impl_formulaOf_l0_sh.T) : Option R :=
  impl_formulaOf_l0 N (fun y0 y1 y2 => ks 0 (((), (), ()), ((y0, (), ()), (y1, (), ()), y2, ()))) k x.1.1 x.1.2.2.2.1 x.1.2.2.2.2.1 x.1.2.2.2.2.2.1 x.2.1.1 x.2.2.1.1 x.2.2.2.1
noncomputable def impl_formulaOf_l0_s (N : Nat) : LSum := ⟨impl_formulaOf_l0_sh, impl_formulaOf_l0_ex, fun x ks => impl_formulaOf_l0_again N ks N x⟩
theorem impl_formulaOf_l0_step (N : Nat) (R : Type) (k : Nat) (x : impl_formulaOf_l0_sh.T) (ks : (j : Nat) → ((impl_formulaOf_l0_ex.getD j (.ret, Sh.none)).2).T → Option R) : impl_formulaOf_l0_again N ks (k + 1) x = roundF (impl_formulaOf_G N) tab [impl_formulaOf_l0_0_s N] (loopAt impl_formulaOf_code 0) impl_formulaOf_l0_sh impl_formulaOf_l0_ex (fun y => impl_formulaOf_l0_again N ks k y) ks x := by kernel_rfl
theorem impl_formulaOf_l0_ok (N : Nat) : LoopOk Try.prog Try.f68.ntmps (impl_formulaOf_l0_s N) (loopAt impl_formulaOf_code 0) :=
  loop_ok (l := impl_formulaOf_l0_s N) progOk (impl_formulaOf_gok N) (draw_ok progOk (impl_formulaOf_gok N)) (fun R k x ks => impl_formulaOf_l0_again N ks k x) (fun _ _ _ => rfl) (fun R k x ks => impl_formulaOf_l0_step N R k x ks) (fun R x ks r h => ⟨N, h⟩) (lsOk_at (L := [impl_formulaOf_l0_0_s N]) ⟨impl_formulaOf_l0_0_ok N, trivial⟩) (by kernel_rfl) (by kernel_rfl)
noncomputable def impl_formulaOf (N : Nat) (vars : Int) (solutions : (List (List Int))) : Option (((Int × (List (List Int))) × Unit) × (Unit)) :=
  ((impl_assignments N vars (fun y0 => (impl_formulaOf_c1 N y0).bind fun z => some z.1.1)).bind fun r =>
    impl_formulaOf_l0 N (fun o o1 o2 => some (((o1, o2), ()), ())) N solutions r.1.1 (tLen r.1.1) 0 0 vars [])
abbrev impl_formulaOf_ps : List (PV.Mode × Ty) := [(.ro, I), (.ro, LLI)]
abbrev impl_formulaOf_rs : List (Bool × Ty) := [(true, QILLI)]
noncomputable def impl_formulaOf_S (N : Nat) : FSum := ⟨impl_formulaOf_ps, impl_formulaOf_rs, fun x => impl_formulaOf N x.1 x.2.1⟩
theorem impl_formulaOf_run (N : Nat) (x : argsT impl_formulaOf_ps) : impl_formulaOf N x.1 x.2.1 = funF (impl_formulaOf_G N) tab [impl_formulaOf_l0_s N] Try.f68 impl_formulaOf_ps impl_formulaOf_rs x := by kernel_rfl
theorem impl_formulaOf_pc (N : Nat) : PC Try.prog 68 (impl_formulaOf_S N) := by
  have e : impl_formulaOf_S N = ⟨impl_formulaOf_ps, impl_formulaOf_rs, funF (impl_formulaOf_G N) tab [impl_formulaOf_l0_s N] Try.f68 impl_formulaOf_ps impl_formulaOf_rs⟩ := congrArg (FSum.mk impl_formulaOf_ps impl_formulaOf_rs) (funext (impl_formulaOf_run N))
  rw [e]
  exact fun_ok (c := impl_formulaOf_code) progOk (impl_formulaOf_gok N) (draw_ok progOk (impl_formulaOf_gok N)) Try.call68 Try.func68 (by kernel_rfl) (lsOk_at (L := [impl_formulaOf_l0_s N]) ⟨impl_formulaOf_l0_ok N, trivial⟩) (by kernel_rfl) (by kernel_rfl) (by kernel_rfl) (by kernel_rfl) (by kernel_rfl)

/-! ### impl_FormulaOf -/
noncomputable def impl_FormulaOf_G (N : Nat) : GTab := gOf [(64, impl_between_S N), (65, slices_ContainsFunc_LLI_LI_S N), (66, impl_FormulaOf_c1_S N), (68, impl_formulaOf_S N)]
theorem impl_FormulaOf_gok (N : Nat) : GOk Try.prog (impl_FormulaOf_G N) := gOf_ok ⟨impl_between_pc N, slices_ContainsFunc_LLI_LI_pc N, impl_FormulaOf_c1_pc N, impl_formulaOf_pc N, trivial⟩
noncomputable def impl_FormulaOf_code : Code := (Try.f18.body).getD .skip
noncomputable def impl_FormulaOf (N : Nat) (vars : Int) (solutions : (List (List Int))) : Option (((Int × (List (List Int))) × Bool × Unit) × (Unit)) :=
  ((impl_between N vars 0 6).bind fun r =>
    (br (!r.1.1)
      (some (((0, []), false, ()), ()))
      (((slices_ContainsFunc_LLI_LI N solutions (fun y0 => (impl_FormulaOf_c1 N y0 vars).bind fun z => some z.1.1)).bind fun r1 =>
        (br r1.1.1
          (some (((0, []), false, ()), ()))
          (((impl_formulaOf N vars solutions).bind fun r2 =>
            some (((r2.1.1.1, r2.1.1.2), true, ()), ()))))))))
abbrev impl_FormulaOf_ps : List (PV.Mode × Ty) := [(.ro, I), (.ro, LLI)]
abbrev impl_FormulaOf_rs : List (Bool × Ty) := [(true, QILLI), (true, .bool)]
noncomputable def impl_FormulaOf_S (N : Nat) : FSum := ⟨impl_FormulaOf_ps, impl_FormulaOf_rs, fun x => impl_FormulaOf N x.1 x.2.1⟩
theorem impl_FormulaOf_run (N : Nat) (x : argsT impl_FormulaOf_ps) : impl_FormulaOf N x.1 x.2.1 = funF (impl_FormulaOf_G N) tab [] Try.f18 impl_FormulaOf_ps impl_FormulaOf_rs x := by kernel_rfl
theorem impl_FormulaOf_pc (N : Nat) : PC Try.prog 18 (impl_FormulaOf_S N) := by
  have e : impl_FormulaOf_S N = ⟨impl_FormulaOf_ps, impl_FormulaOf_rs, funF (impl_FormulaOf_G N) tab [] Try.f18 impl_FormulaOf_ps impl_FormulaOf_rs⟩ := congrArg (FSum.mk impl_FormulaOf_ps impl_FormulaOf_rs) (funext (impl_FormulaOf_run N))
  rw [e]
  exact fun_ok (c := impl_FormulaOf_code) progOk (impl_FormulaOf_gok N) (draw_ok progOk (impl_FormulaOf_gok N)) Try.call18 Try.func18 (by kernel_rfl) (lsOk_at (L := []) trivial) (by kernel_rfl) (by kernel_rfl) (by kernel_rfl) (by kernel_rfl) (by kernel_rfl)

/-! ### laws_eqIntS -/
noncomputable def laws_eqIntS_G (N : Nat) : GTab := gOf []
theorem laws_eqIntS_gok (N : Nat) : GOk Try.prog (laws_eqIntS_G N) := gOf_ok trivial
noncomputable def laws_eqIntS_code : Code := (Try.f35.body).getD .skip
noncomputable def laws_eqIntS_l0_sh : Sh := ⟨[(0, .one (.ro LI)), (1, .one (.ro LI)), (5, .one (.ro I))], []⟩
noncomputable def laws_eqIntS_l0_ex : List (Ex × Sh) := [(.ret, ⟨[(4, .one (.ro .bool))], []⟩), (.exit 0, ⟨[], []⟩)]
noncomputable def laws_eqIntS_l0 {R : Type} (N : Nat) (k0 : Bool → Option R) (k1 : Unit → Option R) : Nat → (List Int) → (List Int) → Int → Option R
  | 0, _, _, _ => none
  | K + 1, a1, b1, i =>
    (br (ilt i (tLen a1))
      ((chk (inb a1 i)
        (chk (inb b1 i)
        (br (ine (rdI a1 i) (rdI b1 i))
        (k0 false)
        (laws_eqIntS_l0 N k0 k1 K a1 b1 (IntKind.i64.wrap (i + 1)))))))
      (k1 ()))
noncomputable def laws_eqIntS_l0_again {R : Type} (N : Nat) (ks : (j : Nat) → ((laws_eqIntS_l0_ex.getD j (.ret, Sh.none)).2).T → Option R) (k : Nat) (x : laws_eqIntS_l0_sh.T) : Option R :=
  laws_eqIntS_l0 N (fun y0 => ks 0 ((y0, ()), ())) (fun (_ : Unit) => ks 1 ((), ())) k x.1.1 x.1.2.1 x.1.2.2.1
noncomputable def laws_eqIntS_l0_s (N : Nat) : LSum := ⟨laws_eqIntS_l0_sh, laws_eqIntS_l0_ex, fun x ks => laws_eqIntS_l0_again N ks N x⟩
theorem laws_eqIntS_l0_step (N : Nat) (R : Type) (k : Nat) (x : laws_eqIntS_l0_sh.T) (ks : (j : Nat) → ((laws_eqIntS_l0_ex.getD j (.ret, Sh.none)).2).T → Option R) : laws_eqIntS_l0_again N ks (k + 1) x = roundF (laws_eqIntS_G N) tab [] (loopAt laws_eqIntS_code 0) laws_eqIntS_l0_sh laws_eqIntS_l0_ex (fun y => laws_eqIntS_l0_again N ks k y) ks x := by kernel_rfl
theorem laws_eqIntS_l0_ok (N : Nat) : LoopOk Try.prog Try.f35.ntmps (laws_eqIntS_l0_s N) (loopAt laws_eqIntS_code 0) :=
  loop_ok (l := laws_eqIntS_l0_s N) progOk (laws_eqIntS_gok N) (draw_ok progOk (laws_eqIntS_gok N)) (fun R k x ks => laws_eqIntS_l0_again N ks k x) (fun _ _ _ => rfl) (fun R k x ks => laws_eqIntS_l0_step N R k x ks) (fun R x ks r h => ⟨N, h⟩) (lsOk_at (L := []) trivial) (by kernel_rfl) (by kernel_rfl)
noncomputable def laws_eqIntS (N : Nat) (a : (List Int)) (b : (List Int)) : Option ((Bool × Unit) × (Unit)) :=
  (br (ine (tLen a) (tLen b))
    (some ((false, ()), ()))
    (laws_eqIntS_l0 N (fun x => some ((x, ()), ())) (fun (_ : Unit) => some ((true, ()), ())) N a b 0))
abbrev laws_eqIntS_ps : List (PV.Mode × Ty) := [(.ro, LI), (.ro, LI)]
abbrev laws_eqIntS_rs : List (Bool × Ty) := [(true, .bool)]
noncomputable def laws_eqIntS_S (N : Nat) : FSum := ⟨laws_eqIntS_ps, laws_eqIntS_rs, fun x => laws_eqIntS N x.1 x.2.1⟩
theorem laws_eqIntS_run (N : Nat) (x : argsT laws_eqIntS_ps) : laws_eqIntS N x.1 x.2.1 = funF (laws_eqIntS_G N) tab [laws_eqIntS_l0_s N] Try.f35 laws_eqIntS_ps laws_eqIntS_rs x := by kernel_rfl
theorem laws_eqIntS_pc (N : Nat) : PC Try.prog 35 (laws_eqIntS_S N) := by
  have e : laws_eqIntS_S N = ⟨laws_eqIntS_ps, laws_eqIntS_rs, funF (laws_eqIntS_G N) tab [laws_eqIntS_l0_s N] Try.f35 laws_eqIntS_ps laws_eqIntS_rs⟩ := congrArg (FSum.mk laws_eqIntS_ps laws_eqIntS_rs) (funext (laws_eqIntS_run N))
  rw [e]
  exact fun_ok (c := laws_eqIntS_code) progOk (laws_eqIntS_gok N) (draw_ok progOk (laws_eqIntS_gok N)) Try.call35 Try.func35 (by kernel_rfl) (lsOk_at (L := [laws_eqIntS_l0_s N]) ⟨laws_eqIntS_l0_ok N, trivial⟩) (by kernel_rfl) (by kernel_rfl) (by kernel_rfl) (by kernel_rfl) (by kernel_rfl)

/-! ### laws_eqIntSS -/
noncomputable def laws_eqIntSS_G (N : Nat) : GTab := gOf [(35, laws_eqIntS_S N)]
theorem laws_eqIntSS_gok (N : Nat) : GOk Try.prog (laws_eqIntSS_G N) := gOf_ok ⟨laws_eqIntS_pc N, trivial⟩
noncomputable def laws_eqIntSS_code : Code := (Try.f20.body).getD .skip
noncomputable def laws_eqIntSS_l0_sh : Sh := ⟨[(0, .one (.ro LLI)), (1, .one (.ro LLI)), (5, .one (.ro I))], []⟩
noncomputable def laws_eqIntSS_l0_ex : List (Ex × Sh) := [(.ret, ⟨[(4, .one (.ro .bool))], []⟩), (.exit 0, ⟨[], []⟩)]
noncomputable def laws_eqIntSS_l0 {R : Type} (N : Nat) (k0 : Bool → Option R) (k1 : Unit → Option R) : Nat → (List (List Int)) → (List (List Int)) → Int → Option R
  | 0, _, _, _ => none
  | K + 1, a1, b1, i =>
    (br (ilt i (tLen a1))
      ((chk (inb a1 i)
        (chk (inb b1 i)
        ((laws_eqIntS N (rdL a1 i) (rdL b1 i)).bind fun r =>
        (br (!r.1.1)
          (k0 false)
          (laws_eqIntSS_l0 N k0 k1 K a1 b1 (IntKind.i64.wrap (i + 1))))))))
      (k1 ()))
noncomputable def laws_eqIntSS_l0_again {R : Type} (N : Nat) (ks : (j : Nat) → ((laws_eqIntSS_l0_ex.getD j (.ret, Sh.none)).2).T → Option R) (k : Nat) (x : laws_eqIntSS_l0_sh.T) : Option R :=
  laws_eqIntSS_l0 N (fun y0 => ks 0 ((y0, ()), ())) (fun (_ : Unit) => ks 1 ((), ())) k x.1.1 x.1.2.1 x.1.2.2.1
noncomputable def laws_eqIntSS_l0_s (N : Nat) : LSum := ⟨laws_eqIntSS_l0_sh, laws_eqIntSS_l0_ex, fun x ks => laws_eqIntSS_l0_again N ks N x⟩
theorem laws_eqIntSS_l0_step (N : Nat) (R : Type) (k : Nat) (x : laws_eqIntSS_l0_sh.T) (ks : (j : Nat) → ((laws_eqIntSS_l0_ex.getD j (.ret, Sh.none)).2).T → Option R) : laws_eqIntSS_l0_again N ks (k + 1) x = roundF (laws_eqIntSS_G N) tab [] (loopAt laws_eqIntSS_code 0) laws_eqIntSS_l0_sh laws_eqIntSS_l0_ex (fun y => laws_eqIntSS_l0_again N ks k y) ks x := by kernel_rfl
theorem laws_eqIntSS_l0_ok (N : Nat) : LoopOk Try.prog Try.f20.ntmps (laws_eqIntSS_l0_s N) (loopAt laws_eqIntSS_code 0) :=
  loop_ok (l := laws_eqIntSS_l0_s N) progOk (laws_eqIntSS_gok N) (draw_ok progOk (laws_eqIntSS_gok N)) (fun R k x ks => laws_eqIntSS_l0_again N ks k x) (fun _ _ _ => rfl) (fun R k x ks => laws_eqIntSS_l0_step N R k x ks) (fun R x ks r h => ⟨N, h⟩) (lsOk_at (L := []) trivial) (by kernel_rfl) (by kernel_rfl)
noncomputable def laws_eqIntSS (N : Nat) (a : (List (List Int))) (b : (List (List Int))) : Option ((Bool × Unit) × (Unit)) :=
  (br (ine (tLen a) (tLen b))
    (some ((false, ()), ()))
    (laws_eqIntSS_l0 N (fun x => some ((x, ()), ())) (fun (_ : Unit) => some ((true, ()), ())) N a b 0))
abbrev laws_eqIntSS_ps : List (PV.Mode × Ty) := [(.ro, LLI), (.ro, LLI)]
abbrev laws_eqIntSS_rs : List (Bool × Ty) := [(true, .bool)]
noncomputable def laws_eqIntSS_S (N : Nat) : FSum := ⟨laws_eqIntSS_ps, laws_eqIntSS_rs, fun x => laws_eqIntSS N x.1 x.2.1⟩
theorem laws_eqIntSS_run (N : Nat) (x : argsT laws_eqIntSS_ps) : laws_eqIntSS N x.1 x.2.1 = funF (laws_eqIntSS_G N) tab [laws_eqIntSS_l0_s N] Try.f20 laws_eqIntSS_ps laws_eqIntSS_rs x := by kernel_rfl
theorem laws_eqIntSS_pc (N : Nat) : PC Try.prog 20 (laws_eqIntSS_S N) := by
  have e : laws_eqIntSS_S N = ⟨laws_eqIntSS_ps, laws_eqIntSS_rs, funF (laws_eqIntSS_G N) tab [laws_eqIntSS_l0_s N] Try.f20 laws_eqIntSS_ps laws_eqIntSS_rs⟩ := congrArg (FSum.mk laws_eqIntSS_ps laws_eqIntSS_rs) (funext (laws_eqIntSS_run N))
  rw [e]
  exact fun_ok (c := laws_eqIntSS_code) progOk (laws_eqIntSS_gok N) (draw_ok progOk (laws_eqIntSS_gok N)) Try.call20 Try.func20 (by kernel_rfl) (lsOk_at (L := [laws_eqIntSS_l0_s N]) ⟨laws_eqIntSS_l0_ok N, trivial⟩) (by kernel_rfl) (by kernel_rfl) (by kernel_rfl) (by kernel_rfl) (by kernel_rfl)

/-! ### laws_eqFormula -/
noncomputable def laws_eqFormula_G (N : Nat) : GTab := gOf [(20, laws_eqIntSS_S N)]
theorem laws_eqFormula_gok (N : Nat) : GOk Try.prog (laws_eqFormula_G N) := gOf_ok ⟨laws_eqIntSS_pc N, trivial⟩
noncomputable def laws_eqFormula_code : Code := (Try.f19.body).getD .skip
noncomputable def laws_eqFormula (N : Nat) (a : (Int × (List (List Int)))) (b : (Int × (List (List Int)))) : Option ((Bool × Unit) × (Unit)) :=
  (br (ine a.1 b.1)
    (some ((false, ()), ()))
    (((laws_eqIntSS N a.2 b.2).bind fun r =>
      (br (!r.1.1)
        (some ((false, ()), ()))
        (some ((true, ()), ()))))))
abbrev laws_eqFormula_ps : List (PV.Mode × Ty) := [(.ro, QILLI), (.ro, QILLI)]
abbrev laws_eqFormula_rs : List (Bool × Ty) := [(true, .bool)]
noncomputable def laws_eqFormula_S (N : Nat) : FSum := ⟨laws_eqFormula_ps, laws_eqFormula_rs, fun x => laws_eqFormula N x.1 x.2.1⟩
theorem laws_eqFormula_run (N : Nat) (x : argsT laws_eqFormula_ps) : laws_eqFormula N x.1 x.2.1 = funF (laws_eqFormula_G N) tab [] Try.f19 laws_eqFormula_ps laws_eqFormula_rs x := by kernel_rfl
theorem laws_eqFormula_pc (N : Nat) : PC Try.prog 19 (laws_eqFormula_S N) := by
  have e : laws_eqFormula_S N = ⟨laws_eqFormula_ps, laws_eqFormula_rs, funF (laws_eqFormula_G N) tab [] Try.f19 laws_eqFormula_ps laws_eqFormula_rs⟩ := congrArg (FSum.mk laws_eqFormula_ps laws_eqFormula_rs) (funext (laws_eqFormula_run N))
  rw [e]
  exact fun_ok (c := laws_eqFormula_code) progOk (laws_eqFormula_gok N) (draw_ok progOk (laws_eqFormula_gok N)) Try.call19 Try.func19 (by kernel_rfl) (lsOk_at (L := []) trivial) (by kernel_rfl) (by kernel_rfl) (by kernel_rfl) (by kernel_rfl) (by kernel_rfl)

/-! ### laws_markIntS -/
noncomputable def laws_markIntS_G (N : Nat) : GTab := gOf []
theorem laws_markIntS_gok (N : Nat) : GOk Try.prog (laws_markIntS_G N) := gOf_ok trivial
noncomputable def laws_markIntS_code : Code := (Try.f38.body).getD .skip
noncomputable def laws_markIntS_l0_sh : Sh := ⟨[(0, .one (.ref 0)), (1, .one (.ro I)), (5, .one (.ro I))], [.sl 3 I .own]⟩
noncomputable def laws_markIntS_l0_ex : List (Ex × Sh) := [(.exit 0, ⟨[(0, .one (.ref 0)), (1, .one (.ro I))], [.sl 3 I .own]⟩)]
noncomputable def laws_markIntS_l0 {R : Type} (N : Nat) (k0 : Int → (List Int) → Option R) : Nat → Int → Int → (List Int) → Option R
  | 0, _, _, _ => none
  | K + 1, kv1, i, o =>
    (br (ilt i (tLen o))
      ((chk (inb o i)
        (laws_markIntS_l0 N k0 K (IntKind.i64.wrap (kv1 + 1)) (IntKind.i64.wrap (i + 1)) (tSet o i kv1))))
      (k0 kv1 o))
noncomputable def laws_markIntS_l0_again {R : Type} (N : Nat) (ks : (j : Nat) → ((laws_markIntS_l0_ex.getD j (.ret, Sh.none)).2).T → Option R) (k : Nat) (x : laws_markIntS_l0_sh.T) : Option R :=
  laws_markIntS_l0 N (fun y0 y1 => ks 0 (((), y0, ()), (y1, ()))) k x.1.2.1 x.1.2.2.1 x.2.1
noncomputable def laws_markIntS_l0_s (N : Nat) : LSum := ⟨laws_markIntS_l0_sh, laws_markIntS_l0_ex, fun x ks => laws_markIntS_l0_again N ks N x⟩
theorem laws_markIntS_l0_step (N : Nat) (R : Type) (k : Nat) (x : laws_markIntS_l0_sh.T) (ks : (j : Nat) → ((laws_markIntS_l0_ex.getD j (.ret, Sh.none)).2).T → Option R) : laws_markIntS_l0_again N ks (k + 1) x = roundF (laws_markIntS_G N) tab [] (loopAt laws_markIntS_code 0) laws_markIntS_l0_sh laws_markIntS_l0_ex (fun y => laws_markIntS_l0_again N ks k y) ks x := by kernel_rfl
theorem laws_markIntS_l0_ok (N : Nat) : LoopOk Try.prog Try.f38.ntmps (laws_markIntS_l0_s N) (loopAt laws_markIntS_code 0) :=
  loop_ok (l := laws_markIntS_l0_s N) progOk (laws_markIntS_gok N) (draw_ok progOk (laws_markIntS_gok N)) (fun R k x ks => laws_markIntS_l0_again N ks k x) (fun _ _ _ => rfl) (fun R k x ks => laws_markIntS_l0_step N R k x ks) (fun R x ks r h => ⟨N, h⟩) (lsOk_at (L := []) trivial) (by kernel_rfl) (by kernel_rfl)
noncomputable def laws_markIntS (N : Nat) (a : (List Int)) (kv : Int) : Option ((Int × Unit) × ((List Int) × Unit)) :=
  laws_markIntS_l0 N (fun kv1 o => some ((kv1, ()), (o, ()))) N kv 0 a
abbrev laws_markIntS_ps : List (PV.Mode × Ty) := [(.mut, LI), (.ro, I)]
abbrev laws_markIntS_rs : List (Bool × Ty) := [(true, I)]
noncomputable def laws_markIntS_S (N : Nat) : FSum := ⟨laws_markIntS_ps, laws_markIntS_rs, fun x => laws_markIntS N x.1 x.2.1⟩
theorem laws_markIntS_run (N : Nat) (x : argsT laws_markIntS_ps) : laws_markIntS N x.1 x.2.1 = funF (laws_markIntS_G N) tab [laws_markIntS_l0_s N] Try.f38 laws_markIntS_ps laws_markIntS_rs x := by kernel_rfl
theorem laws_markIntS_pc (N : Nat) : PC Try.prog 38 (laws_markIntS_S N) := by
  have e : laws_markIntS_S N = ⟨laws_markIntS_ps, laws_markIntS_rs, funF (laws_markIntS_G N) tab [laws_markIntS_l0_s N] Try.f38 laws_markIntS_ps laws_markIntS_rs⟩ := congrArg (FSum.mk laws_markIntS_ps laws_markIntS_rs) (funext (laws_markIntS_run N))
  rw [e]
  exact fun_ok (c := laws_markIntS_code) progOk (laws_markIntS_gok N) (draw_ok progOk (laws_markIntS_gok N)) Try.call38 Try.func38 (by kernel_rfl) (lsOk_at (L := [laws_markIntS_l0_s N]) ⟨laws_markIntS_l0_ok N, trivial⟩) (by kernel_rfl) (by kernel_rfl) (by kernel_rfl) (by kernel_rfl) (by kernel_rfl)

/-! ### laws_markIntSS -/
noncomputable def laws_markIntSS_G (N : Nat) : GTab := gOf [(38, laws_markIntS_S N)]
theorem laws_markIntSS_gok (N : Nat) : GOk Try.prog (laws_markIntSS_G N) := gOf_ok ⟨laws_markIntS_pc N, trivial⟩
noncomputable def laws_markIntSS_code : Code := (Try.f21.body).getD .skip
noncomputable def laws_markIntSS_l0_sh : Sh := ⟨[(0, .one (.ref 0)), (1, .one (.ro I)), (5, .one (.ro I))], [.sl 33 LI .deep]⟩
noncomputable def laws_markIntSS_l0_ex : List (Ex × Sh) := [(.exit 0, ⟨[(0, .one (.ref 0)), (1, .one (.ro I))], [.sl 33 LI .deep]⟩)]
noncomputable def laws_markIntSS_l0 {R : Type} (N : Nat) (k0 : Int → (List (List Int)) → Option R) : Nat → Int → Int → (List (List Int)) → Option R
  | 0, _, _, _ => none
  | K + 1, kv1, i, o =>
    (br (ilt i (tLen o))
      ((chk (inb o i)
        ((laws_markIntS N (rdL o i) kv1).bind fun r =>
        laws_markIntSS_l0 N k0 K r.1.1 (IntKind.i64.wrap (i + 1)) (tSet o i r.2.1))))
      (k0 kv1 o))
noncomputable def laws_markIntSS_l0_again {R : Type} (N : Nat) (ks : (j : Nat) → ((laws_markIntSS_l0_ex.getD j (.ret, Sh.none)).2).T → Option R) (k : Nat) (x : laws_markIntSS_l0_sh.T) : Option R :=
  laws_markIntSS_l0 N (fun y0 y1 => ks 0 (((), y0, ()), (y1, ()))) k x.1.2.1 x.1.2.2.1 x.2.1
noncomputable def laws_markIntSS_l0_s (N : Nat) : LSum := ⟨laws_markIntSS_l0_sh, laws_markIntSS_l0_ex, fun x ks => laws_markIntSS_l0_again N ks N x⟩
theorem laws_markIntSS_l0_step (N : Nat) (R : Type) (k : Nat) (x : laws_markIntSS_l0_sh.T) (ks : (j : Nat) → ((laws_markIntSS_l0_ex.getD j (.ret, Sh.none)).2).T → Option R) : laws_markIntSS_l0_again N ks (k + 1) x = roundF (laws_markIntSS_G N) tab [] (loopAt laws_markIntSS_code 0) laws_markIntSS_l0_sh laws_markIntSS_l0_ex (fun y => laws_markIntSS_l0_again N ks k y) ks x := by kernel_rfl
theorem laws_markIntSS_l0_ok (N : Nat) : LoopOk Try.prog Try.f21.ntmps (laws_markIntSS_l0_s N) (loopAt laws_markIntSS_code 0) :=
  loop_ok (l := laws_markIntSS_l0_s N) progOk (laws_markIntSS_gok N) (draw_ok progOk (laws_markIntSS_gok N)) (fun R k x ks => laws_markIntSS_l0_again N ks k x) (fun _ _ _ => rfl) (fun R k x ks => laws_markIntSS_l0_step N R k x ks) (fun R x ks r h => ⟨N, h⟩) (lsOk_at (L := []) trivial) (by kernel_rfl) (by kernel_rfl)
noncomputable def laws_markIntSS (N : Nat) (a : (List (List Int))) (kv : Int) : Option ((Int × Unit) × ((List (List Int)) × Unit)) :=
  laws_markIntSS_l0 N (fun kv1 o => some ((kv1, ()), (o, ()))) N kv 0 a
abbrev laws_markIntSS_ps : List (PV.Mode × Ty) := [(.mut, LLI), (.ro, I)]
abbrev laws_markIntSS_rs : List (Bool × Ty) := [(true, I)]
noncomputable def laws_markIntSS_S (N : Nat) : FSum := ⟨laws_markIntSS_ps, laws_markIntSS_rs, fun x => laws_markIntSS N x.1 x.2.1⟩
theorem laws_markIntSS_run (N : Nat) (x : argsT laws_markIntSS_ps) : laws_markIntSS N x.1 x.2.1 = funF (laws_markIntSS_G N) tab [laws_markIntSS_l0_s N] Try.f21 laws_markIntSS_ps laws_markIntSS_rs x := by kernel_rfl
theorem laws_markIntSS_pc (N : Nat) : PC Try.prog 21 (laws_markIntSS_S N) := by
  have e : laws_markIntSS_S N = ⟨laws_markIntSS_ps, laws_markIntSS_rs, funF (laws_markIntSS_G N) tab [laws_markIntSS_l0_s N] Try.f21 laws_markIntSS_ps laws_markIntSS_rs⟩ := congrArg (FSum.mk laws_markIntSS_ps laws_markIntSS_rs) (funext (laws_markIntSS_run N))
  rw [e]
  exact fun_ok (c := laws_markIntSS_code) progOk (laws_markIntSS_gok N) (draw_ok progOk (laws_markIntSS_gok N)) Try.call21 Try.func21 (by kernel_rfl) (lsOk_at (L := [laws_markIntSS_l0_s N]) ⟨laws_markIntSS_l0_ok N, trivial⟩) (by kernel_rfl) (by kernel_rfl) (by kernel_rfl) (by kernel_rfl) (by kernel_rfl)

/-! ### laws_markFormula -/
noncomputable def laws_markFormula_G (N : Nat) : GTab := gOf [(21, laws_markIntSS_S N)]
theorem laws_markFormula_gok (N : Nat) : GOk Try.prog (laws_markFormula_G N) := gOf_ok ⟨laws_markIntSS_pc N, trivial⟩
noncomputable def laws_markFormula_code : Code := (Try.f22.body).getD .skip
noncomputable def laws_markFormula (N : Nat) (a : (Int × (List (List Int)))) (kv : Int) : Option ((Int × Unit) × ((Int × (List (List Int))) × Unit)) :=
  ((laws_markIntSS N a.2 kv).bind fun r =>
    some ((r.1.1, ()), ((a.1, r.2.1), ())))
abbrev laws_markFormula_ps : List (PV.Mode × Ty) := [(.mut, QILLI), (.ro, I)]
abbrev laws_markFormula_rs : List (Bool × Ty) := [(true, I)]
noncomputable def laws_markFormula_S (N : Nat) : FSum := ⟨laws_markFormula_ps, laws_markFormula_rs, fun x => laws_markFormula N x.1 x.2.1⟩
theorem laws_markFormula_run (N : Nat) (x : argsT laws_markFormula_ps) : laws_markFormula N x.1 x.2.1 = funF (laws_markFormula_G N) tab [] Try.f22 laws_markFormula_ps laws_markFormula_rs x := by kernel_rfl
theorem laws_markFormula_pc (N : Nat) : PC Try.prog 22 (laws_markFormula_S N) := by
  have e : laws_markFormula_S N = ⟨laws_markFormula_ps, laws_markFormula_rs, funF (laws_markFormula_G N) tab [] Try.f22 laws_markFormula_ps laws_markFormula_rs⟩ := congrArg (FSum.mk laws_markFormula_ps laws_markFormula_rs) (funext (laws_markFormula_run N))
  rw [e]
  exact fun_ok (c := laws_markFormula_code) progOk (laws_markFormula_gok N) (draw_ok progOk (laws_markFormula_gok N)) Try.call22 Try.func22 (by kernel_rfl) (lsOk_at (L := []) trivial) (by kernel_rfl) (by kernel_rfl) (by kernel_rfl) (by kernel_rfl) (by kernel_rfl)

/-! ### laws_heldIntS -/
noncomputable def laws_heldIntS_G (N : Nat) : GTab := gOf []
theorem laws_heldIntS_gok (N : Nat) : GOk Try.prog (laws_heldIntS_G N) := gOf_ok trivial
noncomputable def laws_heldIntS_code : Code := (Try.f39.body).getD .skip
noncomputable def laws_heldIntS_l0_sh : Sh := ⟨[(0, .one (.ro LI)), (1, .one (.ro I)), (5, .one (.ro I))], []⟩
noncomputable def laws_heldIntS_l0_ex : List (Ex × Sh) := [(.ret, ⟨[(4, .one (.ro I))], []⟩), (.exit 0, ⟨[(1, .one (.ro I))], []⟩)]
noncomputable def laws_heldIntS_l0 {R : Type} (N : Nat) (k0 : Int → Option R) (k1 : Int → Option R) : Nat → (List Int) → Int → Int → Option R
  | 0, _, _, _ => none
  | K + 1, a1, kv1, i =>
    (br (ilt i (tLen a1))
      ((chk (inb a1 i)
        (br (ine (rdI a1 i) kv1)
        (k0 (-1))
        (laws_heldIntS_l0 N k0 k1 K a1 (IntKind.i64.wrap (kv1 + 1)) (IntKind.i64.wrap (i + 1))))))
      (k1 kv1))
noncomputable def laws_heldIntS_l0_again {R : Type} (N : Nat) (ks : (j : Nat) → ((laws_heldIntS_l0_ex.getD j (.ret, Sh.none)).2).T → Option R) (k : Nat) (x : laws_heldIntS_l0_sh.T) : Option R :=
  laws_heldIntS_l0 N (fun y0 => ks 0 ((y0, ()), ())) (fun y0 => ks 1 ((y0, ()), ())) k x.1.1 x.1.2.1 x.1.2.2.1
noncomputable def laws_heldIntS_l0_s (N : Nat) : LSum := ⟨laws_heldIntS_l0_sh, laws_heldIntS_l0_ex, fun x ks => laws_heldIntS_l0_again N ks N x⟩
theorem laws_heldIntS_l0_step (N : Nat) (R : Type) (k : Nat) (x : laws_heldIntS_l0_sh.T) (ks : (j : Nat) → ((laws_heldIntS_l0_ex.getD j (.ret, Sh.none)).2).T → Option R) : laws_heldIntS_l0_again N ks (k + 1) x = roundF (laws_heldIntS_G N) tab [] (loopAt laws_heldIntS_code 0) laws_heldIntS_l0_sh laws_heldIntS_l0_ex (fun y => laws_heldIntS_l0_again N ks k y) ks x := by kernel_rfl
theorem laws_heldIntS_l0_ok (N : Nat) : LoopOk Try.prog Try.f39.ntmps (laws_heldIntS_l0_s N) (loopAt laws_heldIntS_code 0) :=
  loop_ok (l := laws_heldIntS_l0_s N) progOk (laws_heldIntS_gok N) (draw_ok progOk (laws_heldIntS_gok N)) (fun R k x ks => laws_heldIntS_l0_again N ks k x) (fun _ _ _ => rfl) (fun R k x ks => laws_heldIntS_l0_step N R k x ks) (fun R x ks r h => ⟨N, h⟩) (lsOk_at (L := []) trivial) (by kernel_rfl) (by kernel_rfl)
noncomputable def laws_heldIntS (N : Nat) (a : (List Int)) (kv : Int) : Option ((Int × Unit) × (Unit)) :=
  laws_heldIntS_l0 N (fun x => some ((x, ()), ())) (fun kv1 => some ((kv1, ()), ())) N a kv 0
abbrev laws_heldIntS_ps : List (PV.Mode × Ty) := [(.ro, LI), (.ro, I)]
abbrev laws_heldIntS_rs : List (Bool × Ty) := [(true, I)]
noncomputable def laws_heldIntS_S (N : Nat) : FSum := ⟨laws_heldIntS_ps, laws_heldIntS_rs, fun x => laws_heldIntS N x.1 x.2.1⟩
theorem laws_heldIntS_run (N : Nat) (x : argsT laws_heldIntS_ps) : laws_heldIntS N x.1 x.2.1 = funF (laws_heldIntS_G N) tab [laws_heldIntS_l0_s N] Try.f39 laws_heldIntS_ps laws_heldIntS_rs x := by kernel_rfl
theorem laws_heldIntS_pc (N : Nat) : PC Try.prog 39 (laws_heldIntS_S N) := by
  have e : laws_heldIntS_S N = ⟨laws_heldIntS_ps, laws_heldIntS_rs, funF (laws_heldIntS_G N) tab [laws_heldIntS_l0_s N] Try.f39 laws_heldIntS_ps laws_heldIntS_rs⟩ := congrArg (FSum.mk laws_heldIntS_ps laws_heldIntS_rs) (funext (laws_heldIntS_run N))
  rw [e]
  exact fun_ok (c := laws_heldIntS_code) progOk (laws_heldIntS_gok N) (draw_ok progOk (laws_heldIntS_gok N)) Try.call39 Try.func39 (by kernel_rfl) (lsOk_at (L := [laws_heldIntS_l0_s N]) ⟨laws_heldIntS_l0_ok N, trivial⟩) (by kernel_rfl) (by kernel_rfl) (by kernel_rfl) (by kernel_rfl) (by kernel_rfl)

/-! ### laws_heldIntSS -/
noncomputable def laws_heldIntSS_G (N : Nat) : GTab := gOf [(39, laws_heldIntS_S N)]
theorem laws_heldIntSS_gok (N : Nat) : GOk Try.prog (laws_heldIntSS_G N) := gOf_ok ⟨laws_heldIntS_pc N, trivial⟩
noncomputable def laws_heldIntSS_code : Code := (Try.f69.body).getD .skip
noncomputable def laws_heldIntSS_l0_sh : Sh := ⟨[(0, .one (.ro LLI)), (1, .one (.ro I)), (5, .one (.ro I))], []⟩
noncomputable def laws_heldIntSS_l0_ex : List (Ex × Sh) := [(.ret, ⟨[(4, .one (.ro I))], []⟩), (.exit 0, ⟨[(1, .one (.ro I))], []⟩)]
noncomputable def laws_heldIntSS_l0 {R : Type} (N : Nat) (k0 : Int → Option R) (k1 : Int → Option R) : Nat → (List (List Int)) → Int → Int → Option R
  | 0, _, _, _ => none
  | K + 1, a1, kv1, i =>
    (br (ilt i (tLen a1))
      ((chk (inb a1 i)
        ((laws_heldIntS N (rdL a1 i) kv1).bind fun r =>
        (br (ilt r.1.1 0)
          (k0 (-1))
          (laws_heldIntSS_l0 N k0 k1 K a1 r.1.1 (IntKind.i64.wrap (i + 1)))))))
      (k1 kv1))
noncomputable def laws_heldIntSS_l0_again {R : Type} (N : Nat) (ks : (j : Nat) → ((laws_heldIntSS_l0_ex.getD j (.ret, Sh.none)).2).T → Option R) (k : Nat) (x : laws_heldIntSS_l0_sh.T) : Option R :=
  laws_heldIntSS_l0 N (fun y0 => ks 0 ((y0, ()), ())) (fun y0 => ks 1 ((y0, ()), ())) k x.1.1 x.1.2.1 x.1.2.2.1
noncomputable def laws_heldIntSS_l0_s (N : Nat) : LSum := ⟨laws_heldIntSS_l0_sh, laws_heldIntSS_l0_ex, fun x ks => laws_heldIntSS_l0_again N ks N x⟩
theorem laws_heldIntSS_l0_step (N : Nat) (R : Type) (k : Nat) (x : laws_heldIntSS_l0_sh.T) (ks : (j : Nat) → ((laws_heldIntSS_l0_ex.getD j (.ret, Sh.none)).2).T → Option R) : laws_heldIntSS_l0_again N ks (k + 1) x = roundF (laws_heldIntSS_G N) tab [] (loopAt laws_heldIntSS_code 0) laws_heldIntSS_l0_sh laws_heldIntSS_l0_ex (fun y => laws_heldIntSS_l0_again N ks k y) ks x := by kernel_rfl
theorem laws_heldIntSS_l0_ok (N : Nat) : LoopOk Try.prog Try.f69.ntmps (laws_heldIntSS_l0_s N) (loopAt laws_heldIntSS_code 0) :=
  loop_ok (l := laws_heldIntSS_l0_s N) progOk (laws_heldIntSS_gok N) (draw_ok progOk (laws_heldIntSS_gok N)) (fun R k x ks => laws_heldIntSS_l0_again N ks k x) (fun _ _ _ => rfl) (fun R k x ks => laws_heldIntSS_l0_step N R k x ks) (fun R x ks r h => ⟨N, h⟩) (lsOk_at (L := []) trivial) (by kernel_rfl) (by kernel_rfl)
noncomputable def laws_heldIntSS (N : Nat) (a : (List (List Int))) (kv : Int) : Option ((Int × Unit) × (Unit)) :=
  laws_heldIntSS_l0 N (fun x => some ((x, ()), ())) (fun kv1 => some ((kv1, ()), ())) N a kv 0
abbrev laws_heldIntSS_ps : List (PV.Mode × Ty) := [(.ro, LLI), (.ro, I)]
abbrev laws_heldIntSS_rs : List (Bool × Ty) := [(true, I)]
noncomputable def laws_heldIntSS_S (N : Nat) : FSum := ⟨laws_heldIntSS_ps, laws_heldIntSS_rs, fun x => laws_heldIntSS N x.1 x.2.1⟩
theorem laws_heldIntSS_run (N : Nat) (x : argsT laws_heldIntSS_ps) : laws_heldIntSS N x.1 x.2.1 = funF (laws_heldIntSS_G N) tab [laws_heldIntSS_l0_s N] Try.f69 laws_heldIntSS_ps laws_heldIntSS_rs x := by kernel_rfl
theorem laws_heldIntSS_pc (N : Nat) : PC Try.prog 69 (laws_heldIntSS_S N) := by
  have e : laws_heldIntSS_S N = ⟨laws_heldIntSS_ps, laws_heldIntSS_rs, funF (laws_heldIntSS_G N) tab [laws_heldIntSS_l0_s N] Try.f69 laws_heldIntSS_ps laws_heldIntSS_rs⟩ := congrArg (FSum.mk laws_heldIntSS_ps laws_heldIntSS_rs) (funext (laws_heldIntSS_run N))
  rw [e]
  exact fun_ok (c := laws_heldIntSS_code) progOk (laws_heldIntSS_gok N) (draw_ok progOk (laws_heldIntSS_gok N)) Try.call69 Try.func69 (by kernel_rfl) (lsOk_at (L := [laws_heldIntSS_l0_s N]) ⟨laws_heldIntSS_l0_ok N, trivial⟩) (by kernel_rfl) (by kernel_rfl) (by kernel_rfl) (by kernel_rfl) (by kernel_rfl)

/-! ### laws_heldFormula -/
noncomputable def laws_heldFormula_G (N : Nat) : GTab := gOf [(69, laws_heldIntSS_S N)]
theorem laws_heldFormula_gok (N : Nat) : GOk Try.prog (laws_heldFormula_G N) := gOf_ok ⟨laws_heldIntSS_pc N, trivial⟩
noncomputable def laws_heldFormula_code : Code := (Try.f23.body).getD .skip
noncomputable def laws_heldFormula (N : Nat) (a : (Int × (List (List Int)))) (kv : Int) : Option ((Int × Unit) × (Unit)) :=
  ((laws_heldIntSS N a.2 kv).bind fun r =>
    (br (ilt r.1.1 0)
      (some (((-1), ()), ()))
      (some ((r.1.1, ()), ()))))
abbrev laws_heldFormula_ps : List (PV.Mode × Ty) := [(.ro, QILLI), (.ro, I)]
abbrev laws_heldFormula_rs : List (Bool × Ty) := [(true, I)]
noncomputable def laws_heldFormula_S (N : Nat) : FSum := ⟨laws_heldFormula_ps, laws_heldFormula_rs, fun x => laws_heldFormula N x.1 x.2.1⟩
theorem laws_heldFormula_run (N : Nat) (x : argsT laws_heldFormula_ps) : laws_heldFormula N x.1 x.2.1 = funF (laws_heldFormula_G N) tab [] Try.f23 laws_heldFormula_ps laws_heldFormula_rs x := by kernel_rfl
theorem laws_heldFormula_pc (N : Nat) : PC Try.prog 23 (laws_heldFormula_S N) := by
  have e : laws_heldFormula_S N = ⟨laws_heldFormula_ps, laws_heldFormula_rs, funF (laws_heldFormula_G N) tab [] Try.f23 laws_heldFormula_ps laws_heldFormula_rs⟩ := congrArg (FSum.mk laws_heldFormula_ps laws_heldFormula_rs) (funext (laws_heldFormula_run N))
  rw [e]
  exact fun_ok (c := laws_heldFormula_code) progOk (laws_heldFormula_gok N) (draw_ok progOk (laws_heldFormula_gok N)) Try.call23 Try.func23 (by kernel_rfl) (lsOk_at (L := []) trivial) (by kernel_rfl) (by kernel_rfl) (by kernel_rfl) (by kernel_rfl) (by kernel_rfl)

/-! ### laws_FnExactFormulaOf -/
noncomputable def laws_FnExactFormulaOf_G (N : Nat) : GTab := gOf [(15, laws_szIntSS_S N), (17, laws_toIntSS_S N), (16, spec_FormulaOf_S N), (18, impl_FormulaOf_S N), (19, laws_eqFormula_S N), (20, laws_eqIntSS_S N), (21, laws_markIntSS_S N), (22, laws_markFormula_S N), (23, laws_heldFormula_S N)]
theorem laws_FnExactFormulaOf_gok (N : Nat) : GOk Try.prog (laws_FnExactFormulaOf_G N) := gOf_ok ⟨laws_szIntSS_pc N, laws_toIntSS_pc N, spec_FormulaOf_pc N, impl_FormulaOf_pc N, laws_eqFormula_pc N, laws_eqIntSS_pc N, laws_markIntSS_pc N, laws_markFormula_pc N, laws_heldFormula_pc N, trivial⟩
noncomputable def laws_FnExactFormulaOf_code : Code := (Try.f3.body).getD .skip
noncomputable def laws_FnExactFormulaOf (N : Nat) (c : Int) (c1 : (List (List Int))) : Option ((Bool × Unit) × (Unit)) :=
  ((laws_szIntSS N c1 1048576).bind fun r =>
    (br (ilt r.1.1 0)
      (some ((true, ()), ()))
      (((laws_toIntSS N c1).bind fun r1 =>
        ((spec_FormulaOf N c r1.1.1).bind fun r2 =>
          ((laws_toIntSS N c1).bind fun r3 =>
            ((impl_FormulaOf N c r3.1.1).bind fun r4 =>
              ((laws_eqFormula N (r4.1.1.1, r4.1.1.2) (r2.1.1.1, r2.1.1.2)).bind fun r5 =>
                (br (!r5.1.1)
                  (some ((false, ()), ()))
                  ((br (!(r4.1.2.1 == r2.1.2.1))
                    (some ((false, ()), ()))
                    (((laws_toIntSS N c1).bind fun r6 =>
                      ((laws_eqIntSS N r3.1.1 r6.1.1).bind fun r7 =>
                        (br (!r7.1.1)
                          (some ((false, ()), ()))
                          (((laws_markIntSS N r3.1.1 1).bind fun r8 =>
                            (br (ilt r8.1.1 0)
                              (some ((false, ()), ()))
                              (((laws_eqFormula N (r4.1.1.1, r4.1.1.2) (r2.1.1.1, r2.1.1.2)).bind fun r9 =>
                                (br (!r9.1.1)
                                  (some ((false, ()), ()))
                                  ((br (!(r4.1.2.1 == r2.1.2.1))
                                    (some ((false, ()), ()))
                                    (((laws_markFormula N (r4.1.1.1, r4.1.1.2) 1).bind fun r10 =>
                                      ((laws_heldFormula N (r4.1.1.1, r10.2.1.2) 1).bind fun r11 =>
                                        (br (ilt r11.1.1 0)
                                          (some ((false, ()), ()))
                                          ((br (ine r11.1.1 r10.1.1)
                                            (some ((false, ()), ()))
                                            (((laws_toIntSS N c1).bind fun r12 =>
                                              ((impl_FormulaOf N c r12.1.1).bind fun r13 =>
                                                ((laws_eqFormula N (r13.1.1.1, r13.1.1.2) (r2.1.1.1, r2.1.1.2)).bind fun r14 =>
                                                  (br (!r14.1.1)
                                                    (some ((false, ()), ()))
                                                    ((br (!(r13.1.2.1 == r2.1.2.1))
                                                      (some ((false, ()), ()))
                                                      (((laws_heldFormula N (r4.1.1.1, r10.2.1.2) 1).bind fun r15 =>
                                                        (br (ilt r15.1.1 0)
                                                          (some ((false, ()), ()))
                                                          ((br (ine r15.1.1 r10.1.1)
                                                            (some ((false, ()), ()))
                                                            (some ((true, ()), ())))))))))))))))))))))))))))))))))))))))))))
abbrev laws_FnExactFormulaOf_ps : List (PV.Mode × Ty) := [(.ro, I), (.ro, LLI)]
abbrev laws_FnExactFormulaOf_rs : List (Bool × Ty) := [(true, .bool)]
noncomputable def laws_FnExactFormulaOf_S (N : Nat) : FSum := ⟨laws_FnExactFormulaOf_ps, laws_FnExactFormulaOf_rs, fun x => laws_FnExactFormulaOf N x.1 x.2.1⟩
theorem laws_FnExactFormulaOf_run (N : Nat) (x : argsT laws_FnExactFormulaOf_ps) : laws_FnExactFormulaOf N x.1 x.2.1 = funF (laws_FnExactFormulaOf_G N) tab [] Try.f3 laws_FnExactFormulaOf_ps laws_FnExactFormulaOf_rs x := by kernel_rfl
theorem laws_FnExactFormulaOf_pc (N : Nat) : PC Try.prog 3 (laws_FnExactFormulaOf_S N) := by
  have e : laws_FnExactFormulaOf_S N = ⟨laws_FnExactFormulaOf_ps, laws_FnExactFormulaOf_rs, funF (laws_FnExactFormulaOf_G N) tab [] Try.f3 laws_FnExactFormulaOf_ps laws_FnExactFormulaOf_rs⟩ := congrArg (FSum.mk laws_FnExactFormulaOf_ps laws_FnExactFormulaOf_rs) (funext (laws_FnExactFormulaOf_run N))
  rw [e]
  exact fun_ok (c := laws_FnExactFormulaOf_code) progOk (laws_FnExactFormulaOf_gok N) (draw_ok progOk (laws_FnExactFormulaOf_gok N)) Try.call3 Try.func3 (by kernel_rfl) (lsOk_at (L := []) trivial) (by kernel_rfl) (by kernel_rfl) (by kernel_rfl) (by kernel_rfl) (by kernel_rfl)
end Go.Proofs.Ythkejedgfhjdiaa
