/- Functions of the program as functions on data. -/
import Derived.Test.YthkejedgfhjdiaaNegateVarsFa
set_option linter.all false
namespace Go.Proofs.Ythkejedgfhjdiaa
open Go Go.PV
/-! ### slices_insertionSortOrdered_int -/
noncomputable def slices_insertionSortOrdered_int_G (N : Nat) : GTab := gOf [(183, cmp_Less_int_S N)]
theorem slices_insertionSortOrdered_int_gok (N : Nat) : GOk Try.prog (slices_insertionSortOrdered_int_G N) := gOf_ok ⟨cmp_Less_int_pc N, trivial⟩
noncomputable def slices_insertionSortOrdered_int_code : Code := (Try.f177.body).getD .skip
noncomputable def slices_insertionSortOrdered_int_l0_0_sh : Sh := ⟨[(0, .one (.ref 0)), (1, .one (.ro I)), (2, .one (.ro I)), (6, .one (.ro I)), (7, .one (.ro I))], [.sl 3 I .own]⟩
noncomputable def slices_insertionSortOrdered_int_l0_0_ex : List (Ex × Sh) := [(.exit 2, ⟨[(0, .one (.ref 0)), (1, .one (.ro I)), (2, .one (.ro I)), (6, .one (.ro I))], [.sl 3 I .own]⟩)]
noncomputable def slices_insertionSortOrdered_int_l0_0 {R : Type} (N : Nat) (k0 : Int → Int → Int → (List Int) → Option R) : Nat → Int → Int → Int → Int → (List Int) → Option R
  | 0, _, _, _, _, _ => none
  | K + 1, a2, b2, i1, j, o1 =>
    (br (ilt a2 j)
      ((chk (inb o1 j)
        (chk (inb o1 (IntKind.i64.wrap (j - 1)))
        ((cmp_Less_int N (rdI o1 j) (rdI o1 (IntKind.i64.wrap (j - 1)))).bind fun r =>
        (br r.1.1
          ((chk (inb o1 (IntKind.i64.wrap (j - 1)))
            (chk (inb o1 j)
            (chk (inb o1 j)
            (chk (inb (tSet o1 j (rdI o1 (IntKind.i64.wrap (j - 1)))) (IntKind.i64.wrap (j - 1)))
            (slices_insertionSortOrdered_int_l0_0 N k0 K a2 b2 i1 (IntKind.i64.wrap (j - 1)) (tSet (tSet o1 j (rdI o1 (IntKind.i64.wrap (j - 1)))) (IntKind.i64.wrap (j - 1)) (rdI o1 j))))))))
          (k0 a2 b2 i1 o1))))))
      (k0 a2 b2 i1 o1))
noncomputable def slices_insertionSortOrdered_int_l0_0_again {R : Type} (N : Nat) (ks : (j : Nat) → ((slices_insertionSortOrdered_int_l0_0_ex.getD j (.ret, Sh.none)).2).T → Option R) (k : Nat) (x : slices_insertionSortOrdered_int_l0_0_sh.T) : Option R :=
  slices_insertionSortOrdered_int_l0_0 N (fun y0 y1 y2 y3 => ks 0 (((), y0, y1, y2, ()), (y3, ()))) k x.1.2.1 x.1.2.2.1 x.1.2.2.2.1 x.1.2.2.2.2.1 x.2.1
noncomputable def slices_insertionSortOrdered_int_l0_0_s (N : Nat) : LSum := ⟨slices_insertionSortOrdered_int_l0_0_sh, slices_insertionSortOrdered_int_l0_0_ex, fun x ks => slices_insertionSortOrdered_int_l0_0_again N ks N x⟩
theorem slices_insertionSortOrdered_int_l0_0_step (N : Nat) (R : Type) (k : Nat) (x : slices_insertionSortOrdered_int_l0_0_sh.T) (ks : (j : Nat) → ((slices_insertionSortOrdered_int_l0_0_ex.getD j (.ret, Sh.none)).2).T → Option R) : slices_insertionSortOrdered_int_l0_0_again N ks (k + 1) x = roundF (slices_insertionSortOrdered_int_G N) tab [] (loopAt (loopAt slices_insertionSortOrdered_int_code 0) 0) slices_insertionSortOrdered_int_l0_0_sh slices_insertionSortOrdered_int_l0_0_ex (fun y => slices_insertionSortOrdered_int_l0_0_again N ks k y) ks x := by kernel_rfl
theorem slices_insertionSortOrdered_int_l0_0_ok (N : Nat) : LoopOk Try.prog Try.f177.ntmps (slices_insertionSortOrdered_int_l0_0_s N) (loopAt (loopAt slices_insertionSortOrdered_int_code 0) 0) :=
  loop_ok (l := slices_insertionSortOrdered_int_l0_0_s N) progOk (slices_insertionSortOrdered_int_gok N) (draw_ok progOk (slices_insertionSortOrdered_int_gok N)) (fun R k x ks => slices_insertionSortOrdered_int_l0_0_again N ks k x) (fun _ _ _ => rfl) (fun R k x ks => slices_insertionSortOrdered_int_l0_0_step N R k x ks) (fun R x ks r h => ⟨N, h⟩) (lsOk_at (L := []) trivial) (by kernel_rfl) (by kernel_rfl)
noncomputable def slices_insertionSortOrdered_int_l0_sh : Sh := ⟨[(0, .one (.ref 0)), (1, .one (.ro I)), (2, .one (.ro I)), (6, .one (.ro I))], [.sl 3 I .own]⟩
noncomputable def slices_insertionSortOrdered_int_l0_ex : List (Ex × Sh) := [(.exit 0, ⟨[(0, .one (.ref 0))], [.sl 3 I .own]⟩)]
noncomputable def slices_insertionSortOrdered_int_l0 {R : Type} (N : Nat) (k0 : (List Int) → Option R) : Nat → Int → Int → Int → (List Int) → Option R
  | 0, _, _, _, _ => none
  | K + 1, a1, b1, i, o =>
    (br (ilt i b1)
      (slices_insertionSortOrdered_int_l0_0 N (fun a2 b2 i1 o1 => slices_insertionSortOrdered_int_l0 N k0 K a2 b2 (IntKind.i64.wrap (i1 + 1)) o1) N a1 b1 i i o)
      (k0 o))
noncomputable def slices_insertionSortOrdered_int_l0_again {R : Type} (N : Nat) (ks : (j : Nat) → ((slices_insertionSortOrdered_int_l0_ex.getD j (.ret, Sh.none)).2).T → Option R) (k : Nat) (x : slices_insertionSortOrdered_int_l0_sh.T) : Option R :=
  slices_insertionSortOrdered_int_l0 N (fun y0 => ks 0 (((), ()), (y0, ()))) k x.1.2.1 x.1.2.2.1 x.1.2.2.2.1 x.2.1
noncomputable def slices_insertionSortOrdered_int_l0_s (N : Nat) : LSum := ⟨slices_insertionSortOrdered_int_l0_sh, slices_insertionSortOrdered_int_l0_ex, fun x ks => slices_insertionSortOrdered_int_l0_again N ks N x⟩
theorem slices_insertionSortOrdered_int_l0_step (N : Nat) (R : Type) (k : Nat) (x : slices_insertionSortOrdered_int_l0_sh.T) (ks : (j : Nat) → ((slices_insertionSortOrdered_int_l0_ex.getD j (.ret, Sh.none)).2).T → Option R) : slices_insertionSortOrdered_int_l0_again N ks (k + 1) x = roundF (slices_insertionSortOrdered_int_G N) tab [slices_insertionSortOrdered_int_l0_0_s N] (loopAt slices_insertionSortOrdered_int_code 0) slices_insertionSortOrdered_int_l0_sh slices_insertionSortOrdered_int_l0_ex (fun y => slices_insertionSortOrdered_int_l0_again N ks k y) ks x := by kernel_rfl
theorem slices_insertionSortOrdered_int_l0_ok (N : Nat) : LoopOk Try.prog Try.f177.ntmps (slices_insertionSortOrdered_int_l0_s N) (loopAt slices_insertionSortOrdered_int_code 0) :=
  loop_ok (l := slices_insertionSortOrdered_int_l0_s N) progOk (slices_insertionSortOrdered_int_gok N) (draw_ok progOk (slices_insertionSortOrdered_int_gok N)) (fun R k x ks => slices_insertionSortOrdered_int_l0_again N ks k x) (fun _ _ _ => rfl) (fun R k x ks => slices_insertionSortOrdered_int_l0_step N R k x ks) (fun R x ks r h => ⟨N, h⟩) (lsOk_at (L := [slices_insertionSortOrdered_int_l0_0_s N]) ⟨slices_insertionSortOrdered_int_l0_0_ok N, trivial⟩) (by kernel_rfl) (by kernel_rfl)
noncomputable def slices_insertionSortOrdered_int (N : Nat) (data : (List Int)) (a : Int) (b : Int) : Option ((Unit) × ((List Int) × Unit)) :=
  slices_insertionSortOrdered_int_l0 N (fun o => some ((), (o, ()))) N a b (IntKind.i64.wrap (a + 1)) data
abbrev slices_insertionSortOrdered_int_ps : List (PV.Mode × Ty) := [(.mut, LI), (.ro, I), (.ro, I)]
abbrev slices_insertionSortOrdered_int_rs : List (Bool × Ty) := []
noncomputable def slices_insertionSortOrdered_int_S (N : Nat) : FSum := ⟨slices_insertionSortOrdered_int_ps, slices_insertionSortOrdered_int_rs, fun x => slices_insertionSortOrdered_int N x.1 x.2.1 x.2.2.1⟩
theorem slices_insertionSortOrdered_int_run (N : Nat) (x : argsT slices_insertionSortOrdered_int_ps) : slices_insertionSortOrdered_int N x.1 x.2.1 x.2.2.1 = funF (slices_insertionSortOrdered_int_G N) tab [slices_insertionSortOrdered_int_l0_s N] Try.f177 slices_insertionSortOrdered_int_ps slices_insertionSortOrdered_int_rs x := by kernel_rfl
theorem slices_insertionSortOrdered_int_pc (N : Nat) : PC Try.prog 177 (slices_insertionSortOrdered_int_S N) := by
  have e : slices_insertionSortOrdered_int_S N = ⟨slices_insertionSortOrdered_int_ps, slices_insertionSortOrdered_int_rs, funF (slices_insertionSortOrdered_int_G N) tab [slices_insertionSortOrdered_int_l0_s N] Try.f177 slices_insertionSortOrdered_int_ps slices_insertionSortOrdered_int_rs⟩ := congrArg (FSum.mk slices_insertionSortOrdered_int_ps slices_insertionSortOrdered_int_rs) (funext (slices_insertionSortOrdered_int_run N))
  rw [e]
  exact fun_ok (c := slices_insertionSortOrdered_int_code) progOk (slices_insertionSortOrdered_int_gok N) (draw_ok progOk (slices_insertionSortOrdered_int_gok N)) Try.call177 Try.func177 (by kernel_rfl) (lsOk_at (L := [slices_insertionSortOrdered_int_l0_s N]) ⟨slices_insertionSortOrdered_int_l0_ok N, trivial⟩) (by kernel_rfl) (by kernel_rfl) (by kernel_rfl) (by kernel_rfl) (by kernel_rfl)

/-! ### slices_pdqsortOrdered_int -/
noncomputable def slices_pdqsortOrdered_int_G (N : Nat) : GTab := gOf [(177, slices_insertionSortOrdered_int_S N)]
theorem slices_pdqsortOrdered_int_gok (N : Nat) : GOk Try.prog (slices_pdqsortOrdered_int_G N) := gOf_ok ⟨slices_insertionSortOrdered_int_pc N, trivial⟩
noncomputable def slices_pdqsortOrdered_int_code : Code := (Try.f160.body).getD .skip
noncomputable def slices_pdqsortOrdered_int_l0_sh : Sh := ⟨[(0, .one (.ref 0)), (1, .one (.ro I)), (2, .one (.ro I)), (3, .one (.ro I)), (8, .one (.ro .bool)), (9, .one (.ro .bool))], [.sl 3 I .own]⟩
noncomputable def slices_pdqsortOrdered_int_l0_ex : List (Ex × Sh) := [(.ret, ⟨[(0, .one (.ref 0))], [.sl 3 I .own]⟩)]
noncomputable def slices_pdqsortOrdered_int_l0 {R : Type} (N : Nat) (k0 : (List Int) → Option R) : Nat → Int → Int → Int → Bool → Bool → (List Int) → Option R
  | 0, _, _, _, _, _, _ => none
  | K + 1, x, x1, x2, x3, x4, o =>
    (br (ile (IntKind.i64.wrap (x1 - x)) 12)
      (((slices_insertionSortOrdered_int N o x x1).bind fun r =>
        k0 r.2.1))
      ((br (ieq x2 0)
        (none)
        ((br (!x3)
          (none)
          (none))))))
noncomputable def slices_pdqsortOrdered_int_l0_again {R : Type} (N : Nat) (ks : (j : Nat) → ((slices_pdqsortOrdered_int_l0_ex.getD j (.ret, Sh.none)).2).T → Option R) (k : Nat) (x : slices_pdqsortOrdered_int_l0_sh.T) : Option R :=
  slices_pdqsortOrdered_int_l0 N (fun y0 => ks 0 (((), ()), (y0, ()))) k x.1.2.1 x.1.2.2.1 x.1.2.2.2.1 x.1.2.2.2.2.1 x.1.2.2.2.2.2.1 x.2.1
noncomputable def slices_pdqsortOrdered_int_l0_s (N : Nat) : LSum := ⟨slices_pdqsortOrdered_int_l0_sh, slices_pdqsortOrdered_int_l0_ex, fun x ks => slices_pdqsortOrdered_int_l0_again N ks N x⟩
theorem slices_pdqsortOrdered_int_l0_step (N : Nat) (R : Type) (k : Nat) (x : slices_pdqsortOrdered_int_l0_sh.T) (ks : (j : Nat) → ((slices_pdqsortOrdered_int_l0_ex.getD j (.ret, Sh.none)).2).T → Option R) : slices_pdqsortOrdered_int_l0_again N ks (k + 1) x = roundF (slices_pdqsortOrdered_int_G N) tab [] (loopAt slices_pdqsortOrdered_int_code 0) slices_pdqsortOrdered_int_l0_sh slices_pdqsortOrdered_int_l0_ex (fun y => slices_pdqsortOrdered_int_l0_again N ks k y) ks x := by kernel_rfl
theorem slices_pdqsortOrdered_int_l0_ok (N : Nat) : LoopOk Try.prog Try.f160.ntmps (slices_pdqsortOrdered_int_l0_s N) (loopAt slices_pdqsortOrdered_int_code 0) :=
  loop_ok (l := slices_pdqsortOrdered_int_l0_s N) progOk (slices_pdqsortOrdered_int_gok N) (draw_ok progOk (slices_pdqsortOrdered_int_gok N)) (fun R k x ks => slices_pdqsortOrdered_int_l0_again N ks k x) (fun _ _ _ => rfl) (fun R k x ks => slices_pdqsortOrdered_int_l0_step N R k x ks) (fun R x ks r h => ⟨N, h⟩) (lsOk_at (L := []) trivial) (by kernel_rfl) (by kernel_rfl)
noncomputable def slices_pdqsortOrdered_int (N : Nat) (c : (List Int)) (c1 : Int) (c2 : Int) (c3 : Int) : Option ((Unit) × ((List Int) × Unit)) :=
  slices_pdqsortOrdered_int_l0 N (fun o => some ((), (o, ()))) N c1 c2 c3 true true c
abbrev slices_pdqsortOrdered_int_ps : List (PV.Mode × Ty) := [(.mut, LI), (.ro, I), (.ro, I), (.ro, I)]
abbrev slices_pdqsortOrdered_int_rs : List (Bool × Ty) := []
noncomputable def slices_pdqsortOrdered_int_S (N : Nat) : FSum := ⟨slices_pdqsortOrdered_int_ps, slices_pdqsortOrdered_int_rs, fun x => slices_pdqsortOrdered_int N x.1 x.2.1 x.2.2.1 x.2.2.2.1⟩
theorem slices_pdqsortOrdered_int_run (N : Nat) (x : argsT slices_pdqsortOrdered_int_ps) : slices_pdqsortOrdered_int N x.1 x.2.1 x.2.2.1 x.2.2.2.1 = funF (slices_pdqsortOrdered_int_G N) tab [slices_pdqsortOrdered_int_l0_s N] Try.f160 slices_pdqsortOrdered_int_ps slices_pdqsortOrdered_int_rs x := by kernel_rfl
theorem slices_pdqsortOrdered_int_pc (N : Nat) : PC Try.prog 160 (slices_pdqsortOrdered_int_S N) := by
  have e : slices_pdqsortOrdered_int_S N = ⟨slices_pdqsortOrdered_int_ps, slices_pdqsortOrdered_int_rs, funF (slices_pdqsortOrdered_int_G N) tab [slices_pdqsortOrdered_int_l0_s N] Try.f160 slices_pdqsortOrdered_int_ps slices_pdqsortOrdered_int_rs⟩ := congrArg (FSum.mk slices_pdqsortOrdered_int_ps slices_pdqsortOrdered_int_rs) (funext (slices_pdqsortOrdered_int_run N))
  rw [e]
  exact fun_ok (c := slices_pdqsortOrdered_int_code) progOk (slices_pdqsortOrdered_int_gok N) (draw_ok progOk (slices_pdqsortOrdered_int_gok N)) Try.call160 Try.func160 (by kernel_rfl) (lsOk_at (L := [slices_pdqsortOrdered_int_l0_s N]) ⟨slices_pdqsortOrdered_int_l0_ok N, trivial⟩) (by kernel_rfl) (by kernel_rfl) (by kernel_rfl) (by kernel_rfl) (by kernel_rfl)

/-! ### slices_Sort_LI_int -/
noncomputable def slices_Sort_LI_int_G (N : Nat) : GTab := gOf [(161, math_bits_Len_S N), (160, slices_pdqsortOrdered_int_S N)]
theorem slices_Sort_LI_int_gok (N : Nat) : GOk Try.prog (slices_Sort_LI_int_G N) := gOf_ok ⟨math_bits_Len_pc N, slices_pdqsortOrdered_int_pc N, trivial⟩
noncomputable def slices_Sort_LI_int_code : Code := (Try.f119.body).getD .skip
noncomputable def slices_Sort_LI_int (N : Nat) (x : (List Int)) : Option ((Unit) × ((List Int) × Unit)) :=
  ((math_bits_Len N (IntKind.u64.wrap ((tLen x)))).bind fun r =>
    ((slices_pdqsortOrdered_int N x 0 (tLen x) r.1.1).bind fun r1 =>
      some ((), (r1.2.1, ()))))
abbrev slices_Sort_LI_int_ps : List (PV.Mode × Ty) := [(.mut, LI)]
abbrev slices_Sort_LI_int_rs : List (Bool × Ty) := []
noncomputable def slices_Sort_LI_int_S (N : Nat) : FSum := ⟨slices_Sort_LI_int_ps, slices_Sort_LI_int_rs, fun x => slices_Sort_LI_int N x.1⟩
theorem slices_Sort_LI_int_run (N : Nat) (x : argsT slices_Sort_LI_int_ps) : slices_Sort_LI_int N x.1 = funF (slices_Sort_LI_int_G N) tab [] Try.f119 slices_Sort_LI_int_ps slices_Sort_LI_int_rs x := by kernel_rfl
theorem slices_Sort_LI_int_pc (N : Nat) : PC Try.prog 119 (slices_Sort_LI_int_S N) := by
  have e : slices_Sort_LI_int_S N = ⟨slices_Sort_LI_int_ps, slices_Sort_LI_int_rs, funF (slices_Sort_LI_int_G N) tab [] Try.f119 slices_Sort_LI_int_ps slices_Sort_LI_int_rs⟩ := congrArg (FSum.mk slices_Sort_LI_int_ps slices_Sort_LI_int_rs) (funext (slices_Sort_LI_int_run N))
  rw [e]
  exact fun_ok (c := slices_Sort_LI_int_code) progOk (slices_Sort_LI_int_gok N) (draw_ok progOk (slices_Sort_LI_int_gok N)) Try.call119 Try.func119 (by kernel_rfl) (lsOk_at (L := []) trivial) (by kernel_rfl) (by kernel_rfl) (by kernel_rfl) (by kernel_rfl) (by kernel_rfl)

/-! ### impl_NegateVars -/
noncomputable def impl_NegateVars_G (N : Nat) : GTab := gOf [(116, impl_IsFormula_S N), (117, impl_isRising_S N), (118, impl_copyLists_S N), (92, slices_Contains_LI_int_S N), (119, slices_Sort_LI_int_S N)]
theorem impl_NegateVars_gok (N : Nat) : GOk Try.prog (impl_NegateVars_G N) := gOf_ok ⟨impl_IsFormula_pc N, impl_isRising_pc N, impl_copyLists_pc N, slices_Contains_LI_int_pc N, slices_Sort_LI_int_pc N, trivial⟩
noncomputable def impl_NegateVars_code : Code := (Try.f55.body).getD .skip
noncomputable def impl_NegateVars_l0_0_sh : Sh := ⟨[(1, .one (.ro LI)), (4, .one (.adr 0 0)), (6, .one (.adr 1 0)), (8, .one (.el 2)), (29, .one (.ref 2)), (30, .one (.ro I)), (31, .one (.ro I)), (35, .one (.el 2)), (36, .one (.ro I)), (37, .one (.ro I))], [.box [.ro I, .nilsl], .box [.ro I, .ref 2], .sl 33 LI .deep]⟩
noncomputable def impl_NegateVars_l0_0_ex : List (Ex × Sh) := [(.exit 2, ⟨[(1, .one (.ro LI)), (4, .one (.adr 0 0)), (6, .one (.adr 1 0)), (8, .one (.el 2)), (29, .one (.ref 2)), (30, .one (.ro I)), (31, .one (.ro I))], [.box [.ro I, .nilsl], .box [.ro I, .ref 2], .sl 33 LI .deep]⟩)]
noncomputable def impl_NegateVars_l0_0 {R : Type} (N : Nat) (k0 : (List Int) → Int → Int → Int → Int → Int → (List (List Int)) → Option R) : Nat → (List Int) → Int → Int → Int → Int → Int → Int → Int → Int → (List (List Int)) → Option R
  | 0, _, _, _, _, _, _, _, _, _, _ => none
  | K + 1, vars2, clause, x2, x3, x4, x5, x6, o3, o4, o5 =>
    (br (ilt x6 x5)
      ((chk (inb (rdL o5 x4) x6)
        ((slices_Contains_LI_int N vars2 (IntKind.i64.wrap ((if (IntKind.i64.wrap (0 - (rdI (rdL o5 x4) x6))) > (rdI (rdL o5 x4) x6) then (IntKind.i64.wrap (0 - (rdI (rdL o5 x4) x6))) else (rdI (rdL o5 x4) x6)) - 1))).bind fun r3 =>
        (br r3.1.1
          ((chk (inb (rdL o5 clause) x6)
            (impl_NegateVars_l0_0 N k0 K vars2 clause x2 x3 x4 x5 (IntKind.i64.wrap (x6 + 1)) o3 o4 (tSet o5 clause (tSet (rdL o5 clause) x6 (IntKind.i64.wrap (0 - (rdI (rdL o5 x4) x6))))))))
          (impl_NegateVars_l0_0 N k0 K vars2 clause x2 x3 x4 x5 (IntKind.i64.wrap (x6 + 1)) o3 o4 o5)))))
      (k0 vars2 clause x2 x3 o3 o4 o5))
noncomputable def impl_NegateVars_l0_0_again {R : Type} (N : Nat) (ks : (j : Nat) → ((impl_NegateVars_l0_0_ex.getD j (.ret, Sh.none)).2).T → Option R) (k : Nat) (x : impl_NegateVars_l0_0_sh.T) : Option R :=
  impl_NegateVars_l0_0 N (fun y0 y1 y2 y3 y4 y5 y6 => ks 0 ((y0, (), (), y1, (), y2, y3, ()), ((y4, (), ()), (y5, (), ()), y6, ()))) k x.1.1 x.1.2.2.2.1 x.1.2.2.2.2.2.1 x.1.2.2.2.2.2.2.1 x.1.2.2.2.2.2.2.2.1 x.1.2.2.2.2.2.2.2.2.1 x.1.2.2.2.2.2.2.2.2.2.1 x.2.1.1 x.2.2.1.1 x.2.2.2.1
noncomputable def impl_NegateVars_l0_0_s (N : Nat) : LSum := ⟨impl_NegateVars_l0_0_sh, impl_NegateVars_l0_0_ex, fun x ks => impl_NegateVars_l0_0_again N ks N x⟩
theorem impl_NegateVars_l0_0_step (N : Nat) (R : Type) (k : Nat) (x : impl_NegateVars_l0_0_sh.T) (ks : (j : Nat) → ((impl_NegateVars_l0_0_ex.getD j (.ret, Sh.none)).2).T → Option R) : impl_NegateVars_l0_0_again N ks (k + 1) x = roundF (impl_NegateVars_G N) tab [] (loopAt (loopAt impl_NegateVars_code 0) 0) impl_NegateVars_l0_0_sh impl_NegateVars_l0_0_ex (fun y => impl_NegateVars_l0_0_again N ks k y) ks x := by kernel_rfl
theorem impl_NegateVars_l0_0_ok (N : Nat) : LoopOk Try.prog Try.f55.ntmps (impl_NegateVars_l0_0_s N) (loopAt (loopAt impl_NegateVars_code 0) 0) :=
  loop_ok (l := impl_NegateVars_l0_0_s N) progOk (impl_NegateVars_gok N) (draw_ok progOk (impl_NegateVars_gok N)) (fun R k x ks => impl_NegateVars_l0_0_again N ks k x) (fun _ _ _ => rfl) (fun R k x ks => impl_NegateVars_l0_0_step N R k x ks) (fun R x ks r h => ⟨N, h⟩) (lsOk_at (L := []) trivial) (by kernel_rfl) (by kernel_rfl)
noncomputable def impl_NegateVars_l0_sh : Sh := ⟨[(1, .one (.ro LI)), (4, .one (.adr 0 0)), (6, .one (.adr 1 0)), (29, .one (.ref 2)), (30, .one (.ro I)), (31, .one (.ro I))], [.box [.ro I, .nilsl], .box [.ro I, .ref 2], .sl 33 LI .deep]⟩
noncomputable def impl_NegateVars_l0_ex : List (Ex × Sh) := [(.exit 0, ⟨[(4, .one (.adr 0 0)), (6, .one (.adr 1 0))], [.box [.ro I, .nilsl], .box [.ro I, .ref 2], .sl 33 LI .deep]⟩)]
noncomputable def impl_NegateVars_l0 {R : Type} (N : Nat) (k0 : Int → Int → (List (List Int)) → Option R) : Nat → (List Int) → Int → Int → Int → Int → (List (List Int)) → Option R
  | 0, _, _, _, _, _, _ => none
  | K + 1, vars1, x, x1, o, o1, o2 =>
    (br (ilt x1 x)
      ((chk (inb o2 x1)
        (impl_NegateVars_l0_0 N (fun vars2 clause x2 x3 o3 o4 o5 => ((slices_Sort_LI_int N (rdL o5 clause)).bind fun r3 =>
        impl_NegateVars_l0 N k0 K vars2 x2 (IntKind.i64.wrap (x3 + 1)) o3 o4 (tSet o5 clause r3.2.1))) N vars1 x1 x x1 x1 (tLen (rdL o2 x1)) 0 o o1 o2)))
      (k0 o o1 o2))
noncomputable def impl_NegateVars_l0_again {R : Type} (N : Nat) (ks : (j : Nat) → ((impl_NegateVars_l0_ex.getD j (.ret, Sh.none)).2).T → Option R) (k : Nat) (x : impl_NegateVars_l0_sh.T) : Option R :=
  impl_NegateVars_l0 N (fun y0 y1 y2 => ks 0 (((), (), ()), ((y0, (), ()), (y1, (), ()), y2, ()))) k x.1.1 x.1.2.2.2.2.1 x.1.2.2.2.2.2.1 x.2.1.1 x.2.2.1.1 x.2.2.2.1
noncomputable def impl_NegateVars_l0_s (N : Nat) : LSum := ⟨impl_NegateVars_l0_sh, impl_NegateVars_l0_ex, fun x ks => impl_NegateVars_l0_again N ks N x⟩
theorem impl_NegateVars_l0_step (N : Nat) (R : Type) (k : Nat) (x : impl_NegateVars_l0_sh.T) (ks : (j : Nat) → ((impl_NegateVars_l0_ex.getD j (.ret, Sh.none)).2).T → Option R) : impl_NegateVars_l0_again N ks (k + 1) x = roundF (impl_NegateVars_G N) tab [impl_NegateVars_l0_0_s N] (loopAt impl_NegateVars_code 0) impl_NegateVars_l0_sh impl_NegateVars_l0_ex (fun y => impl_NegateVars_l0_again N ks k y) ks x := by kernel_rfl
theorem impl_NegateVars_l0_ok (N : Nat) : LoopOk Try.prog Try.f55.ntmps (impl_NegateVars_l0_s N) (loopAt impl_NegateVars_code 0) :=
  loop_ok (l := impl_NegateVars_l0_s N) progOk (impl_NegateVars_gok N) (draw_ok progOk (impl_NegateVars_gok N)) (fun R k x ks => impl_NegateVars_l0_again N ks k x) (fun _ _ _ => rfl) (fun R k x ks => impl_NegateVars_l0_step N R k x ks) (fun R x ks r h => ⟨N, h⟩) (lsOk_at (L := [impl_NegateVars_l0_0_s N]) ⟨impl_NegateVars_l0_0_ok N, trivial⟩) (by kernel_rfl) (by kernel_rfl)
noncomputable def impl_NegateVars (N : Nat) (f : (Int × (List (List Int)))) (vars : (List Int)) : Option (((Int × (List (List Int))) × Bool × Unit) × (Unit)) :=
  ((impl_IsFormula N (f.1, f.2)).bind fun r =>
    (br (!r.1.1)
      (some (((0, []), false, ()), ()))
      (((impl_isRising N vars f.1).bind fun r1 =>
        (br (!r1.1.1)
          (some (((0, []), false, ()), ()))
          (((impl_copyLists N f.2).bind fun r2 =>
            impl_NegateVars_l0 N (fun o o1 o2 => some (((o1, o2), true, ()), ())) N vars (tLen r2.1.1) 0 0 f.1 r2.1.1)))))))
abbrev impl_NegateVars_ps : List (PV.Mode × Ty) := [(.ro, QILLI), (.ro, LI)]
abbrev impl_NegateVars_rs : List (Bool × Ty) := [(true, QILLI), (true, .bool)]
noncomputable def impl_NegateVars_S (N : Nat) : FSum := ⟨impl_NegateVars_ps, impl_NegateVars_rs, fun x => impl_NegateVars N x.1 x.2.1⟩
theorem impl_NegateVars_run (N : Nat) (x : argsT impl_NegateVars_ps) : impl_NegateVars N x.1 x.2.1 = funF (impl_NegateVars_G N) tab [impl_NegateVars_l0_s N] Try.f55 impl_NegateVars_ps impl_NegateVars_rs x := by kernel_rfl
theorem impl_NegateVars_pc (N : Nat) : PC Try.prog 55 (impl_NegateVars_S N) := by
  have e : impl_NegateVars_S N = ⟨impl_NegateVars_ps, impl_NegateVars_rs, funF (impl_NegateVars_G N) tab [impl_NegateVars_l0_s N] Try.f55 impl_NegateVars_ps impl_NegateVars_rs⟩ := congrArg (FSum.mk impl_NegateVars_ps impl_NegateVars_rs) (funext (impl_NegateVars_run N))
  rw [e]
  exact fun_ok (c := impl_NegateVars_code) progOk (impl_NegateVars_gok N) (draw_ok progOk (impl_NegateVars_gok N)) Try.call55 Try.func55 (by kernel_rfl) (lsOk_at (L := [impl_NegateVars_l0_s N]) ⟨impl_NegateVars_l0_ok N, trivial⟩) (by kernel_rfl) (by kernel_rfl) (by kernel_rfl) (by kernel_rfl) (by kernel_rfl)

/-! ### laws_eqIntS -/
noncomputable def laws_eqIntS_G (N : Nat) : GTab := gOf []
theorem laws_eqIntS_gok (N : Nat) : GOk Try.prog (laws_eqIntS_G N) := gOf_ok trivial
noncomputable def laws_eqIntS_code : Code := (Try.f35.body).getD .skip
noncomputable def laws_eqIntS_l0_sh : Sh := ⟨[(0, .one (.ro LI)), (1, .one (.ro LI)), (5, .one (.ro I))], []⟩
noncomputable def laws_eqIntS_l0_ex : List (Ex × Sh) := [(.ret, ⟨[(4, .one (.ro .bool))], []⟩), (.exit 0, ⟨[], []⟩)]
noncomputable def laws_eqIntS_l0 {R : Type} (N : Nat) (k0 : Bool → Option R) (k1 : Unit → Option R) : Nat → (List Int) → (List Int) → Int → Option R
  | 0, _, _, _ => none
  | K + 1, a1, b1, i =>
    (br (ilt i (tLen a1))
      ((chk (inb a1 i)
        (chk (inb b1 i)
        (br (ine (rdI a1 i) (rdI b1 i))
        (k0 false)
        (laws_eqIntS_l0 N k0 k1 K a1 b1 (IntKind.i64.wrap (i + 1)))))))
      (k1 ()))
noncomputable def laws_eqIntS_l0_again {R : Type} (N : Nat) (ks : (j : Nat) → ((laws_eqIntS_l0_ex.getD j (.ret, Sh.none)).2).T → Option R) (k : Nat) (x : laws_eqIntS_l0_sh.T) : Option R :=
  laws_eqIntS_l0 N (fun y0 => ks 0 ((y0, ()), ())) (fun (_ : Unit) => ks 1 ((), ())) k x.1.1 x.1.2.1 x.1.2.2.1
noncomputable def laws_eqIntS_l0_s (N : Nat) : LSum := ⟨laws_eqIntS_l0_sh, laws_eqIntS_l0_ex, fun x ks => laws_eqIntS_l0_again N ks N x⟩
theorem laws_eqIntS_l0_step (N : Nat) (R : Type) (k : Nat) (x : laws_eqIntS_l0_sh.T) (ks : (j : Nat) → ((laws_eqIntS_l0_ex.getD j (.ret, Sh.none)).2).T → Option R) : laws_eqIntS_l0_again N ks (k + 1) x = roundF (laws_eqIntS_G N) tab [] (loopAt laws_eqIntS_code 0) laws_eqIntS_l0_sh laws_eqIntS_l0_ex (fun y => laws_eqIntS_l0_again N ks k y) ks x := by kernel_rfl
theorem laws_eqIntS_l0_ok (N : Nat) : LoopOk Try.prog Try.f35.ntmps (laws_eqIntS_l0_s N) (loopAt laws_eqIntS_code 0) :=
  loop_ok (l := laws_eqIntS_l0_s N) progOk (laws_eqIntS_gok N) (draw_ok progOk (laws_eqIntS_gok N)) (fun R k x ks => laws_eqIntS_l0_again N ks k x) (fun _ _ _ => rfl) (fun R k x ks => laws_eqIntS_l0_step N R k x ks) (fun R x ks r h => ⟨N, h⟩) (lsOk_at (L := []) trivial) (by kernel_rfl) (by kernel_rfl)
noncomputable def laws_eqIntS (N : Nat) (a : (List Int)) (b : (List Int)) : Option ((Bool × Unit) × (Unit)) :=
  (br (ine (tLen a) (tLen b))
    (some ((false, ()), ()))
    (laws_eqIntS_l0 N (fun x => some ((x, ()), ())) (fun (_ : Unit) => some ((true, ()), ())) N a b 0))
abbrev laws_eqIntS_ps : List (PV.Mode × Ty) := [(.ro, LI), (.ro, LI)]
abbrev laws_eqIntS_rs : List (Bool × Ty) := [(true, .bool)]
noncomputable def laws_eqIntS_S (N : Nat) : FSum := ⟨laws_eqIntS_ps, laws_eqIntS_rs, fun x => laws_eqIntS N x.1 x.2.1⟩
theorem laws_eqIntS_run (N : Nat) (x : argsT laws_eqIntS_ps) : laws_eqIntS N x.1 x.2.1 = funF (laws_eqIntS_G N) tab [laws_eqIntS_l0_s N] Try.f35 laws_eqIntS_ps laws_eqIntS_rs x := by kernel_rfl
theorem laws_eqIntS_pc (N : Nat) : PC Try.prog 35 (laws_eqIntS_S N) := by
  have e : laws_eqIntS_S N = ⟨laws_eqIntS_ps, laws_eqIntS_rs, funF (laws_eqIntS_G N) tab [laws_eqIntS_l0_s N] Try.f35 laws_eqIntS_ps laws_eqIntS_rs⟩ := congrArg (FSum.mk laws_eqIntS_ps laws_eqIntS_rs) (funext (laws_eqIntS_run N))
  rw [e]
  exact fun_ok (c := laws_eqIntS_code) progOk (laws_eqIntS_gok N) (draw_ok progOk (laws_eqIntS_gok N)) Try.call35 Try.func35 (by kernel_rfl) (lsOk_at (L := [laws_eqIntS_l0_s N]) ⟨laws_eqIntS_l0_ok N, trivial⟩) (by kernel_rfl) (by kernel_rfl) (by kernel_rfl) (by kernel_rfl) (by kernel_rfl)

/-! ### laws_eqIntSS -/
noncomputable def laws_eqIntSS_G (N : Nat) : GTab := gOf [(35, laws_eqIntS_S N)]
theorem laws_eqIntSS_gok (N : Nat) : GOk Try.prog (laws_eqIntSS_G N) := gOf_ok ⟨laws_eqIntS_pc N, trivial⟩
noncomputable def laws_eqIntSS_code : Code := (Try.f20.body).getD .skip
noncomputable def laws_eqIntSS_l0_sh : Sh := ⟨[(0, .one (.ro LLI)), (1, .one (.ro LLI)), (5, .one (.ro I))], []⟩
noncomputable def laws_eqIntSS_l0_ex : List (Ex × Sh) := [(.ret, ⟨[(4, .one (.ro .bool))], []⟩), (.exit 0, ⟨[], []⟩)]
noncomputable def laws_eqIntSS_l0 {R : Type} (N : Nat) (k0 : Bool → Option R) (k1 : Unit → Option R) : Nat → (List (List Int)) → (List (List Int)) → Int → Option R
  | 0, _, _, _ => none
  | K + 1, a1, b1, i =>
    (br (ilt i (tLen a1))
      ((chk (inb a1 i)
        (chk (inb b1 i)
        ((laws_eqIntS N (rdL a1 i) (rdL b1 i)).bind fun r =>
        (br (!r.1.1)
          (k0 false)
          (laws_eqIntSS_l0 N k0 k1 K a1 b1 (IntKind.i64.wrap (i + 1))))))))
      (k1 ()))
noncomputable def laws_eqIntSS_l0_again {R : Type} (N : Nat) (ks : (j : Nat) → ((laws_eqIntSS_l0_ex.getD j (.ret, Sh.none)).2).T → Option R) (k : Nat) (x : laws_eqIntSS_l0_sh.T) : Option R :=
  laws_eqIntSS_l0 N (fun y0 => ks 0 ((y0, ()), ())) (fun (_ : Unit) => ks 1 ((), ())) k x.1.1 x.1.2.1 x.1.2.2.1
noncomputable def laws_eqIntSS_l0_s (N : Nat) : LSum := ⟨laws_eqIntSS_l0_sh, laws_eqIntSS_l0_ex, fun x ks => laws_eqIntSS_l0_again N ks N x⟩
theorem laws_eqIntSS_l0_step (N : Nat) (R : Type) (k : Nat) (x : laws_eqIntSS_l0_sh.T) (ks : (j : Nat) → ((laws_eqIntSS_l0_ex.getD j (.ret, Sh.none)).2).T → Option R) : laws_eqIntSS_l0_again N ks (k + 1) x = roundF (laws_eqIntSS_G N) tab [] (loopAt laws_eqIntSS_code 0) laws_eqIntSS_l0_sh laws_eqIntSS_l0_ex (fun y => laws_eqIntSS_l0_again N ks k y) ks x := by kernel_rfl
theorem laws_eqIntSS_l0_ok (N : Nat) : LoopOk Try.prog Try.f20.ntmps (laws_eqIntSS_l0_s N) (loopAt laws_eqIntSS_code 0) :=
  loop_ok (l := laws_eqIntSS_l0_s N) progOk (laws_eqIntSS_gok N) (draw_ok progOk (laws_eqIntSS_gok N)) (fun R k x ks => laws_eqIntSS_l0_again N ks k x) (fun _ _ _ => rfl) (fun R k x ks => laws_eqIntSS_l0_step N R k x ks) (fun R x ks r h => ⟨N, h⟩) (lsOk_at (L := []) trivial) (by kernel_rfl) (by kernel_rfl)
noncomputable def laws_eqIntSS (N : Nat) (a : (List (List Int))) (b : (List (List Int))) : Option ((Bool × Unit) × (Unit)) :=
  (br (ine (tLen a) (tLen b))
    (some ((false, ()), ()))
    (laws_eqIntSS_l0 N (fun x => some ((x, ()), ())) (fun (_ : Unit) => some ((true, ()), ())) N a b 0))
abbrev laws_eqIntSS_ps : List (PV.Mode × Ty) := [(.ro, LLI), (.ro, LLI)]
abbrev laws_eqIntSS_rs : List (Bool × Ty) := [(true, .bool)]
noncomputable def laws_eqIntSS_S (N : Nat) : FSum := ⟨laws_eqIntSS_ps, laws_eqIntSS_rs, fun x => laws_eqIntSS N x.1 x.2.1⟩
theorem laws_eqIntSS_run (N : Nat) (x : argsT laws_eqIntSS_ps) : laws_eqIntSS N x.1 x.2.1 = funF (laws_eqIntSS_G N) tab [laws_eqIntSS_l0_s N] Try.f20 laws_eqIntSS_ps laws_eqIntSS_rs x := by kernel_rfl
theorem laws_eqIntSS_pc (N : Nat) : PC Try.prog 20 (laws_eqIntSS_S N) := by
  have e : laws_eqIntSS_S N = ⟨laws_eqIntSS_ps, laws_eqIntSS_rs, funF (laws_eqIntSS_G N) tab [laws_eqIntSS_l0_s N] Try.f20 laws_eqIntSS_ps laws_eqIntSS_rs⟩ := congrArg (FSum.mk laws_eqIntSS_ps laws_eqIntSS_rs) (funext (laws_eqIntSS_run N))
  rw [e]
  exact fun_ok (c := laws_eqIntSS_code) progOk (laws_eqIntSS_gok N) (draw_ok progOk (laws_eqIntSS_gok N)) Try.call20 Try.func20 (by kernel_rfl) (lsOk_at (L := [laws_eqIntSS_l0_s N]) ⟨laws_eqIntSS_l0_ok N, trivial⟩) (by kernel_rfl) (by kernel_rfl) (by kernel_rfl) (by kernel_rfl) (by kernel_rfl)

/-! ### laws_eqFormula -/
noncomputable def laws_eqFormula_G (N : Nat) : GTab := gOf [(20, laws_eqIntSS_S N)]
theorem laws_eqFormula_gok (N : Nat) : GOk Try.prog (laws_eqFormula_G N) := gOf_ok ⟨laws_eqIntSS_pc N, trivial⟩
noncomputable def laws_eqFormula_code : Code := (Try.f19.body).getD .skip
noncomputable def laws_eqFormula (N : Nat) (a : (Int × (List (List Int)))) (b : (Int × (List (List Int)))) : Option ((Bool × Unit) × (Unit)) :=
  (br (ine a.1 b.1)
    (some ((false, ()), ()))
    (((laws_eqIntSS N a.2 b.2).bind fun r =>
      (br (!r.1.1)
        (some ((false, ()), ()))
        (some ((true, ()), ()))))))
abbrev laws_eqFormula_ps : List (PV.Mode × Ty) := [(.ro, QILLI), (.ro, QILLI)]
abbrev laws_eqFormula_rs : List (Bool × Ty) := [(true, .bool)]
noncomputable def laws_eqFormula_S (N : Nat) : FSum := ⟨laws_eqFormula_ps, laws_eqFormula_rs, fun x => laws_eqFormula N x.1 x.2.1⟩
theorem laws_eqFormula_run (N : Nat) (x : argsT laws_eqFormula_ps) : laws_eqFormula N x.1 x.2.1 = funF (laws_eqFormula_G N) tab [] Try.f19 laws_eqFormula_ps laws_eqFormula_rs x := by kernel_rfl
theorem laws_eqFormula_pc (N : Nat) : PC Try.prog 19 (laws_eqFormula_S N) := by
  have e : laws_eqFormula_S N = ⟨laws_eqFormula_ps, laws_eqFormula_rs, funF (laws_eqFormula_G N) tab [] Try.f19 laws_eqFormula_ps laws_eqFormula_rs⟩ := congrArg (FSum.mk laws_eqFormula_ps laws_eqFormula_rs) (funext (laws_eqFormula_run N))
  rw [e]
  exact fun_ok (c := laws_eqFormula_code) progOk (laws_eqFormula_gok N) (draw_ok progOk (laws_eqFormula_gok N)) Try.call19 Try.func19 (by kernel_rfl) (lsOk_at (L := []) trivial) (by kernel_rfl) (by kernel_rfl) (by kernel_rfl) (by kernel_rfl) (by kernel_rfl)

/-! ### laws_markIntS -/
noncomputable def laws_markIntS_G (N : Nat) : GTab := gOf []
theorem laws_markIntS_gok (N : Nat) : GOk Try.prog (laws_markIntS_G N) := gOf_ok trivial
noncomputable def laws_markIntS_code : Code := (Try.f38.body).getD .skip
noncomputable def laws_markIntS_l0_sh : Sh := ⟨[(0, .one (.ref 0)), (1, .one (.ro I)), (5, .one (.ro I))], [.sl 3 I .own]⟩
noncomputable def laws_markIntS_l0_ex : List (Ex × Sh) := [(.exit 0, ⟨[(0, .one (.ref 0)), (1, .one (.ro I))], [.sl 3 I .own]⟩)]
noncomputable def laws_markIntS_l0 {R : Type} (N : Nat) (k0 : Int → (List Int) → Option R) : Nat → Int → Int → (List Int) → Option R
  | 0, _, _, _ => none
  | K + 1, kv1, i, o =>
    (br (ilt i (tLen o))
      ((chk (inb o i)
        (laws_markIntS_l0 N k0 K (IntKind.i64.wrap (kv1 + 1)) (IntKind.i64.wrap (i + 1)) (tSet o i kv1))))
      (k0 kv1 o))
noncomputable def laws_markIntS_l0_again {R : Type} (N : Nat) (ks : (j : Nat) → ((laws_markIntS_l0_ex.getD j (.ret, Sh.none)).2).T → Option R) (k : Nat) (x : laws_markIntS_l0_sh.T) : Option R :=
  laws_markIntS_l0 N (fun y0 y1 => ks 0 (((), y0, ()), (y1, ()))) k x.1.2.1 x.1.2.2.1 x.2.1
noncomputable def laws_markIntS_l0_s (N : Nat) : LSum := ⟨laws_markIntS_l0_sh, laws_markIntS_l0_ex, fun x ks => laws_markIntS_l0_again N ks N x⟩
theorem laws_markIntS_l0_step (N : Nat) (R : Type) (k : Nat) (x : laws_markIntS_l0_sh.T) (ks : (j : Nat) → ((laws_markIntS_l0_ex.getD j (.ret, Sh.none)).2).T → Option R) : laws_markIntS_l0_again N ks (k + 1) x = roundF (laws_markIntS_G N) tab [] (loopAt laws_markIntS_code 0) laws_markIntS_l0_sh laws_markIntS_l0_ex (fun y => laws_markIntS_l0_again N ks k y) ks x := by kernel_rfl
theorem laws_markIntS_l0_ok (N : Nat) : LoopOk Try.prog Try.f38.ntmps (laws_markIntS_l0_s N) (loopAt laws_markIntS_code 0) :=
  loop_ok (l := laws_markIntS_l0_s N) progOk (laws_markIntS_gok N) (draw_ok progOk (laws_markIntS_gok N)) (fun R k x ks => laws_markIntS_l0_again N ks k x) (fun _ _ _ => rfl) (fun R k x ks => laws_markIntS_l0_step N R k x ks) (fun R x ks r h => ⟨N, h⟩) (lsOk_at (L := []) trivial) (by kernel_rfl) (by kernel_rfl)
noncomputable def laws_markIntS (N : Nat) (a : (List Int)) (kv : Int) : Option ((Int × Unit) × ((List Int) × Unit)) :=
  laws_markIntS_l0 N (fun kv1 o => some ((kv1, ()), (o, ()))) N kv 0 a
abbrev laws_markIntS_ps : List (PV.Mode × Ty) := [(.mut, LI), (.ro, I)]
abbrev laws_markIntS_rs : List (Bool × Ty) := [(true, I)]
noncomputable def laws_markIntS_S (N : Nat) : FSum := ⟨laws_markIntS_ps, laws_markIntS_rs, fun x => laws_markIntS N x.1 x.2.1⟩
theorem laws_markIntS_run (N : Nat) (x : argsT laws_markIntS_ps) : laws_markIntS N x.1 x.2.1 = funF (laws_markIntS_G N) tab [laws_markIntS_l0_s N] Try.f38 laws_markIntS_ps laws_markIntS_rs x := by kernel_rfl
theorem laws_markIntS_pc (N : Nat) : PC Try.prog 38 (laws_markIntS_S N) := by
  have e : laws_markIntS_S N = ⟨laws_markIntS_ps, laws_markIntS_rs, funF (laws_markIntS_G N) tab [laws_markIntS_l0_s N] Try.f38 laws_markIntS_ps laws_markIntS_rs⟩ := congrArg (FSum.mk laws_markIntS_ps laws_markIntS_rs) (funext (laws_markIntS_run N))
  rw [e]
  exact fun_ok (c := laws_markIntS_code) progOk (laws_markIntS_gok N) (draw_ok progOk (laws_markIntS_gok N)) Try.call38 Try.func38 (by kernel_rfl) (lsOk_at (L := [laws_markIntS_l0_s N]) ⟨laws_markIntS_l0_ok N, trivial⟩) (by kernel_rfl) (by kernel_rfl) (by kernel_rfl) (by kernel_rfl) (by kernel_rfl)

/-! ### laws_markIntSS -/
noncomputable def laws_markIntSS_G (N : Nat) : GTab := gOf [(38, laws_markIntS_S N)]
theorem laws_markIntSS_gok (N : Nat) : GOk Try.prog (laws_markIntSS_G N) := gOf_ok ⟨laws_markIntS_pc N, trivial⟩
noncomputable def laws_markIntSS_code : Code := (Try.f21.body).getD .skip
noncomputable def laws_markIntSS_l0_sh : Sh := ⟨[(0, .one (.ref 0)), (1, .one (.ro I)), (5, .one (.ro I))], [.sl 33 LI .deep]⟩
noncomputable def laws_markIntSS_l0_ex : List (Ex × Sh) := [(.exit 0, ⟨[(0, .one (.ref 0)), (1, .one (.ro I))], [.sl 33 LI .deep]⟩)]
noncomputable def laws_markIntSS_l0 {R : Type} (N : Nat) (k0 : Int → (List (List Int)) → Option R) : Nat → Int → Int → (List (List Int)) → Option R
  | 0, _, _, _ => none
  | K + 1, kv1, i, o =>
    (br (ilt i (tLen o))
      ((chk (inb o i)
        ((laws_markIntS N (rdL o i) kv1).bind fun r =>
        laws_markIntSS_l0 N k0 K r.1.1 (IntKind.i64.wrap (i + 1)) (tSet o i r.2.1))))
      (k0 kv1 o))
noncomputable def laws_markIntSS_l0_again {R : Type} (N : Nat) (ks : (j : Nat) → ((laws_markIntSS_l0_ex.getD j (.ret, Sh.none)).2).T → Option R) (k : Nat) (x : laws_markIntSS_l0_sh.T) : Option R :=
  laws_markIntSS_l0 N (fun y0 y1 => ks 0 (((), y0, ()), (y1, ()))) k x.1.2.1 x.1.2.2.1 x.2.1
noncomputable def laws_markIntSS_l0_s (N : Nat) : LSum := ⟨laws_markIntSS_l0_sh, laws_markIntSS_l0_ex, fun x ks => laws_markIntSS_l0_again N ks N x⟩
theorem laws_markIntSS_l0_step (N : Nat) (R : Type) (k : Nat) (x : laws_markIntSS_l0_sh.T) (ks : (j : Nat) → ((laws_markIntSS_l0_ex.getD j (.ret, Sh.none)).2).T → Option R) : laws_markIntSS_l0_again N ks (k + 1) x = roundF (laws_markIntSS_G N) tab [] (loopAt laws_markIntSS_code 0) laws_markIntSS_l0_sh laws_markIntSS_l0_ex (fun y => laws_markIntSS_l0_again N ks k y) ks x := by kernel_rfl
theorem laws_markIntSS_l0_ok (N : Nat) : LoopOk Try.prog Try.f21.ntmps (laws_markIntSS_l0_s N) (loopAt laws_markIntSS_code 0) :=
  loop_ok (l := laws_markIntSS_l0_s N) progOk (laws_markIntSS_gok N) (draw_ok progOk (laws_markIntSS_gok N)) (fun R k x ks => laws_markIntSS_l0_again N ks k x) (fun _ _ _ => rfl) (fun R k x ks => laws_markIntSS_l0_step N R k x ks) (fun R x ks r h => ⟨N, h⟩) (lsOk_at (L := []) trivial) (by kernel_rfl) (by kernel_rfl)
noncomputable def laws_markIntSS (N : Nat) (a : (List (List Int))) (kv : Int) : Option ((Int × Unit) × ((List (List Int)) × Unit)) :=
  laws_markIntSS_l0 N (fun kv1 o => some ((kv1, ()), (o, ()))) N kv 0 a
abbrev laws_markIntSS_ps : List (PV.Mode × Ty) := [(.mut, LLI), (.ro, I)]
abbrev laws_markIntSS_rs : List (Bool × Ty) := [(true, I)]
noncomputable def laws_markIntSS_S (N : Nat) : FSum := ⟨laws_markIntSS_ps, laws_markIntSS_rs, fun x => laws_markIntSS N x.1 x.2.1⟩
theorem laws_markIntSS_run (N : Nat) (x : argsT laws_markIntSS_ps) : laws_markIntSS N x.1 x.2.1 = funF (laws_markIntSS_G N) tab [laws_markIntSS_l0_s N] Try.f21 laws_markIntSS_ps laws_markIntSS_rs x := by kernel_rfl
theorem laws_markIntSS_pc (N : Nat) : PC Try.prog 21 (laws_markIntSS_S N) := by
  have e : laws_markIntSS_S N = ⟨laws_markIntSS_ps, laws_markIntSS_rs, funF (laws_markIntSS_G N) tab [laws_markIntSS_l0_s N] Try.f21 laws_markIntSS_ps laws_markIntSS_rs⟩ := congrArg (FSum.mk laws_markIntSS_ps laws_markIntSS_rs) (funext (laws_markIntSS_run N))
  rw [e]
  exact fun_ok (c := laws_markIntSS_code) progOk (laws_markIntSS_gok N) (draw_ok progOk (laws_markIntSS_gok N)) Try.call21 Try.func21 (by kernel_rfl) (lsOk_at (L := [laws_markIntSS_l0_s N]) ⟨laws_markIntSS_l0_ok N, trivial⟩) (by kernel_rfl) (by kernel_rfl) (by kernel_rfl) (by kernel_rfl) (by kernel_rfl)

/-! ### laws_markFormula -/
noncomputable def laws_markFormula_G (N : Nat) : GTab := gOf [(21, laws_markIntSS_S N)]
theorem laws_markFormula_gok (N : Nat) : GOk Try.prog (laws_markFormula_G N) := gOf_ok ⟨laws_markIntSS_pc N, trivial⟩
noncomputable def laws_markFormula_code : Code := (Try.f22.body).getD .skip
noncomputable def laws_markFormula (N : Nat) (a : (Int × (List (List Int)))) (kv : Int) : Option ((Int × Unit) × ((Int × (List (List Int))) × Unit)) :=
  ((laws_markIntSS N a.2 kv).bind fun r =>
    some ((r.1.1, ()), ((a.1, r.2.1), ())))
abbrev laws_markFormula_ps : List (PV.Mode × Ty) := [(.mut, QILLI), (.ro, I)]
abbrev laws_markFormula_rs : List (Bool × Ty) := [(true, I)]
noncomputable def laws_markFormula_S (N : Nat) : FSum := ⟨laws_markFormula_ps, laws_markFormula_rs, fun x => laws_markFormula N x.1 x.2.1⟩
theorem laws_markFormula_run (N : Nat) (x : argsT laws_markFormula_ps) : laws_markFormula N x.1 x.2.1 = funF (laws_markFormula_G N) tab [] Try.f22 laws_markFormula_ps laws_markFormula_rs x := by kernel_rfl
theorem laws_markFormula_pc (N : Nat) : PC Try.prog 22 (laws_markFormula_S N) := by
  have e : laws_markFormula_S N = ⟨laws_markFormula_ps, laws_markFormula_rs, funF (laws_markFormula_G N) tab [] Try.f22 laws_markFormula_ps laws_markFormula_rs⟩ := congrArg (FSum.mk laws_markFormula_ps laws_markFormula_rs) (funext (laws_markFormula_run N))
  rw [e]
  exact fun_ok (c := laws_markFormula_code) progOk (laws_markFormula_gok N) (draw_ok progOk (laws_markFormula_gok N)) Try.call22 Try.func22 (by kernel_rfl) (lsOk_at (L := []) trivial) (by kernel_rfl) (by kernel_rfl) (by kernel_rfl) (by kernel_rfl) (by kernel_rfl)

/-! ### laws_heldIntS -/
noncomputable def laws_heldIntS_G (N : Nat) : GTab := gOf []
theorem laws_heldIntS_gok (N : Nat) : GOk Try.prog (laws_heldIntS_G N) := gOf_ok trivial
noncomputable def laws_heldIntS_code : Code := (Try.f39.body).getD .skip
noncomputable def laws_heldIntS_l0_sh : Sh := ⟨[(0, .one (.ro LI)), (1, .one (.ro I)), (5, .one (.ro I))], []⟩
noncomputable def laws_heldIntS_l0_ex : List (Ex × Sh) := [(.ret, ⟨[(4, .one (.ro I))], []⟩), (.exit 0, ⟨[(1, .one (.ro I))], []⟩)]
noncomputable def laws_heldIntS_l0 {R : Type} (N : Nat) (k0 : Int → Option R) (k1 : Int → Option R) : Nat → (List Int) → Int → Int → Option R
  | 0, _, _, _ => none
  | K + 1, a1, kv1, i =>
    (br (ilt i (tLen a1))
      ((chk (inb a1 i)
        (br (ine (rdI a1 i) kv1)
        (k0 (-1))
        (laws_heldIntS_l0 N k0 k1 K a1 (IntKind.i64.wrap (kv1 + 1)) (IntKind.i64.wrap (i + 1))))))
      (k1 kv1))
noncomputable def laws_heldIntS_l0_again {R : Type} (N : Nat) (ks : (j : Nat) → ((laws_heldIntS_l0_ex.getD j (.ret, Sh.none)).2).T → Option R) (k : Nat) (x : laws_heldIntS_l0_sh.T) : Option R :=
  laws_heldIntS_l0 N (fun y0 => ks 0 ((y0, ()), ())) (fun y0 => ks 1 ((y0, ()), ())) k x.1.1 x.1.2.1 x.1.2.2.1
noncomputable def laws_heldIntS_l0_s (N : Nat) : LSum := ⟨laws_heldIntS_l0_sh, laws_heldIntS_l0_ex, fun x ks => laws_heldIntS_l0_again N ks N x⟩
theorem laws_heldIntS_l0_step (N : Nat) (R : Type) (k : Nat) (x : laws_heldIntS_l0_sh.T) (ks : (j : Nat) → ((laws_heldIntS_l0_ex.getD j (.ret, Sh.none)).2).T → Option R) : laws_heldIntS_l0_again N ks (k + 1) x = roundF (laws_heldIntS_G N) tab [] (loopAt laws_heldIntS_code 0) laws_heldIntS_l0_sh laws_heldIntS_l0_ex (fun y => laws_heldIntS_l0_again N ks k y) ks x := by kernel_rfl
theorem laws_heldIntS_l0_ok (N : Nat) : LoopOk Try.prog Try.f39.ntmps (laws_heldIntS_l0_s N) (loopAt laws_heldIntS_code 0) :=
  loop_ok (l := laws_heldIntS_l0_s N) progOk (laws_heldIntS_gok N) (draw_ok progOk (laws_heldIntS_gok N)) (fun R k x ks => laws_heldIntS_l0_again N ks k x) (fun _ _ _ => rfl) (fun R k x ks => laws_heldIntS_l0_step N R k x ks) (fun R x ks r h => ⟨N, h⟩) (lsOk_at (L := []) trivial) (by kernel_rfl) (by kernel_rfl)
noncomputable def laws_heldIntS (N : Nat) (a : (List Int)) (kv : Int) : Option ((Int × Unit) × (Unit)) :=
  laws_heldIntS_l0 N (fun x => some ((x, ()), ())) (fun kv1 => some ((kv1, ()), ())) N a kv 0
abbrev laws_heldIntS_ps : List (PV.Mode × Ty) := [(.ro, LI), (.ro, I)]
abbrev laws_heldIntS_rs : List (Bool × Ty) := [(true, I)]
noncomputable def laws_heldIntS_S (N : Nat) : FSum := ⟨laws_heldIntS_ps, laws_heldIntS_rs, fun x => laws_heldIntS N x.1 x.2.1⟩
theorem laws_heldIntS_run (N : Nat) (x : argsT laws_heldIntS_ps) : laws_heldIntS N x.1 x.2.1 = funF (laws_heldIntS_G N) tab [laws_heldIntS_l0_s N] Try.f39 laws_heldIntS_ps laws_heldIntS_rs x := by kernel_rfl
theorem laws_heldIntS_pc (N : Nat) : PC Try.prog 39 (laws_heldIntS_S N) := by
  have e : laws_heldIntS_S N = ⟨laws_heldIntS_ps, laws_heldIntS_rs, funF (laws_heldIntS_G N) tab [laws_heldIntS_l0_s N] Try.f39 laws_heldIntS_ps laws_heldIntS_rs⟩ := congrArg (FSum.mk laws_heldIntS_ps laws_heldIntS_rs) (funext (laws_heldIntS_run N))
  rw [e]
  exact fun_ok (c := laws_heldIntS_code) progOk (laws_heldIntS_gok N) (draw_ok progOk (laws_heldIntS_gok N)) Try.call39 Try.func39 (by kernel_rfl) (lsOk_at (L := [laws_heldIntS_l0_s N]) ⟨laws_heldIntS_l0_ok N, trivial⟩) (by kernel_rfl) (by kernel_rfl) (by kernel_rfl) (by kernel_rfl) (by kernel_rfl)

/-! ### laws_heldIntSS -/
noncomputable def laws_heldIntSS_G (N : Nat) : GTab := gOf [(39, laws_heldIntS_S N)]
theorem laws_heldIntSS_gok (N : Nat) : GOk Try.prog (laws_heldIntSS_G N) := gOf_ok ⟨laws_heldIntS_pc N, trivial⟩
noncomputable def laws_heldIntSS_code : Code := (Try.f69.body).getD .skip
noncomputable def laws_heldIntSS_l0_sh : Sh := ⟨[(0, .one (.ro LLI)), (1, .one (.ro I)), (5, .one (.ro I))], []⟩
noncomputable def laws_heldIntSS_l0_ex : List (Ex × Sh) := [(.ret, ⟨[(4, .one (.ro I))], []⟩), (.exit 0, ⟨[(1, .one (.ro I))], []⟩)]
noncomputable def laws_heldIntSS_l0 {R : Type} (N : Nat) (k0 : Int → Option R) (k1 : Int → Option R) : Nat → (List (List Int)) → Int → Int → Option R
  | 0, _, _, _ => none
  | K + 1, a1, kv1, i =>
    (br (ilt i (tLen a1))
      ((chk (inb a1 i)
        ((laws_heldIntS N (rdL a1 i) kv1).bind fun r =>
        (br (ilt r.1.1 0)
          (k0 (-1))
          (laws_heldIntSS_l0 N k0 k1 K a1 r.1.1 (IntKind.i64.wrap (i + 1)))))))
      (k1 kv1))
noncomputable def laws_heldIntSS_l0_again {R : Type} (N : Nat) (ks : (j : Nat) → ((laws_heldIntSS_l0_ex.getD j (.ret, Sh.none)).2).T → Option R) (k : Nat) (x : laws_heldIntSS_l0_sh.T) : Option R :=
  laws_heldIntSS_l0 N (fun y0 => ks 0 ((y0, ()), ())) (fun y0 => ks 1 ((y0, ()), ())) k x.1.1 x.1.2.1 x.1.2.2.1
noncomputable def laws_heldIntSS_l0_s (N : Nat) : LSum := ⟨laws_heldIntSS_l0_sh, laws_heldIntSS_l0_ex, fun x ks => laws_heldIntSS_l0_again N ks N x⟩
theorem laws_heldIntSS_l0_step (N : Nat) (R : Type) (k : Nat) (x : laws_heldIntSS_l0_sh.T) (ks : (j : Nat) → ((laws_heldIntSS_l0_ex.getD j (.ret, Sh.none)).2).T → Option R) : laws_heldIntSS_l0_again N ks (k + 1) x = roundF (laws_heldIntSS_G N) tab [] (loopAt laws_heldIntSS_code 0) laws_heldIntSS_l0_sh laws_heldIntSS_l0_ex (fun y => laws_heldIntSS_l0_again N ks k y) ks x := by kernel_rfl
theorem laws_heldIntSS_l0_ok (N : Nat) : LoopOk Try.prog Try.f69.ntmps (laws_heldIntSS_l0_s N) (loopAt laws_heldIntSS_code 0) :=
  loop_ok (l := laws_heldIntSS_l0_s N) progOk (laws_heldIntSS_gok N) (draw_ok progOk (laws_heldIntSS_gok N)) (fun R k x ks => laws_heldIntSS_l0_again N ks k x) (fun _ _ _ => rfl) (fun R k x ks => laws_heldIntSS_l0_step N R k x ks) (fun R x ks r h => ⟨N, h⟩) (lsOk_at (L := []) trivial) (by kernel_rfl) (by kernel_rfl)
noncomputable def laws_heldIntSS (N : Nat) (a : (List (List Int))) (kv : Int) : Option ((Int × Unit) × (Unit)) :=
  laws_heldIntSS_l0 N (fun x => some ((x, ()), ())) (fun kv1 => some ((kv1, ()), ())) N a kv 0
abbrev laws_heldIntSS_ps : List (PV.Mode × Ty) := [(.ro, LLI), (.ro, I)]
abbrev laws_heldIntSS_rs : List (Bool × Ty) := [(true, I)]
noncomputable def laws_heldIntSS_S (N : Nat) : FSum := ⟨laws_heldIntSS_ps, laws_heldIntSS_rs, fun x => laws_heldIntSS N x.1 x.2.1⟩
theorem laws_heldIntSS_run (N : Nat) (x : argsT laws_heldIntSS_ps) : laws_heldIntSS N x.1 x.2.1 = funF (laws_heldIntSS_G N) tab [laws_heldIntSS_l0_s N] Try.f69 laws_heldIntSS_ps laws_heldIntSS_rs x := by kernel_rfl
theorem laws_heldIntSS_pc (N : Nat) : PC Try.prog 69 (laws_heldIntSS_S N) := by
  have e : laws_heldIntSS_S N = ⟨laws_heldIntSS_ps, laws_heldIntSS_rs, funF (laws_heldIntSS_G N) tab [laws_heldIntSS_l0_s N] Try.f69 laws_heldIntSS_ps laws_heldIntSS_rs⟩ := congrArg (FSum.mk laws_heldIntSS_ps laws_heldIntSS_rs) (funext (laws_heldIntSS_run N))
  rw [e]
  exact fun_ok (c := laws_heldIntSS_code) progOk (laws_heldIntSS_gok N) (draw_ok progOk (laws_heldIntSS_gok N)) Try.call69 Try.func69 (by kernel_rfl) (lsOk_at (L := [laws_heldIntSS_l0_s N]) ⟨laws_heldIntSS_l0_ok N, trivial⟩) (by kernel_rfl) (by kernel_rfl) (by kernel_rfl) (by kernel_rfl) (by kernel_rfl)

/-! ### laws_heldFormula -/
noncomputable def laws_heldFormula_G (N : Nat) : GTab := gOf [(69, laws_heldIntSS_S N)]
theorem laws_heldFormula_gok (N : Nat) : GOk Try.prog (laws_heldFormula_G N) := gOf_ok ⟨laws_heldIntSS_pc N, trivial⟩
noncomputable def laws_heldFormula_code : Code := (Try.f23.body).getD .skip
noncomputable def laws_heldFormula (N : Nat) (a : (Int × (List (List Int)))) (kv : Int) : Option ((Int × Unit) × (Unit)) :=
  ((laws_heldIntSS N a.2 kv).bind fun r =>
    (br (ilt r.1.1 0)
      (some (((-1), ()), ()))
      (some ((r.1.1, ()), ()))))
abbrev laws_heldFormula_ps : List (PV.Mode × Ty) := [(.ro, QILLI), (.ro, I)]
abbrev laws_heldFormula_rs : List (Bool × Ty) := [(true, I)]
noncomputable def laws_heldFormula_S (N : Nat) : FSum := ⟨laws_heldFormula_ps, laws_heldFormula_rs, fun x => laws_heldFormula N x.1 x.2.1⟩
theorem laws_heldFormula_run (N : Nat) (x : argsT laws_heldFormula_ps) : laws_heldFormula N x.1 x.2.1 = funF (laws_heldFormula_G N) tab [] Try.f23 laws_heldFormula_ps laws_heldFormula_rs x := by kernel_rfl
theorem laws_heldFormula_pc (N : Nat) : PC Try.prog 23 (laws_heldFormula_S N) := by
  have e : laws_heldFormula_S N = ⟨laws_heldFormula_ps, laws_heldFormula_rs, funF (laws_heldFormula_G N) tab [] Try.f23 laws_heldFormula_ps laws_heldFormula_rs⟩ := congrArg (FSum.mk laws_heldFormula_ps laws_heldFormula_rs) (funext (laws_heldFormula_run N))
  rw [e]
  exact fun_ok (c := laws_heldFormula_code) progOk (laws_heldFormula_gok N) (draw_ok progOk (laws_heldFormula_gok N)) Try.call23 Try.func23 (by kernel_rfl) (lsOk_at (L := []) trivial) (by kernel_rfl) (by kernel_rfl) (by kernel_rfl) (by kernel_rfl) (by kernel_rfl)

/-! ### laws_FnExactNegateVars -/
noncomputable def laws_FnExactNegateVars_G (N : Nat) : GTab := gOf [(52, laws_szFormula_S N), (54, laws_toFormula_S N), (33, laws_toIntS_S N), (53, spec_NegateVars_S N), (55, impl_NegateVars_S N), (19, laws_eqFormula_S N), (35, laws_eqIntS_S N), (22, laws_markFormula_S N), (38, laws_markIntS_S N), (23, laws_heldFormula_S N)]
theorem laws_FnExactNegateVars_gok (N : Nat) : GOk Try.prog (laws_FnExactNegateVars_G N) := gOf_ok ⟨laws_szFormula_pc N, laws_toFormula_pc N, laws_toIntS_pc N, spec_NegateVars_pc N, impl_NegateVars_pc N, laws_eqFormula_pc N, laws_eqIntS_pc N, laws_markFormula_pc N, laws_markIntS_pc N, laws_heldFormula_pc N, trivial⟩
noncomputable def laws_FnExactNegateVars_code : Code := (Try.f12.body).getD .skip
noncomputable def laws_FnExactNegateVars (N : Nat) (c : (Int × (List (List Int)))) (c1 : (List Int)) : Option ((Bool × Unit) × (Unit)) :=
  (br (ilt 1048576 (tLen c1))
    (some ((true, ()), ()))
    (((laws_szFormula N (c.1, c.2) 1048576).bind fun r =>
      (br (ilt r.1.1 0)
        (some ((true, ()), ()))
        (((laws_toFormula N (c.1, c.2)).bind fun r1 =>
          ((laws_toIntS N c1).bind fun r2 =>
            ((spec_NegateVars N (r1.1.1.1, r1.1.1.2) r2.1.1).bind fun r3 =>
              ((laws_toFormula N (c.1, c.2)).bind fun r4 =>
                ((laws_toIntS N c1).bind fun r5 =>
                  ((impl_NegateVars N (r4.1.1.1, r4.1.1.2) r5.1.1).bind fun r6 =>
                    ((laws_eqFormula N (r6.1.1.1, r6.1.1.2) (r3.1.1.1, r3.1.1.2)).bind fun r7 =>
                      (br (!r7.1.1)
                        (some ((false, ()), ()))
                        ((br (!(r6.1.2.1 == r3.1.2.1))
                          (some ((false, ()), ()))
                          (((laws_toFormula N (c.1, c.2)).bind fun r8 =>
                            ((laws_eqFormula N (r4.1.1.1, r4.1.1.2) (r8.1.1.1, r8.1.1.2)).bind fun r9 =>
                              (br (!r9.1.1)
                                (some ((false, ()), ()))
                                (((laws_toIntS N c1).bind fun r10 =>
                                  ((laws_eqIntS N r5.1.1 r10.1.1).bind fun r11 =>
                                    (br (!r11.1.1)
                                      (some ((false, ()), ()))
                                      (((laws_markFormula N (r4.1.1.1, r4.1.1.2) 1).bind fun r12 =>
                                        ((laws_markIntS N r5.1.1 r12.1.1).bind fun r13 =>
                                          (br (ilt r13.1.1 0)
                                            (some ((false, ()), ()))
                                            (((laws_eqFormula N (r6.1.1.1, r6.1.1.2) (r3.1.1.1, r3.1.1.2)).bind fun r14 =>
                                              (br (!r14.1.1)
                                                (some ((false, ()), ()))
                                                ((br (!(r6.1.2.1 == r3.1.2.1))
                                                  (some ((false, ()), ()))
                                                  (((laws_markFormula N (r6.1.1.1, r6.1.1.2) 1).bind fun r15 =>
                                                    ((laws_heldFormula N (r6.1.1.1, r15.2.1.2) 1).bind fun r16 =>
                                                      (br (ilt r16.1.1 0)
                                                        (some ((false, ()), ()))
                                                        ((br (ine r16.1.1 r15.1.1)
                                                          (some ((false, ()), ()))
                                                          (((laws_toFormula N (c.1, c.2)).bind fun r17 =>
                                                            ((laws_toIntS N c1).bind fun r18 =>
                                                              ((impl_NegateVars N (r17.1.1.1, r17.1.1.2) r18.1.1).bind fun r19 =>
                                                                ((laws_eqFormula N (r19.1.1.1, r19.1.1.2) (r3.1.1.1, r3.1.1.2)).bind fun r20 =>
                                                                  (br (!r20.1.1)
                                                                    (some ((false, ()), ()))
                                                                    ((br (!(r19.1.2.1 == r3.1.2.1))
                                                                      (some ((false, ()), ()))
                                                                      (((laws_heldFormula N (r6.1.1.1, r15.2.1.2) 1).bind fun r21 =>
                                                                        (br (ilt r21.1.1 0)
                                                                          (some ((false, ()), ()))
                                                                          ((br (ine r21.1.1 r15.1.1)
                                                                            (some ((false, ()), ()))
                                                                            (some ((true, ()), ())))))))))))))))))))))))))))))))))))))))))))))))))))))
abbrev laws_FnExactNegateVars_ps : List (PV.Mode × Ty) := [(.ro, QILLI), (.ro, LI)]
abbrev laws_FnExactNegateVars_rs : List (Bool × Ty) := [(true, .bool)]
noncomputable def laws_FnExactNegateVars_S (N : Nat) : FSum := ⟨laws_FnExactNegateVars_ps, laws_FnExactNegateVars_rs, fun x => laws_FnExactNegateVars N x.1 x.2.1⟩
theorem laws_FnExactNegateVars_run (N : Nat) (x : argsT laws_FnExactNegateVars_ps) : laws_FnExactNegateVars N x.1 x.2.1 = funF (laws_FnExactNegateVars_G N) tab [] Try.f12 laws_FnExactNegateVars_ps laws_FnExactNegateVars_rs x := by kernel_rfl
theorem laws_FnExactNegateVars_pc (N : Nat) : PC Try.prog 12 (laws_FnExactNegateVars_S N) := by
  have e : laws_FnExactNegateVars_S N = ⟨laws_FnExactNegateVars_ps, laws_FnExactNegateVars_rs, funF (laws_FnExactNegateVars_G N) tab [] Try.f12 laws_FnExactNegateVars_ps laws_FnExactNegateVars_rs⟩ := congrArg (FSum.mk laws_FnExactNegateVars_ps laws_FnExactNegateVars_rs) (funext (laws_FnExactNegateVars_run N))
  rw [e]
  exact fun_ok (c := laws_FnExactNegateVars_code) progOk (laws_FnExactNegateVars_gok N) (draw_ok progOk (laws_FnExactNegateVars_gok N)) Try.call12 Try.func12 (by kernel_rfl) (lsOk_at (L := []) trivial) (by kernel_rfl) (by kernel_rfl) (by kernel_rfl) (by kernel_rfl) (by kernel_rfl)
end Go.Proofs.Ythkejedgfhjdiaa
