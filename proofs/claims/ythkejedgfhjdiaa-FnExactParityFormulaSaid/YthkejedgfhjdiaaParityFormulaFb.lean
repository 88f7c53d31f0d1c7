/- Functions of the program as functions on data. -/
import Derived.Test.YthkejedgfhjdiaaParityFormulaFa
set_option linter.all false
namespace Go.Proofs.Ythkejedgfhjdiaa
open Go Go.PV
/-! ### impl_IsParity -/
abbrev impl_IsParity_ps : List (PV.Mode × Ty) := [(.ro, QIQLLILI)]
abbrev impl_IsParity_rs : List (Bool × Ty) := [(true, .bool)]
noncomputable def impl_IsParity_G (N : Nat) : GTab := gOf [(64, impl_between_S N), (67, impl_isAssignment_S N), (65, slices_ContainsFunc_LLI_LI_S N), (136, impl_IsParity_c1_S N)]
theorem impl_IsParity_gok (N : Nat) : GOk Try.prog (impl_IsParity_G N) := gOf_ok ⟨impl_between_pc N, impl_isAssignment_pc N, slices_ContainsFunc_LLI_LI_pc N, impl_IsParity_c1_pc N, trivial⟩
noncomputable def impl_IsParity_code : Code := (Try.f72.body).getD .skip
noncomputable def impl_IsParity (N : Nat) (p : (Int × ((List (List Int)) × (List Int)))) : Option ((Bool × Unit) × (Unit)) :=
  ((impl_between N p.1 0 6).bind fun r =>
    (br r.1.1
      ((br (ile (tLen p.2.1) 6)
        (((impl_isAssignment N (tLen p.2.1) p.2.2).bind fun r1 =>
          (br r1.1.1
            (((slices_ContainsFunc_LLI_LI N p.2.1 (fun y0 => (impl_IsParity_c1 N y0 (p.1, (p.2.1, p.2.2))).bind fun z => some z.1.1)).bind fun r2 =>
              some (((!r2.1.1), ()), ())))
            (some ((false, ()), ())))))
        (some ((false, ()), ()))))
      (some ((false, ()), ()))))
noncomputable def impl_IsParity_S (N : Nat) : FSum := ⟨impl_IsParity_ps, impl_IsParity_rs, fun x => impl_IsParity N x.1⟩
theorem impl_IsParity_run (N : Nat) (x : argsT impl_IsParity_ps) : impl_IsParity N x.1 = funF (impl_IsParity_G N) tab [] Try.f72 impl_IsParity_ps impl_IsParity_rs x := by kernel_rfl
theorem impl_IsParity_pc (N : Nat) : PC Try.prog 72 (impl_IsParity_S N) := by
  have e : impl_IsParity_S N = ⟨impl_IsParity_ps, impl_IsParity_rs, funF (impl_IsParity_G N) tab [] Try.f72 impl_IsParity_ps impl_IsParity_rs⟩ := congrArg (FSum.mk impl_IsParity_ps impl_IsParity_rs) (funext (impl_IsParity_run N))
  rw [e]
  exact fun_ok (c := impl_IsParity_code) progOk (impl_IsParity_gok N) (draw_ok progOk (impl_IsParity_gok N)) Try.call72 Try.func72 (by kernel_rfl) (lsOk_at (L := []) trivial) (by kernel_rfl) (by kernel_rfl) (by kernel_rfl) (by kernel_rfl) (by kernel_rfl)

/-! ### impl_assignments_own -/
abbrev impl_assignments_own_ps : List (PV.Mode × Ty) := [(.ro, I), (.ro, FLIBo)]
abbrev impl_assignments_own_rs : List (Bool × Ty) := [(true, LLI)]
noncomputable def impl_assignments_own_G (N : Nat) : GTab := gOf []
theorem impl_assignments_own_gok (N : Nat) : GOk Try.prog (impl_assignments_own_G N) := gOf_ok trivial
noncomputable def impl_assignments_own_code : Code := (Try.f132.body).getD .skip
noncomputable def impl_assignments_own_l0_0_sh : Sh := ⟨[(0, .one (.ro I)), (1, .one (.ro FLIBo)), (5, .one (.ref 0)), (6, .one (.ro I)), (7, .one (.ref 1)), (11, .one (.ro I)), (12, .one (.ro I)), (16, .one (.ro I)), (17, .one (.ro I))], [.sl 33 LI .deep, .sl 3 I .own]⟩
noncomputable def impl_assignments_own_l0_0_ex : List (Ex × Sh) := [(.exit 2, ⟨[(0, .one (.ro I)), (1, .one (.ro FLIBo)), (5, .one (.ref 0)), (7, .one (.ref 1)), (11, .one (.ro I)), (12, .one (.ro I))], [.sl 33 LI .deep, .sl 3 I .own]⟩)]
noncomputable def impl_assignments_own_l0_0 {R : Type} (N : Nat) (k0 : Int → ((List Int) → Option Bool) → Int → Int → (List (List Int)) → (List Int) → Option R) : Nat → Int → ((List Int) → Option Bool) → Int → Int → Int → Int → Int → (List (List Int)) → (List Int) → Option R
  | 0, _, _, _, _, _, _, _, _, _ => none
  | K + 1, vars2, is2, n, x2, x3, x4, x5, o1, o2 =>
    (br (ilt x5 x4)
      ((chk (ile 0 (IntKind.i64.wrap ((IntKind.i64.wrap (vars2 - 1)) - x5)))
        (chk (room o2 [(bitop .and .i64 (shrI .i64 n (IntKind.i64.wrap ((IntKind.i64.wrap (vars2 - 1)) - x5))) 1)])
        (impl_assignments_own_l0_0 N k0 K vars2 is2 n x2 x3 x4 (IntKind.i64.wrap (x5 + 1)) o1 (tApp o2 [(bitop .and .i64 (shrI .i64 n (IntKind.i64.wrap ((IntKind.i64.wrap (vars2 - 1)) - x5))) 1)])))))
      (k0 vars2 is2 x2 x3 o1 o2))
noncomputable def impl_assignments_own_l0_0_again {R : Type} (N : Nat) (ks : (j : Nat) → ((impl_assignments_own_l0_0_ex.getD j (.ret, Sh.none)).2).T → Option R) (k : Nat) (x : impl_assignments_own_l0_0_sh.T) : Option R :=
  impl_assignments_own_l0_0 N (fun y0 y1 y2 y3 y4 y5 => ks 0 ((y0, y1, (), (), y2, y3, ()), (y4, y5, ()))) k x.1.1 x.1.2.1 x.1.2.2.2.1 x.1.2.2.2.2.2.1 x.1.2.2.2.2.2.2.1 x.1.2.2.2.2.2.2.2.1 x.1.2.2.2.2.2.2.2.2.1 x.2.1 x.2.2.1
noncomputable def impl_assignments_own_l0_0_s (N : Nat) : LSum := ⟨impl_assignments_own_l0_0_sh, impl_assignments_own_l0_0_ex, fun x ks => impl_assignments_own_l0_0_again N ks N x⟩
theorem impl_assignments_own_l0_0_step (N : Nat) (R : Type) (k : Nat) (x : impl_assignments_own_l0_0_sh.T) (ks : (j : Nat) → ((impl_assignments_own_l0_0_ex.getD j (.ret, Sh.none)).2).T → Option R) : impl_assignments_own_l0_0_again N ks (k + 1) x = roundF (impl_assignments_own_G N) tab [] (loopAt (loopAt impl_assignments_own_code 0) 0) impl_assignments_own_l0_0_sh impl_assignments_own_l0_0_ex (fun y => impl_assignments_own_l0_0_again N ks k y) ks x := by kernel_rfl
theorem impl_assignments_own_l0_0_ok (N : Nat) : LoopOk Try.prog Try.f132.ntmps (impl_assignments_own_l0_0_s N) (loopAt (loopAt impl_assignments_own_code 0) 0) :=
  loop_ok (l := impl_assignments_own_l0_0_s N) progOk (impl_assignments_own_gok N) (draw_ok progOk (impl_assignments_own_gok N)) (fun R k x ks => impl_assignments_own_l0_0_again N ks k x) (fun _ _ _ => rfl) (fun R k x ks => impl_assignments_own_l0_0_step N R k x ks) (fun R x ks r h => ⟨N, h⟩) (lsOk_at (L := []) trivial) (by kernel_rfl) (by kernel_rfl)
noncomputable def impl_assignments_own_l0_sh : Sh := ⟨[(0, .one (.ro I)), (1, .one (.ro FLIBo)), (5, .one (.ref 0)), (11, .one (.ro I)), (12, .one (.ro I))], [.sl 33 LI .deep]⟩
noncomputable def impl_assignments_own_l0_ex : List (Ex × Sh) := [(.exit 0, ⟨[(5, .one (.ref 0))], [.sl 33 LI .deep]⟩)]
noncomputable def impl_assignments_own_l0 {R : Type} (N : Nat) (k0 : (List (List Int)) → Option R) : Nat → Int → ((List Int) → Option Bool) → Int → Int → (List (List Int)) → Option R
  | 0, _, _, _, _, _ => none
  | K + 1, vars1, is1, x, x1, o =>
    (br (ilt x1 x)
      (impl_assignments_own_l0_0 N (fun vars2 is2 x2 x3 o1 o2 => ((is2 o2).bind fun v =>
        (br v
        ((chk (room o1 [o2])
          (impl_assignments_own_l0 N k0 K vars2 is2 x2 (IntKind.i64.wrap (x3 + 1)) (tApp o1 [o2]))))
        (impl_assignments_own_l0 N k0 K vars2 is2 x2 (IntKind.i64.wrap (x3 + 1)) o1)))) N vars1 is1 x1 x x1 vars1 0 o [])
      (k0 o))
noncomputable def impl_assignments_own_l0_again {R : Type} (N : Nat) (ks : (j : Nat) → ((impl_assignments_own_l0_ex.getD j (.ret, Sh.none)).2).T → Option R) (k : Nat) (x : impl_assignments_own_l0_sh.T) : Option R :=
  impl_assignments_own_l0 N (fun y0 => ks 0 (((), ()), (y0, ()))) k x.1.1 x.1.2.1 x.1.2.2.2.1 x.1.2.2.2.2.1 x.2.1
noncomputable def impl_assignments_own_l0_s (N : Nat) : LSum := ⟨impl_assignments_own_l0_sh, impl_assignments_own_l0_ex, fun x ks => impl_assignments_own_l0_again N ks N x⟩
theorem impl_assignments_own_l0_step (N : Nat) (R : Type) (k : Nat) (x : impl_assignments_own_l0_sh.T) (ks : (j : Nat) → ((impl_assignments_own_l0_ex.getD j (.ret, Sh.none)).2).T → Option R) : impl_assignments_own_l0_again N ks (k + 1) x = roundF (impl_assignments_own_G N) tab [impl_assignments_own_l0_0_s N] (loopAt impl_assignments_own_code 0) impl_assignments_own_l0_sh impl_assignments_own_l0_ex (fun y => impl_assignments_own_l0_again N ks k y) ks x := by kernel_rfl
theorem impl_assignments_own_l0_ok (N : Nat) : LoopOk Try.prog Try.f132.ntmps (impl_assignments_own_l0_s N) (loopAt impl_assignments_own_code 0) :=
  loop_ok (l := impl_assignments_own_l0_s N) progOk (impl_assignments_own_gok N) (draw_ok progOk (impl_assignments_own_gok N)) (fun R k x ks => impl_assignments_own_l0_again N ks k x) (fun _ _ _ => rfl) (fun R k x ks => impl_assignments_own_l0_step N R k x ks) (fun R x ks r h => ⟨N, h⟩) (lsOk_at (L := [impl_assignments_own_l0_0_s N]) ⟨impl_assignments_own_l0_0_ok N, trivial⟩) (by kernel_rfl) (by kernel_rfl)
noncomputable def impl_assignments_own (N : Nat) (vars : Int) (is : ((List Int) → Option Bool)) : Option (((List (List Int)) × Unit) × (Unit)) :=
  (chk (ile 0 vars)
    (impl_assignments_own_l0 N (fun o => some ((o, ()), ())) N vars is (shlI .i64 1 vars) 0 []))
noncomputable def impl_assignments_own_S (N : Nat) : FSum := ⟨impl_assignments_own_ps, impl_assignments_own_rs, fun x => impl_assignments_own N x.1 x.2.1⟩
theorem impl_assignments_own_run (N : Nat) (x : argsT impl_assignments_own_ps) : impl_assignments_own N x.1 x.2.1 = funF (impl_assignments_own_G N) tab [impl_assignments_own_l0_s N] Try.f132 impl_assignments_own_ps impl_assignments_own_rs x := by kernel_rfl
theorem impl_assignments_own_pc (N : Nat) : PC Try.prog 132 (impl_assignments_own_S N) := by
  have e : impl_assignments_own_S N = ⟨impl_assignments_own_ps, impl_assignments_own_rs, funF (impl_assignments_own_G N) tab [impl_assignments_own_l0_s N] Try.f132 impl_assignments_own_ps impl_assignments_own_rs⟩ := congrArg (FSum.mk impl_assignments_own_ps impl_assignments_own_rs) (funext (impl_assignments_own_run N))
  rw [e]
  exact fun_ok (c := impl_assignments_own_code) progOk (impl_assignments_own_gok N) (draw_ok progOk (impl_assignments_own_gok N)) Try.call132 Try.func132 (by kernel_rfl) (lsOk_at (L := [impl_assignments_own_l0_s N]) ⟨impl_assignments_own_l0_ok N, trivial⟩) (by kernel_rfl) (by kernel_rfl) (by kernel_rfl) (by kernel_rfl) (by kernel_rfl)

/-! ### impl_Parity_solutions_c1 -/
abbrev impl_Parity_solutions_c1_ps : List (PV.Mode × Ty) := [(.ro, LI), (.ro, AQIQLLILI)]
abbrev impl_Parity_solutions_c1_rs : List (Bool × Ty) := [(true, .bool)]
noncomputable def impl_Parity_solutions_c1_G (N : Nat) : GTab := gOf []
theorem impl_Parity_solutions_c1_gok (N : Nat) : GOk Try.prog (impl_Parity_solutions_c1_G N) := gOf_ok trivial
noncomputable def impl_Parity_solutions_c1_code : Code := (Try.f137.body).getD .skip
noncomputable def impl_Parity_solutions_c1_l0_0_sh : Sh := ⟨[(0, .one (.ro LI)), (1, .one (.ro AQIQLLILI)), (4, .one (.ro I)), (6, .one (.ro I)), (10, .one (.ro LLI)), (11, .one (.ro I)), (12, .one (.ro I)), (17, .one (.ro LI)), (18, .one (.ro I)), (19, .one (.ro I))], []⟩
noncomputable def impl_Parity_solutions_c1_l0_0_ex : List (Ex × Sh) := [(.exit 2, ⟨[(0, .one (.ro LI)), (1, .one (.ro AQIQLLILI)), (4, .one (.ro I)), (6, .one (.ro I)), (10, .one (.ro LLI)), (11, .one (.ro I)), (12, .one (.ro I))], []⟩)]
noncomputable def impl_Parity_solutions_c1_l0_0 {R : Type} (N : Nat) (k0 : (List Int) → (Int × ((List (List Int)) × (List Int))) → Int → Int → (List (List Int)) → Int → Int → Option R) : Nat → (List Int) → (Int × ((List (List Int)) × (List Int))) → Int → Int → (List (List Int)) → Int → Int → (List Int) → Int → Int → Option R
  | 0, _, _, _, _, _, _, _, _, _, _ => none
  | K + 1, list2, x4, i, sum, x5, x6, x7, x8, x9, x10 =>
    (br (ilt x10 x9)
      ((chk (inb x8 x10)
        (chk (inb list2 (rdI x8 x10))
        (impl_Parity_solutions_c1_l0_0 N k0 K list2 x4 i (IntKind.i64.wrap (sum + (rdI list2 (rdI x8 x10)))) x5 x6 x7 x8 x9 (IntKind.i64.wrap (x10 + 1))))))
      (k0 list2 x4 i sum x5 x6 x7))
noncomputable def impl_Parity_solutions_c1_l0_0_again {R : Type} (N : Nat) (ks : (j : Nat) → ((impl_Parity_solutions_c1_l0_0_ex.getD j (.ret, Sh.none)).2).T → Option R) (k : Nat) (x : impl_Parity_solutions_c1_l0_0_sh.T) : Option R :=
  impl_Parity_solutions_c1_l0_0 N (fun y0 y1 y2 y3 y4 y5 y6 => ks 0 ((y0, y1, y2, y3, y4, y5, y6, ()), ())) k x.1.1 x.1.2.1 x.1.2.2.1 x.1.2.2.2.1 x.1.2.2.2.2.1 x.1.2.2.2.2.2.1 x.1.2.2.2.2.2.2.1 x.1.2.2.2.2.2.2.2.1 x.1.2.2.2.2.2.2.2.2.1 x.1.2.2.2.2.2.2.2.2.2.1
noncomputable def impl_Parity_solutions_c1_l0_0_s (N : Nat) : LSum := ⟨impl_Parity_solutions_c1_l0_0_sh, impl_Parity_solutions_c1_l0_0_ex, fun x ks => impl_Parity_solutions_c1_l0_0_again N ks N x⟩
theorem impl_Parity_solutions_c1_l0_0_step (N : Nat) (R : Type) (k : Nat) (x : impl_Parity_solutions_c1_l0_0_sh.T) (ks : (j : Nat) → ((impl_Parity_solutions_c1_l0_0_ex.getD j (.ret, Sh.none)).2).T → Option R) : impl_Parity_solutions_c1_l0_0_again N ks (k + 1) x = roundF (impl_Parity_solutions_c1_G N) tab [] (loopAt (loopAt impl_Parity_solutions_c1_code 0) 0) impl_Parity_solutions_c1_l0_0_sh impl_Parity_solutions_c1_l0_0_ex (fun y => impl_Parity_solutions_c1_l0_0_again N ks k y) ks x := by kernel_rfl
theorem impl_Parity_solutions_c1_l0_0_ok (N : Nat) : LoopOk Try.prog Try.f137.ntmps (impl_Parity_solutions_c1_l0_0_s N) (loopAt (loopAt impl_Parity_solutions_c1_code 0) 0) :=
  loop_ok (l := impl_Parity_solutions_c1_l0_0_s N) progOk (impl_Parity_solutions_c1_gok N) (draw_ok progOk (impl_Parity_solutions_c1_gok N)) (fun R k x ks => impl_Parity_solutions_c1_l0_0_again N ks k x) (fun _ _ _ => rfl) (fun R k x ks => impl_Parity_solutions_c1_l0_0_step N R k x ks) (fun R x ks r h => ⟨N, h⟩) (lsOk_at (L := []) trivial) (by kernel_rfl) (by kernel_rfl)
noncomputable def impl_Parity_solutions_c1_l0_sh : Sh := ⟨[(0, .one (.ro LI)), (1, .one (.ro AQIQLLILI)), (10, .one (.ro LLI)), (11, .one (.ro I)), (12, .one (.ro I))], []⟩
noncomputable def impl_Parity_solutions_c1_l0_ex : List (Ex × Sh) := [(.ret, ⟨[(3, .one (.ro .bool))], []⟩), (.exit 0, ⟨[], []⟩)]
noncomputable def impl_Parity_solutions_c1_l0 {R : Type} (N : Nat) (k0 : Bool → Option R) (k1 : Unit → Option R) : Nat → (List Int) → (Int × ((List (List Int)) × (List Int))) → (List (List Int)) → Int → Int → Option R
  | 0, _, _, _, _, _ => none
  | K + 1, list1, x, x1, x2, x3 =>
    (br (ilt x3 x2)
      ((chk (inb x1 x3)
        (impl_Parity_solutions_c1_l0_0 N (fun list2 x4 i sum x5 x6 x7 => (chk (inb x4.2.2 i)
        (br (ine (sum.tmod 2) (rdI x4.2.2 i))
        (k0 false)
        (impl_Parity_solutions_c1_l0 N k0 k1 K list2 x4 x5 x6 (IntKind.i64.wrap (x7 + 1)))))) N list1 x x3 0 x1 x2 x3 (rdL x1 x3) (tLen (rdL x1 x3)) 0)))
      (k1 ()))
noncomputable def impl_Parity_solutions_c1_l0_again {R : Type} (N : Nat) (ks : (j : Nat) → ((impl_Parity_solutions_c1_l0_ex.getD j (.ret, Sh.none)).2).T → Option R) (k : Nat) (x : impl_Parity_solutions_c1_l0_sh.T) : Option R :=
  impl_Parity_solutions_c1_l0 N (fun y0 => ks 0 ((y0, ()), ())) (fun (_ : Unit) => ks 1 ((), ())) k x.1.1 x.1.2.1 x.1.2.2.1 x.1.2.2.2.1 x.1.2.2.2.2.1
noncomputable def impl_Parity_solutions_c1_l0_s (N : Nat) : LSum := ⟨impl_Parity_solutions_c1_l0_sh, impl_Parity_solutions_c1_l0_ex, fun x ks => impl_Parity_solutions_c1_l0_again N ks N x⟩
theorem impl_Parity_solutions_c1_l0_step (N : Nat) (R : Type) (k : Nat) (x : impl_Parity_solutions_c1_l0_sh.T) (ks : (j : Nat) → ((impl_Parity_solutions_c1_l0_ex.getD j (.ret, Sh.none)).2).T → Option R) : impl_Parity_solutions_c1_l0_again N ks (k + 1) x = roundF (impl_Parity_solutions_c1_G N) tab [impl_Parity_solutions_c1_l0_0_s N] (loopAt impl_Parity_solutions_c1_code 0) impl_Parity_solutions_c1_l0_sh impl_Parity_solutions_c1_l0_ex (fun y => impl_Parity_solutions_c1_l0_again N ks k y) ks x := by kernel_rfl
theorem impl_Parity_solutions_c1_l0_ok (N : Nat) : LoopOk Try.prog Try.f137.ntmps (impl_Parity_solutions_c1_l0_s N) (loopAt impl_Parity_solutions_c1_code 0) :=
  loop_ok (l := impl_Parity_solutions_c1_l0_s N) progOk (impl_Parity_solutions_c1_gok N) (draw_ok progOk (impl_Parity_solutions_c1_gok N)) (fun R k x ks => impl_Parity_solutions_c1_l0_again N ks k x) (fun _ _ _ => rfl) (fun R k x ks => impl_Parity_solutions_c1_l0_step N R k x ks) (fun R x ks r h => ⟨N, h⟩) (lsOk_at (L := [impl_Parity_solutions_c1_l0_0_s N]) ⟨impl_Parity_solutions_c1_l0_0_ok N, trivial⟩) (by kernel_rfl) (by kernel_rfl)
noncomputable def impl_Parity_solutions_c1 (N : Nat) (list : (List Int)) (c : (Int × ((List (List Int)) × (List Int)))) : Option ((Bool × Unit) × (Unit)) :=
  impl_Parity_solutions_c1_l0 N (fun x => some ((x, ()), ())) (fun (_ : Unit) => some ((true, ()), ())) N list c c.2.1 (tLen c.2.1) 0
noncomputable def impl_Parity_solutions_c1_S (N : Nat) : FSum := ⟨impl_Parity_solutions_c1_ps, impl_Parity_solutions_c1_rs, fun x => impl_Parity_solutions_c1 N x.1 x.2.1⟩
theorem impl_Parity_solutions_c1_run (N : Nat) (x : argsT impl_Parity_solutions_c1_ps) : impl_Parity_solutions_c1 N x.1 x.2.1 = funF (impl_Parity_solutions_c1_G N) tab [impl_Parity_solutions_c1_l0_s N] Try.f137 impl_Parity_solutions_c1_ps impl_Parity_solutions_c1_rs x := by kernel_rfl
theorem impl_Parity_solutions_c1_pc (N : Nat) : PC Try.prog 137 (impl_Parity_solutions_c1_S N) := by
  have e : impl_Parity_solutions_c1_S N = ⟨impl_Parity_solutions_c1_ps, impl_Parity_solutions_c1_rs, funF (impl_Parity_solutions_c1_G N) tab [impl_Parity_solutions_c1_l0_s N] Try.f137 impl_Parity_solutions_c1_ps impl_Parity_solutions_c1_rs⟩ := congrArg (FSum.mk impl_Parity_solutions_c1_ps impl_Parity_solutions_c1_rs) (funext (impl_Parity_solutions_c1_run N))
  rw [e]
  exact fun_ok (c := impl_Parity_solutions_c1_code) progOk (impl_Parity_solutions_c1_gok N) (draw_ok progOk (impl_Parity_solutions_c1_gok N)) Try.call137 Try.func137 (by kernel_rfl) (lsOk_at (L := [impl_Parity_solutions_c1_l0_s N]) ⟨impl_Parity_solutions_c1_l0_ok N, trivial⟩) (by kernel_rfl) (by kernel_rfl) (by kernel_rfl) (by kernel_rfl) (by kernel_rfl)

/-! ### impl_Parity_solutions -/
abbrev impl_Parity_solutions_ps : List (PV.Mode × Ty) := [(.ro, QIQLLILI)]
abbrev impl_Parity_solutions_rs : List (Bool × Ty) := [(true, LLI)]
noncomputable def impl_Parity_solutions_G (N : Nat) : GTab := gOf [(132, impl_assignments_own_S N), (137, impl_Parity_solutions_c1_S N)]
theorem impl_Parity_solutions_gok (N : Nat) : GOk Try.prog (impl_Parity_solutions_G N) := gOf_ok ⟨impl_assignments_own_pc N, impl_Parity_solutions_c1_pc N, trivial⟩
noncomputable def impl_Parity_solutions_code : Code := (Try.f73.body).getD .skip
noncomputable def impl_Parity_solutions (N : Nat) (p : (Int × ((List (List Int)) × (List Int)))) : Option (((List (List Int)) × Unit) × (Unit)) :=
  ((impl_assignments_own N p.1 (fun y0 => (impl_Parity_solutions_c1 N y0 (p.1, (p.2.1, p.2.2))).bind fun z => some z.1.1)).bind fun r =>
    some ((r.1.1, ()), ()))
noncomputable def impl_Parity_solutions_S (N : Nat) : FSum := ⟨impl_Parity_solutions_ps, impl_Parity_solutions_rs, fun x => impl_Parity_solutions N x.1⟩
theorem impl_Parity_solutions_run (N : Nat) (x : argsT impl_Parity_solutions_ps) : impl_Parity_solutions N x.1 = funF (impl_Parity_solutions_G N) tab [] Try.f73 impl_Parity_solutions_ps impl_Parity_solutions_rs x := by kernel_rfl
theorem impl_Parity_solutions_pc (N : Nat) : PC Try.prog 73 (impl_Parity_solutions_S N) := by
  have e : impl_Parity_solutions_S N = ⟨impl_Parity_solutions_ps, impl_Parity_solutions_rs, funF (impl_Parity_solutions_G N) tab [] Try.f73 impl_Parity_solutions_ps impl_Parity_solutions_rs⟩ := congrArg (FSum.mk impl_Parity_solutions_ps impl_Parity_solutions_rs) (funext (impl_Parity_solutions_run N))
  rw [e]
  exact fun_ok (c := impl_Parity_solutions_code) progOk (impl_Parity_solutions_gok N) (draw_ok progOk (impl_Parity_solutions_gok N)) Try.call73 Try.func73 (by kernel_rfl) (lsOk_at (L := []) trivial) (by kernel_rfl) (by kernel_rfl) (by kernel_rfl) (by kernel_rfl) (by kernel_rfl)

/-! ### impl_assignments -/
abbrev impl_assignments_ps : List (PV.Mode × Ty) := [(.ro, I), (.ro, FLIBo)]
abbrev impl_assignments_rs : List (Bool × Ty) := [(false, LLI)]
noncomputable def impl_assignments_G (N : Nat) : GTab := gOf []
theorem impl_assignments_gok (N : Nat) : GOk Try.prog (impl_assignments_G N) := gOf_ok trivial
noncomputable def impl_assignments_code : Code := (Try.f132.body).getD .skip
noncomputable def impl_assignments_l0_0_sh : Sh := ⟨[(0, .one (.ro I)), (1, .one (.ro FLIBo)), (5, .one (.ref 0)), (6, .one (.ro I)), (7, .one (.ref 1)), (11, .one (.ro I)), (12, .one (.ro I)), (16, .one (.ro I)), (17, .one (.ro I))], [.sl 33 LI .deep, .sl 3 I .own]⟩
noncomputable def impl_assignments_l0_0_ex : List (Ex × Sh) := [(.exit 2, ⟨[(0, .one (.ro I)), (1, .one (.ro FLIBo)), (5, .one (.ref 0)), (7, .one (.ref 1)), (11, .one (.ro I)), (12, .one (.ro I))], [.sl 33 LI .deep, .sl 3 I .own]⟩)]
noncomputable def impl_assignments_l0_0 {R : Type} (N : Nat) (k0 : Int → ((List Int) → Option Bool) → Int → Int → (List (List Int)) → (List Int) → Option R) : Nat → Int → ((List Int) → Option Bool) → Int → Int → Int → Int → Int → (List (List Int)) → (List Int) → Option R
  | 0, _, _, _, _, _, _, _, _, _ => none
  | K + 1, vars2, is2, n, x2, x3, x4, x5, o1, o2 =>
    (br (ilt x5 x4)
      ((chk (ile 0 (IntKind.i64.wrap ((IntKind.i64.wrap (vars2 - 1)) - x5)))
        (chk (room o2 [(bitop .and .i64 (shrI .i64 n (IntKind.i64.wrap ((IntKind.i64.wrap (vars2 - 1)) - x5))) 1)])
        (impl_assignments_l0_0 N k0 K vars2 is2 n x2 x3 x4 (IntKind.i64.wrap (x5 + 1)) o1 (tApp o2 [(bitop .and .i64 (shrI .i64 n (IntKind.i64.wrap ((IntKind.i64.wrap (vars2 - 1)) - x5))) 1)])))))
      (k0 vars2 is2 x2 x3 o1 o2))
noncomputable def impl_assignments_l0_0_again {R : Type} (N : Nat) (ks : (j : Nat) → ((impl_assignments_l0_0_ex.getD j (.ret, Sh.none)).2).T → Option R) (k : Nat) (x : impl_assignments_l0_0_sh.T) : Option R :=
  impl_assignments_l0_0 N (fun y0 y1 y2 y3 y4 y5 => ks 0 ((y0, y1, (), (), y2, y3, ()), (y4, y5, ()))) k x.1.1 x.1.2.1 x.1.2.2.2.1 x.1.2.2.2.2.2.1 x.1.2.2.2.2.2.2.1 x.1.2.2.2.2.2.2.2.1 x.1.2.2.2.2.2.2.2.2.1 x.2.1 x.2.2.1
noncomputable def impl_assignments_l0_0_s (N : Nat) : LSum := ⟨impl_assignments_l0_0_sh, impl_assignments_l0_0_ex, fun x ks => impl_assignments_l0_0_again N ks N x⟩
theorem impl_assignments_l0_0_step (N : Nat) (R : Type) (k : Nat) (x : impl_assignments_l0_0_sh.T) (ks : (j : Nat) → ((impl_assignments_l0_0_ex.getD j (.ret, Sh.none)).2).T → Option R) : impl_assignments_l0_0_again N ks (k + 1) x = roundF (impl_assignments_G N) tab [] (loopAt (loopAt impl_assignments_code 0) 0) impl_assignments_l0_0_sh impl_assignments_l0_0_ex (fun y => impl_assignments_l0_0_again N ks k y) ks x := by kernel_rfl
theorem impl_assignments_l0_0_ok (N : Nat) : LoopOk Try.prog Try.f132.ntmps (impl_assignments_l0_0_s N) (loopAt (loopAt impl_assignments_code 0) 0) :=
  loop_ok (l := impl_assignments_l0_0_s N) progOk (impl_assignments_gok N) (draw_ok progOk (impl_assignments_gok N)) (fun R k x ks => impl_assignments_l0_0_again N ks k x) (fun _ _ _ => rfl) (fun R k x ks => impl_assignments_l0_0_step N R k x ks) (fun R x ks r h => ⟨N, h⟩) (lsOk_at (L := []) trivial) (by kernel_rfl) (by kernel_rfl)
noncomputable def impl_assignments_l0_sh : Sh := ⟨[(0, .one (.ro I)), (1, .one (.ro FLIBo)), (5, .one (.ref 0)), (11, .one (.ro I)), (12, .one (.ro I))], [.sl 33 LI .deep]⟩
noncomputable def impl_assignments_l0_ex : List (Ex × Sh) := [(.exit 0, ⟨[(5, .one (.ref 0))], [.sl 33 LI .deep]⟩)]
noncomputable def impl_assignments_l0 {R : Type} (N : Nat) (k0 : (List (List Int)) → Option R) : Nat → Int → ((List Int) → Option Bool) → Int → Int → (List (List Int)) → Option R
  | 0, _, _, _, _, _ => none
  | K + 1, vars1, is1, x, x1, o =>
    (br (ilt x1 x)
      (impl_assignments_l0_0 N (fun vars2 is2 x2 x3 o1 o2 => ((is2 o2).bind fun v =>
        (br v
        ((chk (room o1 [o2])
          (impl_assignments_l0 N k0 K vars2 is2 x2 (IntKind.i64.wrap (x3 + 1)) (tApp o1 [o2]))))
        (impl_assignments_l0 N k0 K vars2 is2 x2 (IntKind.i64.wrap (x3 + 1)) o1)))) N vars1 is1 x1 x x1 vars1 0 o [])
      (k0 o))
noncomputable def impl_assignments_l0_again {R : Type} (N : Nat) (ks : (j : Nat) → ((impl_assignments_l0_ex.getD j (.ret, Sh.none)).2).T → Option R) (k : Nat) (x : impl_assignments_l0_sh.T) : Option R :=
  impl_assignments_l0 N (fun y0 => ks 0 (((), ()), (y0, ()))) k x.1.1 x.1.2.1 x.1.2.2.2.1 x.1.2.2.2.2.1 x.2.1
noncomputable def impl_assignments_l0_s (N : Nat) : LSum := ⟨impl_assignments_l0_sh, impl_assignments_l0_ex, fun x ks => impl_assignments_l0_again N ks N x⟩
theorem impl_assignments_l0_step (N : Nat) (R : Type) (k : Nat) (x : impl_assignments_l0_sh.T) (ks : (j : Nat) → ((impl_assignments_l0_ex.getD j (.ret, Sh.none)).2).T → Option R) : impl_assignments_l0_again N ks (k + 1) x = roundF (impl_assignments_G N) tab [impl_assignments_l0_0_s N] (loopAt impl_assignments_code 0) impl_assignments_l0_sh impl_assignments_l0_ex (fun y => impl_assignments_l0_again N ks k y) ks x := by kernel_rfl
theorem impl_assignments_l0_ok (N : Nat) : LoopOk Try.prog Try.f132.ntmps (impl_assignments_l0_s N) (loopAt impl_assignments_code 0) :=
  loop_ok (l := impl_assignments_l0_s N) progOk (impl_assignments_gok N) (draw_ok progOk (impl_assignments_gok N)) (fun R k x ks => impl_assignments_l0_again N ks k x) (fun _ _ _ => rfl) (fun R k x ks => impl_assignments_l0_step N R k x ks) (fun R x ks r h => ⟨N, h⟩) (lsOk_at (L := [impl_assignments_l0_0_s N]) ⟨impl_assignments_l0_0_ok N, trivial⟩) (by kernel_rfl) (by kernel_rfl)
noncomputable def impl_assignments (N : Nat) (vars : Int) (is : ((List Int) → Option Bool)) : Option (((List (List Int)) × Unit) × (Unit)) :=
  (chk (ile 0 vars)
    (impl_assignments_l0 N (fun o => some ((o, ()), ())) N vars is (shlI .i64 1 vars) 0 []))
noncomputable def impl_assignments_S (N : Nat) : FSum := ⟨impl_assignments_ps, impl_assignments_rs, fun x => impl_assignments N x.1 x.2.1⟩
theorem impl_assignments_run (N : Nat) (x : argsT impl_assignments_ps) : impl_assignments N x.1 x.2.1 = funF (impl_assignments_G N) tab [impl_assignments_l0_s N] Try.f132 impl_assignments_ps impl_assignments_rs x := by kernel_rfl
theorem impl_assignments_pc (N : Nat) : PC Try.prog 132 (impl_assignments_S N) := by
  have e : impl_assignments_S N = ⟨impl_assignments_ps, impl_assignments_rs, funF (impl_assignments_G N) tab [impl_assignments_l0_s N] Try.f132 impl_assignments_ps impl_assignments_rs⟩ := congrArg (FSum.mk impl_assignments_ps impl_assignments_rs) (funext (impl_assignments_run N))
  rw [e]
  exact fun_ok (c := impl_assignments_code) progOk (impl_assignments_gok N) (draw_ok progOk (impl_assignments_gok N)) Try.call132 Try.func132 (by kernel_rfl) (lsOk_at (L := [impl_assignments_l0_s N]) ⟨impl_assignments_l0_ok N, trivial⟩) (by kernel_rfl) (by kernel_rfl) (by kernel_rfl) (by kernel_rfl) (by kernel_rfl)

/-! ### impl_formulaOf_c1 -/
abbrev impl_formulaOf_c1_ps : List (PV.Mode × Ty) := [(.ro, LI)]
abbrev impl_formulaOf_c1_rs : List (Bool × Ty) := [(true, .bool)]
noncomputable def impl_formulaOf_c1_G (N : Nat) : GTab := gOf []
theorem impl_formulaOf_c1_gok (N : Nat) : GOk Try.prog (impl_formulaOf_c1_G N) := gOf_ok trivial
noncomputable def impl_formulaOf_c1_code : Code := (Try.f133.body).getD .skip
noncomputable def impl_formulaOf_c1 (N : Nat) (x : (List Int)) : Option ((Bool × Unit) × (Unit)) :=
  some ((true, ()), ())
noncomputable def impl_formulaOf_c1_S (N : Nat) : FSum := ⟨impl_formulaOf_c1_ps, impl_formulaOf_c1_rs, fun x => impl_formulaOf_c1 N x.1⟩
theorem impl_formulaOf_c1_run (N : Nat) (x : argsT impl_formulaOf_c1_ps) : impl_formulaOf_c1 N x.1 = funF (impl_formulaOf_c1_G N) tab [] Try.f133 impl_formulaOf_c1_ps impl_formulaOf_c1_rs x := by kernel_rfl
theorem impl_formulaOf_c1_pc (N : Nat) : PC Try.prog 133 (impl_formulaOf_c1_S N) := by
  have e : impl_formulaOf_c1_S N = ⟨impl_formulaOf_c1_ps, impl_formulaOf_c1_rs, funF (impl_formulaOf_c1_G N) tab [] Try.f133 impl_formulaOf_c1_ps impl_formulaOf_c1_rs⟩ := congrArg (FSum.mk impl_formulaOf_c1_ps impl_formulaOf_c1_rs) (funext (impl_formulaOf_c1_run N))
  rw [e]
  exact fun_ok (c := impl_formulaOf_c1_code) progOk (impl_formulaOf_c1_gok N) (draw_ok progOk (impl_formulaOf_c1_gok N)) Try.call133 Try.func133 (by kernel_rfl) (lsOk_at (L := []) trivial) (by kernel_rfl) (by kernel_rfl) (by kernel_rfl) (by kernel_rfl) (by kernel_rfl)

/-! ### slices_Equal_LI_int -/
abbrev slices_Equal_LI_int_ps : List (PV.Mode × Ty) := [(.ro, LI), (.ro, LI)]
abbrev slices_Equal_LI_int_rs : List (Bool × Ty) := [(true, .bool)]
noncomputable def slices_Equal_LI_int_G (N : Nat) : GTab := gOf []
theorem slices_Equal_LI_int_gok (N : Nat) : GOk Try.prog (slices_Equal_LI_int_G N) := gOf_ok trivial
noncomputable def slices_Equal_LI_int_code : Code := (Try.f135.body).getD .skip
noncomputable def slices_Equal_LI_int_l0_sh : Sh := ⟨[(0, .one (.ro LI)), (1, .one (.ro LI)), (12, .one (.ro I)), (13, .one (.ro I))], []⟩
noncomputable def slices_Equal_LI_int_l0_ex : List (Ex × Sh) := [(.ret, ⟨[(4, .one (.ro .bool))], []⟩), (.exit 0, ⟨[], []⟩)]
noncomputable def slices_Equal_LI_int_l0 {R : Type} (N : Nat) (k0 : Bool → Option R) (k1 : Unit → Option R) : Nat → (List Int) → (List Int) → Int → Int → Option R
  | 0, _, _, _, _ => none
  | K + 1, s11, s21, x, x1 =>
    (br (ilt x1 x)
      ((chk (inb s11 x1)
        (chk (inb s21 x1)
        (br (ine (rdI s11 x1) (rdI s21 x1))
        (k0 false)
        (slices_Equal_LI_int_l0 N k0 k1 K s11 s21 x (IntKind.i64.wrap (x1 + 1)))))))
      (k1 ()))
noncomputable def slices_Equal_LI_int_l0_again {R : Type} (N : Nat) (ks : (j : Nat) → ((slices_Equal_LI_int_l0_ex.getD j (.ret, Sh.none)).2).T → Option R) (k : Nat) (x : slices_Equal_LI_int_l0_sh.T) : Option R :=
  slices_Equal_LI_int_l0 N (fun y0 => ks 0 ((y0, ()), ())) (fun (_ : Unit) => ks 1 ((), ())) k x.1.1 x.1.2.1 x.1.2.2.1 x.1.2.2.2.1
noncomputable def slices_Equal_LI_int_l0_s (N : Nat) : LSum := ⟨slices_Equal_LI_int_l0_sh, slices_Equal_LI_int_l0_ex, fun x ks => slices_Equal_LI_int_l0_again N ks N x⟩
theorem slices_Equal_LI_int_l0_step (N : Nat) (R : Type) (k : Nat) (x : slices_Equal_LI_int_l0_sh.T) (ks : (j : Nat) → ((slices_Equal_LI_int_l0_ex.getD j (.ret, Sh.none)).2).T → Option R) : slices_Equal_LI_int_l0_again N ks (k + 1) x = roundF (slices_Equal_LI_int_G N) tab [] (loopAt slices_Equal_LI_int_code 0) slices_Equal_LI_int_l0_sh slices_Equal_LI_int_l0_ex (fun y => slices_Equal_LI_int_l0_again N ks k y) ks x := by kernel_rfl
theorem slices_Equal_LI_int_l0_ok (N : Nat) : LoopOk Try.prog Try.f135.ntmps (slices_Equal_LI_int_l0_s N) (loopAt slices_Equal_LI_int_code 0) :=
  loop_ok (l := slices_Equal_LI_int_l0_s N) progOk (slices_Equal_LI_int_gok N) (draw_ok progOk (slices_Equal_LI_int_gok N)) (fun R k x ks => slices_Equal_LI_int_l0_again N ks k x) (fun _ _ _ => rfl) (fun R k x ks => slices_Equal_LI_int_l0_step N R k x ks) (fun R x ks r h => ⟨N, h⟩) (lsOk_at (L := []) trivial) (by kernel_rfl) (by kernel_rfl)
noncomputable def slices_Equal_LI_int (N : Nat) (s1 : (List Int)) (s2 : (List Int)) : Option ((Bool × Unit) × (Unit)) :=
  (br (ine (tLen s1) (tLen s2))
    (some ((false, ()), ()))
    (slices_Equal_LI_int_l0 N (fun x => some ((x, ()), ())) (fun (_ : Unit) => some ((true, ()), ())) N s1 s2 (tLen s1) 0))
noncomputable def slices_Equal_LI_int_S (N : Nat) : FSum := ⟨slices_Equal_LI_int_ps, slices_Equal_LI_int_rs, fun x => slices_Equal_LI_int N x.1 x.2.1⟩
theorem slices_Equal_LI_int_run (N : Nat) (x : argsT slices_Equal_LI_int_ps) : slices_Equal_LI_int N x.1 x.2.1 = funF (slices_Equal_LI_int_G N) tab [slices_Equal_LI_int_l0_s N] Try.f135 slices_Equal_LI_int_ps slices_Equal_LI_int_rs x := by kernel_rfl
theorem slices_Equal_LI_int_pc (N : Nat) : PC Try.prog 135 (slices_Equal_LI_int_S N) := by
  have e : slices_Equal_LI_int_S N = ⟨slices_Equal_LI_int_ps, slices_Equal_LI_int_rs, funF (slices_Equal_LI_int_G N) tab [slices_Equal_LI_int_l0_s N] Try.f135 slices_Equal_LI_int_ps slices_Equal_LI_int_rs⟩ := congrArg (FSum.mk slices_Equal_LI_int_ps slices_Equal_LI_int_rs) (funext (slices_Equal_LI_int_run N))
  rw [e]
  exact fun_ok (c := slices_Equal_LI_int_code) progOk (slices_Equal_LI_int_gok N) (draw_ok progOk (slices_Equal_LI_int_gok N)) Try.call135 Try.func135 (by kernel_rfl) (lsOk_at (L := [slices_Equal_LI_int_l0_s N]) ⟨slices_Equal_LI_int_l0_ok N, trivial⟩) (by kernel_rfl) (by kernel_rfl) (by kernel_rfl) (by kernel_rfl) (by kernel_rfl)

/-! ### impl_formulaOf_c2 -/
abbrev impl_formulaOf_c2_ps : List (PV.Mode × Ty) := [(.ro, LI), (.ro, ALI)]
abbrev impl_formulaOf_c2_rs : List (Bool × Ty) := [(true, .bool)]
noncomputable def impl_formulaOf_c2_G (N : Nat) : GTab := gOf [(135, slices_Equal_LI_int_S N)]
theorem impl_formulaOf_c2_gok (N : Nat) : GOk Try.prog (impl_formulaOf_c2_G N) := gOf_ok ⟨slices_Equal_LI_int_pc N, trivial⟩
noncomputable def impl_formulaOf_c2_code : Code := (Try.f134.body).getD .skip
noncomputable def impl_formulaOf_c2 (N : Nat) (s : (List Int)) (c : (List Int)) : Option ((Bool × Unit) × (Unit)) :=
  ((slices_Equal_LI_int N s c).bind fun r =>
    some ((r.1.1, ()), ()))
noncomputable def impl_formulaOf_c2_S (N : Nat) : FSum := ⟨impl_formulaOf_c2_ps, impl_formulaOf_c2_rs, fun x => impl_formulaOf_c2 N x.1 x.2.1⟩
theorem impl_formulaOf_c2_run (N : Nat) (x : argsT impl_formulaOf_c2_ps) : impl_formulaOf_c2 N x.1 x.2.1 = funF (impl_formulaOf_c2_G N) tab [] Try.f134 impl_formulaOf_c2_ps impl_formulaOf_c2_rs x := by kernel_rfl
theorem impl_formulaOf_c2_pc (N : Nat) : PC Try.prog 134 (impl_formulaOf_c2_S N) := by
  have e : impl_formulaOf_c2_S N = ⟨impl_formulaOf_c2_ps, impl_formulaOf_c2_rs, funF (impl_formulaOf_c2_G N) tab [] Try.f134 impl_formulaOf_c2_ps impl_formulaOf_c2_rs⟩ := congrArg (FSum.mk impl_formulaOf_c2_ps impl_formulaOf_c2_rs) (funext (impl_formulaOf_c2_run N))
  rw [e]
  exact fun_ok (c := impl_formulaOf_c2_code) progOk (impl_formulaOf_c2_gok N) (draw_ok progOk (impl_formulaOf_c2_gok N)) Try.call134 Try.func134 (by kernel_rfl) (lsOk_at (L := []) trivial) (by kernel_rfl) (by kernel_rfl) (by kernel_rfl) (by kernel_rfl) (by kernel_rfl)

/-! ### math_bits_Len64 -/
abbrev math_bits_Len64_ps : List (PV.Mode × Ty) := [(.ro, U64)]
abbrev math_bits_Len64_rs : List (Bool × Ty) := [(true, I)]
noncomputable def math_bits_Len64_G (N : Nat) : GTab := gOf []
theorem math_bits_Len64_gok (N : Nat) : GOk Try.prog (math_bits_Len64_G N) := gOf_ok trivial
noncomputable def math_bits_Len64_code : Code := (Try.f187.body).getD .skip
noncomputable def math_bits_Len64 (N : Nat) (x : Int) : Option ((Int × Unit) × (Unit)) :=
  (br (ile 4294967296 x)
    ((br (ile 65536 (shrI .u64 x 32))
      ((br (ile 256 (shrI .u64 (shrI .u64 x 32) 16))
        ((chk (strIn str0 (IntKind.u8.wrap ((shrI .u64 (shrI .u64 (shrI .u64 x 32) 16) 8))))
          (some (((IntKind.i64.wrap (56 + (IntKind.i64.wrap ((strAt str0 (IntKind.u8.wrap ((shrI .u64 (shrI .u64 (shrI .u64 x 32) 16) 8)))))))), ()), ()))))
        ((chk (strIn str0 (IntKind.u8.wrap ((shrI .u64 (shrI .u64 x 32) 16))))
          (some (((IntKind.i64.wrap (48 + (IntKind.i64.wrap ((strAt str0 (IntKind.u8.wrap ((shrI .u64 (shrI .u64 x 32) 16)))))))), ()), ()))))))
      ((br (ile 256 (shrI .u64 x 32))
        ((chk (strIn str0 (IntKind.u8.wrap ((shrI .u64 (shrI .u64 x 32) 8))))
          (some (((IntKind.i64.wrap (40 + (IntKind.i64.wrap ((strAt str0 (IntKind.u8.wrap ((shrI .u64 (shrI .u64 x 32) 8)))))))), ()), ()))))
        ((chk (strIn str0 (IntKind.u8.wrap ((shrI .u64 x 32))))
          (some (((IntKind.i64.wrap (32 + (IntKind.i64.wrap ((strAt str0 (IntKind.u8.wrap ((shrI .u64 x 32)))))))), ()), ()))))))))
    ((br (ile 65536 x)
      ((br (ile 256 (shrI .u64 x 16))
        ((chk (strIn str0 (IntKind.u8.wrap ((shrI .u64 (shrI .u64 x 16) 8))))
          (some (((IntKind.i64.wrap (24 + (IntKind.i64.wrap ((strAt str0 (IntKind.u8.wrap ((shrI .u64 (shrI .u64 x 16) 8)))))))), ()), ()))))
        ((chk (strIn str0 (IntKind.u8.wrap ((shrI .u64 x 16))))
          (some (((IntKind.i64.wrap (16 + (IntKind.i64.wrap ((strAt str0 (IntKind.u8.wrap ((shrI .u64 x 16)))))))), ()), ()))))))
      ((br (ile 256 x)
        ((chk (strIn str0 (IntKind.u8.wrap ((shrI .u64 x 8))))
          (some (((IntKind.i64.wrap (8 + (IntKind.i64.wrap ((strAt str0 (IntKind.u8.wrap ((shrI .u64 x 8)))))))), ()), ()))))
        ((chk (strIn str0 (IntKind.u8.wrap (x)))
          (some (((IntKind.i64.wrap (0 + (IntKind.i64.wrap ((strAt str0 (IntKind.u8.wrap (x))))))), ()), ())))))))))
noncomputable def math_bits_Len64_S (N : Nat) : FSum := ⟨math_bits_Len64_ps, math_bits_Len64_rs, fun x => math_bits_Len64 N x.1⟩
theorem math_bits_Len64_run (N : Nat) (x : argsT math_bits_Len64_ps) : math_bits_Len64 N x.1 = funF (math_bits_Len64_G N) tab [] Try.f187 math_bits_Len64_ps math_bits_Len64_rs x := by kernel_rfl
theorem math_bits_Len64_pc (N : Nat) : PC Try.prog 187 (math_bits_Len64_S N) := by
  have e : math_bits_Len64_S N = ⟨math_bits_Len64_ps, math_bits_Len64_rs, funF (math_bits_Len64_G N) tab [] Try.f187 math_bits_Len64_ps math_bits_Len64_rs⟩ := congrArg (FSum.mk math_bits_Len64_ps math_bits_Len64_rs) (funext (math_bits_Len64_run N))
  rw [e]
  exact fun_ok (c := math_bits_Len64_code) progOk (math_bits_Len64_gok N) (draw_ok progOk (math_bits_Len64_gok N)) Try.call187 Try.func187 (by kernel_rfl) (lsOk_at (L := []) trivial) (by kernel_rfl) (by kernel_rfl) (by kernel_rfl) (by kernel_rfl) (by kernel_rfl)

/-! ### math_bits_Len -/
abbrev math_bits_Len_ps : List (PV.Mode × Ty) := [(.ro, U64)]
abbrev math_bits_Len_rs : List (Bool × Ty) := [(true, I)]
noncomputable def math_bits_Len_G (N : Nat) : GTab := gOf [(187, math_bits_Len64_S N)]
theorem math_bits_Len_gok (N : Nat) : GOk Try.prog (math_bits_Len_G N) := gOf_ok ⟨math_bits_Len64_pc N, trivial⟩
noncomputable def math_bits_Len_code : Code := (Try.f161.body).getD .skip
noncomputable def math_bits_Len (N : Nat) (x : Int) : Option ((Int × Unit) × (Unit)) :=
  ((math_bits_Len64 N x).bind fun r =>
    some ((r.1.1, ()), ()))
noncomputable def math_bits_Len_S (N : Nat) : FSum := ⟨math_bits_Len_ps, math_bits_Len_rs, fun x => math_bits_Len N x.1⟩
theorem math_bits_Len_run (N : Nat) (x : argsT math_bits_Len_ps) : math_bits_Len N x.1 = funF (math_bits_Len_G N) tab [] Try.f161 math_bits_Len_ps math_bits_Len_rs x := by kernel_rfl
theorem math_bits_Len_pc (N : Nat) : PC Try.prog 161 (math_bits_Len_S N) := by
  have e : math_bits_Len_S N = ⟨math_bits_Len_ps, math_bits_Len_rs, funF (math_bits_Len_G N) tab [] Try.f161 math_bits_Len_ps math_bits_Len_rs⟩ := congrArg (FSum.mk math_bits_Len_ps math_bits_Len_rs) (funext (math_bits_Len_run N))
  rw [e]
  exact fun_ok (c := math_bits_Len_code) progOk (math_bits_Len_gok N) (draw_ok progOk (math_bits_Len_gok N)) Try.call161 Try.func161 (by kernel_rfl) (lsOk_at (L := []) trivial) (by kernel_rfl) (by kernel_rfl) (by kernel_rfl) (by kernel_rfl) (by kernel_rfl)

/-! ### cmp_isNaN_int -/
abbrev cmp_isNaN_int_ps : List (PV.Mode × Ty) := [(.ro, I)]
abbrev cmp_isNaN_int_rs : List (Bool × Ty) := [(true, .bool)]
noncomputable def cmp_isNaN_int_G (N : Nat) : GTab := gOf []
theorem cmp_isNaN_int_gok (N : Nat) : GOk Try.prog (cmp_isNaN_int_G N) := gOf_ok trivial
noncomputable def cmp_isNaN_int_code : Code := (Try.f200.body).getD .skip
noncomputable def cmp_isNaN_int (N : Nat) (x : Int) : Option ((Bool × Unit) × (Unit)) :=
  some (((ine x x), ()), ())
noncomputable def cmp_isNaN_int_S (N : Nat) : FSum := ⟨cmp_isNaN_int_ps, cmp_isNaN_int_rs, fun x => cmp_isNaN_int N x.1⟩
theorem cmp_isNaN_int_run (N : Nat) (x : argsT cmp_isNaN_int_ps) : cmp_isNaN_int N x.1 = funF (cmp_isNaN_int_G N) tab [] Try.f200 cmp_isNaN_int_ps cmp_isNaN_int_rs x := by kernel_rfl
theorem cmp_isNaN_int_pc (N : Nat) : PC Try.prog 200 (cmp_isNaN_int_S N) := by
  have e : cmp_isNaN_int_S N = ⟨cmp_isNaN_int_ps, cmp_isNaN_int_rs, funF (cmp_isNaN_int_G N) tab [] Try.f200 cmp_isNaN_int_ps cmp_isNaN_int_rs⟩ := congrArg (FSum.mk cmp_isNaN_int_ps cmp_isNaN_int_rs) (funext (cmp_isNaN_int_run N))
  rw [e]
  exact fun_ok (c := cmp_isNaN_int_code) progOk (cmp_isNaN_int_gok N) (draw_ok progOk (cmp_isNaN_int_gok N)) Try.call200 Try.func200 (by kernel_rfl) (lsOk_at (L := []) trivial) (by kernel_rfl) (by kernel_rfl) (by kernel_rfl) (by kernel_rfl) (by kernel_rfl)

/-! ### cmp_Less_int -/
abbrev cmp_Less_int_ps : List (PV.Mode × Ty) := [(.ro, I), (.ro, I)]
abbrev cmp_Less_int_rs : List (Bool × Ty) := [(true, .bool)]
noncomputable def cmp_Less_int_G (N : Nat) : GTab := gOf [(200, cmp_isNaN_int_S N)]
theorem cmp_Less_int_gok (N : Nat) : GOk Try.prog (cmp_Less_int_G N) := gOf_ok ⟨cmp_isNaN_int_pc N, trivial⟩
noncomputable def cmp_Less_int_code : Code := (Try.f183.body).getD .skip
noncomputable def cmp_Less_int (N : Nat) (x : Int) (y : Int) : Option ((Bool × Unit) × (Unit)) :=
  ((cmp_isNaN_int N x).bind fun r =>
    (br r.1.1
      (((cmp_isNaN_int N y).bind fun r1 =>
        (br (!r1.1.1)
          (some ((true, ()), ()))
          (some (((ilt x y), ()), ())))))
      (some (((ilt x y), ()), ()))))
noncomputable def cmp_Less_int_S (N : Nat) : FSum := ⟨cmp_Less_int_ps, cmp_Less_int_rs, fun x => cmp_Less_int N x.1 x.2.1⟩
theorem cmp_Less_int_run (N : Nat) (x : argsT cmp_Less_int_ps) : cmp_Less_int N x.1 x.2.1 = funF (cmp_Less_int_G N) tab [] Try.f183 cmp_Less_int_ps cmp_Less_int_rs x := by kernel_rfl
theorem cmp_Less_int_pc (N : Nat) : PC Try.prog 183 (cmp_Less_int_S N) := by
  have e : cmp_Less_int_S N = ⟨cmp_Less_int_ps, cmp_Less_int_rs, funF (cmp_Less_int_G N) tab [] Try.f183 cmp_Less_int_ps cmp_Less_int_rs⟩ := congrArg (FSum.mk cmp_Less_int_ps cmp_Less_int_rs) (funext (cmp_Less_int_run N))
  rw [e]
  exact fun_ok (c := cmp_Less_int_code) progOk (cmp_Less_int_gok N) (draw_ok progOk (cmp_Less_int_gok N)) Try.call183 Try.func183 (by kernel_rfl) (lsOk_at (L := []) trivial) (by kernel_rfl) (by kernel_rfl) (by kernel_rfl) (by kernel_rfl) (by kernel_rfl)

/-! ### slices_insertionSortOrdered_int -/
abbrev slices_insertionSortOrdered_int_ps : List (PV.Mode × Ty) := [(.mut, LI), (.ro, I), (.ro, I)]
abbrev slices_insertionSortOrdered_int_rs : List (Bool × Ty) := []
noncomputable def slices_insertionSortOrdered_int_G (N : Nat) : GTab := gOf [(183, cmp_Less_int_S N)]
theorem slices_insertionSortOrdered_int_gok (N : Nat) : GOk Try.prog (slices_insertionSortOrdered_int_G N) := gOf_ok ⟨cmp_Less_int_pc N, trivial⟩
noncomputable def slices_insertionSortOrdered_int_code : Code := (Try.f177.body).getD .skip
noncomputable def slices_insertionSortOrdered_int_l0_0_sh : Sh := ⟨[(0, .one (.ref 0)), (1, .one (.ro I)), (2, .one (.ro I)), (6, .one (.ro I)), (7, .one (.ro I))], [.sl 3 I .own]⟩
noncomputable def slices_insertionSortOrdered_int_l0_0_ex : List (Ex × Sh) := [(.exit 2, ⟨[(0, .one (.ref 0)), (1, .one (.ro I)), (2, .one (.ro I)), (6, .one (.ro I))], [.sl 3 I .own]⟩)]
noncomputable def slices_insertionSortOrdered_int_l0_0 {R : Type} (N : Nat) (k0 : Int → Int → Int → (List Int) → Option R) : Nat → Int → Int → Int → Int → (List Int) → Option R
  | 0, _, _, _, _, _ => none
  | K + 1, a2, b2, i1, j, o1 =>
    (br (ilt a2 j)
      ((chk (inb o1 j)
        (chk (inb o1 (IntKind.i64.wrap (j - 1)))
        ((cmp_Less_int N (rdI o1 j) (rdI o1 (IntKind.i64.wrap (j - 1)))).bind fun r =>
        (br r.1.1
          ((chk (inb o1 (IntKind.i64.wrap (j - 1)))
            (chk (inb o1 j)
            (chk (inb o1 j)
            (chk (inb (tSet o1 j (rdI o1 (IntKind.i64.wrap (j - 1)))) (IntKind.i64.wrap (j - 1)))
            (slices_insertionSortOrdered_int_l0_0 N k0 K a2 b2 i1 (IntKind.i64.wrap (j - 1)) (tSet (tSet o1 j (rdI o1 (IntKind.i64.wrap (j - 1)))) (IntKind.i64.wrap (j - 1)) (rdI o1 j))))))))
          (k0 a2 b2 i1 o1))))))
      (k0 a2 b2 i1 o1))
noncomputable def slices_insertionSortOrdered_int_l0_0_again {R : Type} (N : Nat) (ks : (j : Nat) → ((slices_insertionSortOrdered_int_l0_0_ex.getD j (.ret, Sh.none)).2).T → Option R) (k : Nat) (x : slices_insertionSortOrdered_int_l0_0_sh.T) : Option R :=
  slices_insertionSortOrdered_int_l0_0 N (fun y0 y1 y2 y3 => ks 0 (((), y0, y1, y2, ()), (y3, ()))) k x.1.2.1 x.1.2.2.1 x.1.2.2.2.1 x.1.2.2.2.2.1 x.2.1
noncomputable def slices_insertionSortOrdered_int_l0_0_s (N : Nat) : LSum := ⟨slices_insertionSortOrdered_int_l0_0_sh, slices_insertionSortOrdered_int_l0_0_ex, fun x ks => slices_insertionSortOrdered_int_l0_0_again N ks N x⟩
theorem slices_insertionSortOrdered_int_l0_0_step (N : Nat) (R : Type) (k : Nat) (x : slices_insertionSortOrdered_int_l0_0_sh.T) (ks : (j : Nat) → ((slices_insertionSortOrdered_int_l0_0_ex.getD j (.ret, Sh.none)).2).T → Option R) : slices_insertionSortOrdered_int_l0_0_again N ks (k + 1) x = roundF (slices_insertionSortOrdered_int_G N) tab [] (loopAt (loopAt slices_insertionSortOrdered_int_code 0) 0) slices_insertionSortOrdered_int_l0_0_sh slices_insertionSortOrdered_int_l0_0_ex (fun y => slices_insertionSortOrdered_int_l0_0_again N ks k y) ks x := by kernel_rfl
theorem slices_insertionSortOrdered_int_l0_0_ok (N : Nat) : LoopOk Try.prog Try.f177.ntmps (slices_insertionSortOrdered_int_l0_0_s N) (loopAt (loopAt slices_insertionSortOrdered_int_code 0) 0) :=
  loop_ok (l := slices_insertionSortOrdered_int_l0_0_s N) progOk (slices_insertionSortOrdered_int_gok N) (draw_ok progOk (slices_insertionSortOrdered_int_gok N)) (fun R k x ks => slices_insertionSortOrdered_int_l0_0_again N ks k x) (fun _ _ _ => rfl) (fun R k x ks => slices_insertionSortOrdered_int_l0_0_step N R k x ks) (fun R x ks r h => ⟨N, h⟩) (lsOk_at (L := []) trivial) (by kernel_rfl) (by kernel_rfl)
noncomputable def slices_insertionSortOrdered_int_l0_sh : Sh := ⟨[(0, .one (.ref 0)), (1, .one (.ro I)), (2, .one (.ro I)), (6, .one (.ro I))], [.sl 3 I .own]⟩
noncomputable def slices_insertionSortOrdered_int_l0_ex : List (Ex × Sh) := [(.exit 0, ⟨[(0, .one (.ref 0))], [.sl 3 I .own]⟩)]
noncomputable def slices_insertionSortOrdered_int_l0 {R : Type} (N : Nat) (k0 : (List Int) → Option R) : Nat → Int → Int → Int → (List Int) → Option R
  | 0, _, _, _, _ => none
  | K + 1, a1, b1, i, o =>
    (br (ilt i b1)
      (slices_insertionSortOrdered_int_l0_0 N (fun a2 b2 i1 o1 => slices_insertionSortOrdered_int_l0 N k0 K a2 b2 (IntKind.i64.wrap (i1 + 1)) o1) N a1 b1 i i o)
      (k0 o))
noncomputable def slices_insertionSortOrdered_int_l0_again {R : Type} (N : Nat) (ks : (j : Nat) → ((slices_insertionSortOrdered_int_l0_ex.getD j (.ret, Sh.none)).2).T → Option R) (k : Nat) (x : slices_insertionSortOrdered_int_l0_sh.T) : Option R :=
  slices_insertionSortOrdered_int_l0 N (fun y0 => ks 0 (((), ()), (y0, ()))) k x.1.2.1 x.1.2.2.1 x.1.2.2.2.1 x.2.1
noncomputable def slices_insertionSortOrdered_int_l0_s (N : Nat) : LSum := ⟨slices_insertionSortOrdered_int_l0_sh, slices_insertionSortOrdered_int_l0_ex, fun x ks => slices_insertionSortOrdered_int_l0_again N ks N x⟩
theorem slices_insertionSortOrdered_int_l0_step (N : Nat) (R : Type) (k : Nat) (x : slices_insertionSortOrdered_int_l0_sh.T) (ks : (j : Nat) → ((slices_insertionSortOrdered_int_l0_ex.getD j (.ret, Sh.none)).2).T → Option R) : slices_insertionSortOrdered_int_l0_again N ks (k + 1) x = roundF (slices_insertionSortOrdered_int_G N) tab [slices_insertionSortOrdered_int_l0_0_s N] (loopAt slices_insertionSortOrdered_int_code 0) slices_insertionSortOrdered_int_l0_sh slices_insertionSortOrdered_int_l0_ex (fun y => slices_insertionSortOrdered_int_l0_again N ks k y) ks x := by kernel_rfl
theorem slices_insertionSortOrdered_int_l0_ok (N : Nat) : LoopOk Try.prog Try.f177.ntmps (slices_insertionSortOrdered_int_l0_s N) (loopAt slices_insertionSortOrdered_int_code 0) :=
  loop_ok (l := slices_insertionSortOrdered_int_l0_s N) progOk (slices_insertionSortOrdered_int_gok N) (draw_ok progOk (slices_insertionSortOrdered_int_gok N)) (fun R k x ks => slices_insertionSortOrdered_int_l0_again N ks k x) (fun _ _ _ => rfl) (fun R k x ks => slices_insertionSortOrdered_int_l0_step N R k x ks) (fun R x ks r h => ⟨N, h⟩) (lsOk_at (L := [slices_insertionSortOrdered_int_l0_0_s N]) ⟨slices_insertionSortOrdered_int_l0_0_ok N, trivial⟩) (by kernel_rfl) (by kernel_rfl)
noncomputable def slices_insertionSortOrdered_int (N : Nat) (data : (List Int)) (a : Int) (b : Int) : Option ((Unit) × ((List Int) × Unit)) :=
  slices_insertionSortOrdered_int_l0 N (fun o => some ((), (o, ()))) N a b (IntKind.i64.wrap (a + 1)) data
noncomputable def slices_insertionSortOrdered_int_S (N : Nat) : FSum := ⟨slices_insertionSortOrdered_int_ps, slices_insertionSortOrdered_int_rs, fun x => slices_insertionSortOrdered_int N x.1 x.2.1 x.2.2.1⟩
theorem slices_insertionSortOrdered_int_run (N : Nat) (x : argsT slices_insertionSortOrdered_int_ps) : slices_insertionSortOrdered_int N x.1 x.2.1 x.2.2.1 = funF (slices_insertionSortOrdered_int_G N) tab [slices_insertionSortOrdered_int_l0_s N] Try.f177 slices_insertionSortOrdered_int_ps slices_insertionSortOrdered_int_rs x := by kernel_rfl
theorem slices_insertionSortOrdered_int_pc (N : Nat) : PC Try.prog 177 (slices_insertionSortOrdered_int_S N) := by
  have e : slices_insertionSortOrdered_int_S N = ⟨slices_insertionSortOrdered_int_ps, slices_insertionSortOrdered_int_rs, funF (slices_insertionSortOrdered_int_G N) tab [slices_insertionSortOrdered_int_l0_s N] Try.f177 slices_insertionSortOrdered_int_ps slices_insertionSortOrdered_int_rs⟩ := congrArg (FSum.mk slices_insertionSortOrdered_int_ps slices_insertionSortOrdered_int_rs) (funext (slices_insertionSortOrdered_int_run N))
  rw [e]
  exact fun_ok (c := slices_insertionSortOrdered_int_code) progOk (slices_insertionSortOrdered_int_gok N) (draw_ok progOk (slices_insertionSortOrdered_int_gok N)) Try.call177 Try.func177 (by kernel_rfl) (lsOk_at (L := [slices_insertionSortOrdered_int_l0_s N]) ⟨slices_insertionSortOrdered_int_l0_ok N, trivial⟩) (by kernel_rfl) (by kernel_rfl) (by kernel_rfl) (by kernel_rfl) (by kernel_rfl)

/-! ### slices_pdqsortOrdered_int -/
abbrev slices_pdqsortOrdered_int_ps : List (PV.Mode × Ty) := [(.mut, LI), (.ro, I), (.ro, I), (.ro, I)]
abbrev slices_pdqsortOrdered_int_rs : List (Bool × Ty) := []
noncomputable def slices_pdqsortOrdered_int_G (N : Nat) : GTab := gOf [(177, slices_insertionSortOrdered_int_S N)]
theorem slices_pdqsortOrdered_int_gok (N : Nat) : GOk Try.prog (slices_pdqsortOrdered_int_G N) := gOf_ok ⟨slices_insertionSortOrdered_int_pc N, trivial⟩
noncomputable def slices_pdqsortOrdered_int_code : Code := (Try.f160.body).getD .skip
noncomputable def slices_pdqsortOrdered_int_l0_sh : Sh := ⟨[(0, .one (.ref 0)), (1, .one (.ro I)), (2, .one (.ro I)), (3, .one (.ro I)), (8, .one (.ro .bool)), (9, .one (.ro .bool))], [.sl 3 I .own]⟩
noncomputable def slices_pdqsortOrdered_int_l0_ex : List (Ex × Sh) := [(.ret, ⟨[(0, .one (.ref 0))], [.sl 3 I .own]⟩)]
noncomputable def slices_pdqsortOrdered_int_l0 {R : Type} (N : Nat) (k0 : (List Int) → Option R) : Nat → Int → Int → Int → Bool → Bool → (List Int) → Option R
  | 0, _, _, _, _, _, _ => none
  | K + 1, x, x1, x2, x3, x4, o =>
    (br (ile (IntKind.i64.wrap (x1 - x)) 12)
      (((slices_insertionSortOrdered_int N o x x1).bind fun r =>
        k0 r.2.1))
      ((br (ieq x2 0)
        (none)
        ((br (!x3)
          (none)
          (none))))))
noncomputable def slices_pdqsortOrdered_int_l0_again {R : Type} (N : Nat) (ks : (j : Nat) → ((slices_pdqsortOrdered_int_l0_ex.getD j (.ret, Sh.none)).2).T → Option R) (k : Nat) (x : slices_pdqsortOrdered_int_l0_sh.T) : Option R :=
  slices_pdqsortOrdered_int_l0 N (fun y0 => ks 0 (((), ()), (y0, ()))) k x.1.2.1 x.1.2.2.1 x.1.2.2.2.1 x.1.2.2.2.2.1 x.1.2.2.2.2.2.1 x.2.1
noncomputable def slices_pdqsortOrdered_int_l0_s (N : Nat) : LSum := ⟨slices_pdqsortOrdered_int_l0_sh, slices_pdqsortOrdered_int_l0_ex, fun x ks => slices_pdqsortOrdered_int_l0_again N ks N x⟩
theorem slices_pdqsortOrdered_int_l0_step (N : Nat) (R : Type) (k : Nat) (x : slices_pdqsortOrdered_int_l0_sh.T) (ks : (j : Nat) → ((slices_pdqsortOrdered_int_l0_ex.getD j (.ret, Sh.none)).2).T → Option R) : slices_pdqsortOrdered_int_l0_again N ks (k + 1) x = roundF (slices_pdqsortOrdered_int_G N) tab [] (loopAt slices_pdqsortOrdered_int_code 0) slices_pdqsortOrdered_int_l0_sh slices_pdqsortOrdered_int_l0_ex (fun y => slices_pdqsortOrdered_int_l0_again N ks k y) ks x := by kernel_rfl
theorem slices_pdqsortOrdered_int_l0_ok (N : Nat) : LoopOk Try.prog Try.f160.ntmps (slices_pdqsortOrdered_int_l0_s N) (loopAt slices_pdqsortOrdered_int_code 0) :=
  loop_ok (l := slices_pdqsortOrdered_int_l0_s N) progOk (slices_pdqsortOrdered_int_gok N) (draw_ok progOk (slices_pdqsortOrdered_int_gok N)) (fun R k x ks => slices_pdqsortOrdered_int_l0_again N ks k x) (fun _ _ _ => rfl) (fun R k x ks => slices_pdqsortOrdered_int_l0_step N R k x ks) (fun R x ks r h => ⟨N, h⟩) (lsOk_at (L := []) trivial) (by kernel_rfl) (by kernel_rfl)
noncomputable def slices_pdqsortOrdered_int (N : Nat) (c : (List Int)) (c1 : Int) (c2 : Int) (c3 : Int) : Option ((Unit) × ((List Int) × Unit)) :=
  slices_pdqsortOrdered_int_l0 N (fun o => some ((), (o, ()))) N c1 c2 c3 true true c
noncomputable def slices_pdqsortOrdered_int_S (N : Nat) : FSum := ⟨slices_pdqsortOrdered_int_ps, slices_pdqsortOrdered_int_rs, fun x => slices_pdqsortOrdered_int N x.1 x.2.1 x.2.2.1 x.2.2.2.1⟩
theorem slices_pdqsortOrdered_int_run (N : Nat) (x : argsT slices_pdqsortOrdered_int_ps) : slices_pdqsortOrdered_int N x.1 x.2.1 x.2.2.1 x.2.2.2.1 = funF (slices_pdqsortOrdered_int_G N) tab [slices_pdqsortOrdered_int_l0_s N] Try.f160 slices_pdqsortOrdered_int_ps slices_pdqsortOrdered_int_rs x := by kernel_rfl
theorem slices_pdqsortOrdered_int_pc (N : Nat) : PC Try.prog 160 (slices_pdqsortOrdered_int_S N) := by
  have e : slices_pdqsortOrdered_int_S N = ⟨slices_pdqsortOrdered_int_ps, slices_pdqsortOrdered_int_rs, funF (slices_pdqsortOrdered_int_G N) tab [slices_pdqsortOrdered_int_l0_s N] Try.f160 slices_pdqsortOrdered_int_ps slices_pdqsortOrdered_int_rs⟩ := congrArg (FSum.mk slices_pdqsortOrdered_int_ps slices_pdqsortOrdered_int_rs) (funext (slices_pdqsortOrdered_int_run N))
  rw [e]
  exact fun_ok (c := slices_pdqsortOrdered_int_code) progOk (slices_pdqsortOrdered_int_gok N) (draw_ok progOk (slices_pdqsortOrdered_int_gok N)) Try.call160 Try.func160 (by kernel_rfl) (lsOk_at (L := [slices_pdqsortOrdered_int_l0_s N]) ⟨slices_pdqsortOrdered_int_l0_ok N, trivial⟩) (by kernel_rfl) (by kernel_rfl) (by kernel_rfl) (by kernel_rfl) (by kernel_rfl)

/-! ### slices_Sort_LI_int -/
abbrev slices_Sort_LI_int_ps : List (PV.Mode × Ty) := [(.mut, LI)]
abbrev slices_Sort_LI_int_rs : List (Bool × Ty) := []
noncomputable def slices_Sort_LI_int_G (N : Nat) : GTab := gOf [(161, math_bits_Len_S N), (160, slices_pdqsortOrdered_int_S N)]
theorem slices_Sort_LI_int_gok (N : Nat) : GOk Try.prog (slices_Sort_LI_int_G N) := gOf_ok ⟨math_bits_Len_pc N, slices_pdqsortOrdered_int_pc N, trivial⟩
noncomputable def slices_Sort_LI_int_code : Code := (Try.f119.body).getD .skip
noncomputable def slices_Sort_LI_int (N : Nat) (x : (List Int)) : Option ((Unit) × ((List Int) × Unit)) :=
  ((math_bits_Len N (IntKind.u64.wrap ((tLen x)))).bind fun r =>
    ((slices_pdqsortOrdered_int N x 0 (tLen x) r.1.1).bind fun r1 =>
      some ((), (r1.2.1, ()))))
noncomputable def slices_Sort_LI_int_S (N : Nat) : FSum := ⟨slices_Sort_LI_int_ps, slices_Sort_LI_int_rs, fun x => slices_Sort_LI_int N x.1⟩
theorem slices_Sort_LI_int_run (N : Nat) (x : argsT slices_Sort_LI_int_ps) : slices_Sort_LI_int N x.1 = funF (slices_Sort_LI_int_G N) tab [] Try.f119 slices_Sort_LI_int_ps slices_Sort_LI_int_rs x := by kernel_rfl
theorem slices_Sort_LI_int_pc (N : Nat) : PC Try.prog 119 (slices_Sort_LI_int_S N) := by
  have e : slices_Sort_LI_int_S N = ⟨slices_Sort_LI_int_ps, slices_Sort_LI_int_rs, funF (slices_Sort_LI_int_G N) tab [] Try.f119 slices_Sort_LI_int_ps slices_Sort_LI_int_rs⟩ := congrArg (FSum.mk slices_Sort_LI_int_ps slices_Sort_LI_int_rs) (funext (slices_Sort_LI_int_run N))
  rw [e]
  exact fun_ok (c := slices_Sort_LI_int_code) progOk (slices_Sort_LI_int_gok N) (draw_ok progOk (slices_Sort_LI_int_gok N)) Try.call119 Try.func119 (by kernel_rfl) (lsOk_at (L := []) trivial) (by kernel_rfl) (by kernel_rfl) (by kernel_rfl) (by kernel_rfl) (by kernel_rfl)

/-! ### impl_formulaOf -/
abbrev impl_formulaOf_ps : List (PV.Mode × Ty) := [(.ro, I), (.ro, LLI)]
abbrev impl_formulaOf_rs : List (Bool × Ty) := [(true, QILLI)]
noncomputable def impl_formulaOf_G (N : Nat) : GTab := gOf [(132, impl_assignments_S N), (133, impl_formulaOf_c1_S N), (65, slices_ContainsFunc_LLI_LI_S N), (134, impl_formulaOf_c2_S N), (119, slices_Sort_LI_int_S N)]
theorem impl_formulaOf_gok (N : Nat) : GOk Try.prog (impl_formulaOf_G N) := gOf_ok ⟨impl_assignments_pc N, impl_formulaOf_c1_pc N, slices_ContainsFunc_LLI_LI_pc N, impl_formulaOf_c2_pc N, slices_Sort_LI_int_pc N, trivial⟩
noncomputable def impl_formulaOf_code : Code := (Try.f68.body).getD .skip
noncomputable def impl_formulaOf_l0_0_sh : Sh := ⟨[(1, .one (.ro LLI)), (4, .one (.adr 0 0)), (5, .one (.adr 1 0)), (8, .one (.ref 2)), (14, .one (.ro LLI)), (15, .one (.ro I)), (16, .one (.ro I)), (24, .one (.ro LI)), (25, .one (.ro I)), (26, .one (.ro I))], [.box [.ro I, .nilsl], .box [.ro I, .ref 3], .sl 3 I .own, .sl 33 LI .deep]⟩
noncomputable def impl_formulaOf_l0_0_ex : List (Ex × Sh) := [(.exit 2, ⟨[(1, .one (.ro LLI)), (4, .one (.adr 0 0)), (5, .one (.adr 1 0)), (8, .one (.ref 2)), (14, .one (.ro LLI)), (15, .one (.ro I)), (16, .one (.ro I))], [.box [.ro I, .nilsl], .box [.ro I, .ref 3], .sl 3 I .own, .sl 33 LI .deep]⟩)]
noncomputable def impl_formulaOf_l0_0 {R : Type} (N : Nat) (k0 : (List (List Int)) → (List (List Int)) → Int → Int → Int → Int → (List Int) → (List (List Int)) → Option R) : Nat → (List (List Int)) → (List (List Int)) → Int → Int → (List Int) → Int → Int → Int → Int → (List Int) → (List (List Int)) → Option R
  | 0, _, _, _, _, _, _, _, _, _, _, _ => none
  | K + 1, solutions2, x3, x4, x5, x6, x7, x8, o3, o4, o5, o6 =>
    (br (ilt x8 x7)
      ((chk (inb x6 x8)
        (br (ieq (rdI x6 x8) 1)
        ((chk (room o5 [(IntKind.i64.wrap ((-1) - x8))])
          (impl_formulaOf_l0_0 N k0 K solutions2 x3 x4 x5 x6 x7 (IntKind.i64.wrap (x8 + 1)) o3 o4 (tApp o5 [(IntKind.i64.wrap ((-1) - x8))]) o6)))
        ((chk (room o5 [(IntKind.i64.wrap (x8 + 1))])
          (impl_formulaOf_l0_0 N k0 K solutions2 x3 x4 x5 x6 x7 (IntKind.i64.wrap (x8 + 1)) o3 o4 (tApp o5 [(IntKind.i64.wrap (x8 + 1))]) o6))))))
      (k0 solutions2 x3 x4 x5 o3 o4 o5 o6))
noncomputable def impl_formulaOf_l0_0_again {R : Type} (N : Nat) (ks : (j : Nat) → ((impl_formulaOf_l0_0_ex.getD j (.ret, Sh.none)).2).T → Option R) (k : Nat) (x : impl_formulaOf_l0_0_sh.T) : Option R :=
  impl_formulaOf_l0_0 N (fun y0 y1 y2 y3 y4 y5 y6 y7 => ks 0 ((y0, (), (), (), y1, y2, y3, ()), ((y4, (), ()), (y5, (), ()), y6, y7, ()))) k x.1.1 x.1.2.2.2.2.1 x.1.2.2.2.2.2.1 x.1.2.2.2.2.2.2.1 x.1.2.2.2.2.2.2.2.1 x.1.2.2.2.2.2.2.2.2.1 x.1.2.2.2.2.2.2.2.2.2.1 x.2.1.1 x.2.2.1.1 x.2.2.2.1 x.2.2.2.2.1
noncomputable def impl_formulaOf_l0_0_s (N : Nat) : LSum := ⟨impl_formulaOf_l0_0_sh, impl_formulaOf_l0_0_ex, fun x ks => impl_formulaOf_l0_0_again N ks N x⟩
theorem impl_formulaOf_l0_0_step (N : Nat) (R : Type) (k : Nat) (x : impl_formulaOf_l0_0_sh.T) (ks : (j : Nat) → ((impl_formulaOf_l0_0_ex.getD j (.ret, Sh.none)).2).T → Option R) : impl_formulaOf_l0_0_again N ks (k + 1) x = roundF (impl_formulaOf_G N) tab [] (loopAt (loopAt impl_formulaOf_code 0) 0) impl_formulaOf_l0_0_sh impl_formulaOf_l0_0_ex (fun y => impl_formulaOf_l0_0_again N ks k y) ks x := by kernel_rfl
theorem impl_formulaOf_l0_0_ok (N : Nat) : LoopOk Try.prog Try.f68.ntmps (impl_formulaOf_l0_0_s N) (loopAt (loopAt impl_formulaOf_code 0) 0) :=
  loop_ok (l := impl_formulaOf_l0_0_s N) progOk (impl_formulaOf_gok N) (draw_ok progOk (impl_formulaOf_gok N)) (fun R k x ks => impl_formulaOf_l0_0_again N ks k x) (fun _ _ _ => rfl) (fun R k x ks => impl_formulaOf_l0_0_step N R k x ks) (fun R x ks r h => ⟨N, h⟩) (lsOk_at (L := []) trivial) (by kernel_rfl) (by kernel_rfl)
noncomputable def impl_formulaOf_l0_sh : Sh := ⟨[(1, .one (.ro LLI)), (4, .one (.adr 0 0)), (5, .one (.adr 1 0)), (14, .one (.ro LLI)), (15, .one (.ro I)), (16, .one (.ro I))], [.box [.ro I, .nilsl], .box [.ro I, .ref 2], .sl 33 LI .deep]⟩
noncomputable def impl_formulaOf_l0_ex : List (Ex × Sh) := [(.exit 0, ⟨[(4, .one (.adr 0 0)), (5, .one (.adr 1 0))], [.box [.ro I, .nilsl], .box [.ro I, .ref 2], .sl 33 LI .deep]⟩)]
noncomputable def impl_formulaOf_l0 {R : Type} (N : Nat) (k0 : Int → Int → (List (List Int)) → Option R) : Nat → (List (List Int)) → (List (List Int)) → Int → Int → Int → Int → (List (List Int)) → Option R
  | 0, _, _, _, _, _, _, _ => none
  | K + 1, solutions1, x, x1, x2, o, o1, o2 =>
    (br (ilt x2 x1)
      ((chk (inb x x2)
        ((slices_ContainsFunc_LLI_LI N solutions1 (fun y0 => (impl_formulaOf_c2 N y0 (rdL x x2)).bind fun z => some z.1.1)).bind fun r1 =>
        (br r1.1.1
          (impl_formulaOf_l0 N k0 K solutions1 x x1 (IntKind.i64.wrap (x2 + 1)) o o1 o2)
          (impl_formulaOf_l0_0 N (fun solutions2 x3 x4 x5 o3 o4 o5 o6 => ((slices_Sort_LI_int N o5).bind fun r2 =>
            (chk (room o6 [r2.2.1])
              (impl_formulaOf_l0 N k0 K solutions2 x3 x4 (IntKind.i64.wrap (x5 + 1)) o3 o4 (tApp o6 [r2.2.1]))))) N solutions1 x x1 x2 (rdL x x2) (tLen (rdL x x2)) 0 o o1 [] o2)))))
      (k0 o o1 o2))
noncomputable def impl_formulaOf_l0_again {R : Type} (N : Nat) (ks : (j : Nat) → ((impl_formulaOf_l0_ex.getD j (.ret, Sh.none)).2).T → Option R) (k : Nat) (x : impl_formulaOf_l0_sh.T) : Option R :=
  impl_formulaOf_l0 N (fun y0 y1 y2 => ks 0 (((), (), ()), ((y0, (), ()), (y1, (), ()), y2, ()))) k x.1.1 x.1.2.2.2.1 x.1.2.2.2.2.1 x.1.2.2.2.2.2.1 x.2.1.1 x.2.2.1.1 x.2.2.2.1
noncomputable def impl_formulaOf_l0_s (N : Nat) : LSum := ⟨impl_formulaOf_l0_sh, impl_formulaOf_l0_ex, fun x ks => impl_formulaOf_l0_again N ks N x⟩
theorem impl_formulaOf_l0_step (N : Nat) (R : Type) (k : Nat) (x : impl_formulaOf_l0_sh.T) (ks : (j : Nat) → ((impl_formulaOf_l0_ex.getD j (.ret, Sh.none)).2).T → Option R) : impl_formulaOf_l0_again N ks (k + 1) x = roundF (impl_formulaOf_G N) tab [impl_formulaOf_l0_0_s N] (loopAt impl_formulaOf_code 0) impl_formulaOf_l0_sh impl_formulaOf_l0_ex (fun y => impl_formulaOf_l0_again N ks k y) ks x := by kernel_rfl
theorem impl_formulaOf_l0_ok (N : Nat) : LoopOk Try.prog Try.f68.ntmps (impl_formulaOf_l0_s N) (loopAt impl_formulaOf_code 0) :=
  loop_ok (l := impl_formulaOf_l0_s N) progOk (impl_formulaOf_gok N) (draw_ok progOk (impl_formulaOf_gok N)) (fun R k x ks => impl_formulaOf_l0_again N ks k x) (fun _ _ _ => rfl) (fun R k x ks => impl_formulaOf_l0_step N R k x ks) (fun R x ks r h => ⟨N, h⟩) (lsOk_at (L := [impl_formulaOf_l0_0_s N]) ⟨impl_formulaOf_l0_0_ok N, trivial⟩) (by kernel_rfl) (by kernel_rfl)
noncomputable def impl_formulaOf (N : Nat) (vars : Int) (solutions : (List (List Int))) : Option (((Int × (List (List Int))) × Unit) × (Unit)) :=
  ((impl_assignments N vars (fun y0 => (impl_formulaOf_c1 N y0).bind fun z => some z.1.1)).bind fun r =>
    impl_formulaOf_l0 N (fun o o1 o2 => some (((o1, o2), ()), ())) N solutions r.1.1 (tLen r.1.1) 0 0 vars [])
noncomputable def impl_formulaOf_S (N : Nat) : FSum := ⟨impl_formulaOf_ps, impl_formulaOf_rs, fun x => impl_formulaOf N x.1 x.2.1⟩
theorem impl_formulaOf_run (N : Nat) (x : argsT impl_formulaOf_ps) : impl_formulaOf N x.1 x.2.1 = funF (impl_formulaOf_G N) tab [impl_formulaOf_l0_s N] Try.f68 impl_formulaOf_ps impl_formulaOf_rs x := by kernel_rfl
theorem impl_formulaOf_pc (N : Nat) : PC Try.prog 68 (impl_formulaOf_S N) := by
  have e : impl_formulaOf_S N = ⟨impl_formulaOf_ps, impl_formulaOf_rs, funF (impl_formulaOf_G N) tab [impl_formulaOf_l0_s N] Try.f68 impl_formulaOf_ps impl_formulaOf_rs⟩ := congrArg (FSum.mk impl_formulaOf_ps impl_formulaOf_rs) (funext (impl_formulaOf_run N))
  rw [e]
  exact fun_ok (c := impl_formulaOf_code) progOk (impl_formulaOf_gok N) (draw_ok progOk (impl_formulaOf_gok N)) Try.call68 Try.func68 (by kernel_rfl) (lsOk_at (L := [impl_formulaOf_l0_s N]) ⟨impl_formulaOf_l0_ok N, trivial⟩) (by kernel_rfl) (by kernel_rfl) (by kernel_rfl) (by kernel_rfl) (by kernel_rfl)

/-! ### impl_ParityFormula -/
abbrev impl_ParityFormula_ps : List (PV.Mode × Ty) := [(.ro, QIQLLILI)]
abbrev impl_ParityFormula_rs : List (Bool × Ty) := [(true, QILLI), (true, .bool)]
noncomputable def impl_ParityFormula_G (N : Nat) : GTab := gOf [(72, impl_IsParity_S N), (73, impl_Parity_solutions_S N), (68, impl_formulaOf_S N)]
theorem impl_ParityFormula_gok (N : Nat) : GOk Try.prog (impl_ParityFormula_G N) := gOf_ok ⟨impl_IsParity_pc N, impl_Parity_solutions_pc N, impl_formulaOf_pc N, trivial⟩
noncomputable def impl_ParityFormula_code : Code := (Try.f27.body).getD .skip
noncomputable def impl_ParityFormula (N : Nat) (p : (Int × ((List (List Int)) × (List Int)))) : Option (((Int × (List (List Int))) × Bool × Unit) × (Unit)) :=
  ((impl_IsParity N (p.1, (p.2.1, p.2.2))).bind fun r =>
    (br (!r.1.1)
      (some (((0, []), false, ()), ()))
      (((impl_Parity_solutions N (p.1, (p.2.1, p.2.2))).bind fun r1 =>
        ((impl_formulaOf N p.1 r1.1.1).bind fun r2 =>
          some (((r2.1.1.1, r2.1.1.2), true, ()), ()))))))
noncomputable def impl_ParityFormula_S (N : Nat) : FSum := ⟨impl_ParityFormula_ps, impl_ParityFormula_rs, fun x => impl_ParityFormula N x.1⟩
theorem impl_ParityFormula_run (N : Nat) (x : argsT impl_ParityFormula_ps) : impl_ParityFormula N x.1 = funF (impl_ParityFormula_G N) tab [] Try.f27 impl_ParityFormula_ps impl_ParityFormula_rs x := by kernel_rfl
theorem impl_ParityFormula_pc (N : Nat) : PC Try.prog 27 (impl_ParityFormula_S N) := by
  have e : impl_ParityFormula_S N = ⟨impl_ParityFormula_ps, impl_ParityFormula_rs, funF (impl_ParityFormula_G N) tab [] Try.f27 impl_ParityFormula_ps impl_ParityFormula_rs⟩ := congrArg (FSum.mk impl_ParityFormula_ps impl_ParityFormula_rs) (funext (impl_ParityFormula_run N))
  rw [e]
  exact fun_ok (c := impl_ParityFormula_code) progOk (impl_ParityFormula_gok N) (draw_ok progOk (impl_ParityFormula_gok N)) Try.call27 Try.func27 (by kernel_rfl) (lsOk_at (L := []) trivial) (by kernel_rfl) (by kernel_rfl) (by kernel_rfl) (by kernel_rfl) (by kernel_rfl)

/-! ### laws_eqIntS -/
abbrev laws_eqIntS_ps : List (PV.Mode × Ty) := [(.ro, LI), (.ro, LI)]
abbrev laws_eqIntS_rs : List (Bool × Ty) := [(true, .bool)]
noncomputable def laws_eqIntS_G (N : Nat) : GTab := gOf []
theorem laws_eqIntS_gok (N : Nat) : GOk Try.prog (laws_eqIntS_G N) := gOf_ok trivial
noncomputable def laws_eqIntS_code : Code := (Try.f35.body).getD .skip
noncomputable def laws_eqIntS_l0_sh : Sh := ⟨[(0, .one (.ro LI)), (1, .one (.ro LI)), (5, .one (.ro I))], []⟩
noncomputable def laws_eqIntS_l0_ex : List (Ex × Sh) := [(.ret, ⟨[(4, .one (.ro .bool))], []⟩), (.exit 0, ⟨[], []⟩)]
noncomputable def laws_eqIntS_l0 {R : Type} (N : Nat) (k0 : Bool → Option R) (k1 : Unit → Option R) : Nat → (List Int) → (List Int) → Int → Option R
  | 0, _, _, _ => none
  | K + 1, a1, b1, i =>
    (br (ilt i (tLen a1))
      ((chk (inb a1 i)
        (chk (inb b1 i)
        (br (ine (rdI a1 i) (rdI b1 i))
        (k0 false)
        (laws_eqIntS_l0 N k0 k1 K a1 b1 (IntKind.i64.wrap (i + 1)))))))
      (k1 ()))
noncomputable def laws_eqIntS_l0_again {R : Type} (N : Nat) (ks : (j : Nat) → ((laws_eqIntS_l0_ex.getD j (.ret, Sh.none)).2).T → Option R) (k : Nat) (x : laws_eqIntS_l0_sh.T) : Option R :=
  laws_eqIntS_l0 N (fun y0 => ks 0 ((y0, ()), ())) (fun (_ : Unit) => ks 1 ((), ())) k x.1.1 x.1.2.1 x.1.2.2.1
noncomputable def laws_eqIntS_l0_s (N : Nat) : LSum := ⟨laws_eqIntS_l0_sh, laws_eqIntS_l0_ex, fun x ks => laws_eqIntS_l0_again N ks N x⟩
theorem laws_eqIntS_l0_step (N : Nat) (R : Type) (k : Nat) (x : laws_eqIntS_l0_sh.T) (ks : (j : Nat) → ((laws_eqIntS_l0_ex.getD j (.ret, Sh.none)).2).T → Option R) : laws_eqIntS_l0_again N ks (k + 1) x = roundF (laws_eqIntS_G N) tab [] (loopAt laws_eqIntS_code 0) laws_eqIntS_l0_sh laws_eqIntS_l0_ex (fun y => laws_eqIntS_l0_again N ks k y) ks x := by kernel_rfl
theorem laws_eqIntS_l0_ok (N : Nat) : LoopOk Try.prog Try.f35.ntmps (laws_eqIntS_l0_s N) (loopAt laws_eqIntS_code 0) :=
  loop_ok (l := laws_eqIntS_l0_s N) progOk (laws_eqIntS_gok N) (draw_ok progOk (laws_eqIntS_gok N)) (fun R k x ks => laws_eqIntS_l0_again N ks k x) (fun _ _ _ => rfl) (fun R k x ks => laws_eqIntS_l0_step N R k x ks) (fun R x ks r h => ⟨N, h⟩) (lsOk_at (L := []) trivial) (by kernel_rfl) (by kernel_rfl)
noncomputable def laws_eqIntS (N : Nat) (a : (List Int)) (b : (List Int)) : Option ((Bool × Unit) × (Unit)) :=
  (br (ine (tLen a) (tLen b))
    (some ((false, ()), ()))
    (laws_eqIntS_l0 N (fun x => some ((x, ()), ())) (fun (_ : Unit) => some ((true, ()), ())) N a b 0))
noncomputable def laws_eqIntS_S (N : Nat) : FSum := ⟨laws_eqIntS_ps, laws_eqIntS_rs, fun x => laws_eqIntS N x.1 x.2.1⟩
theorem laws_eqIntS_run (N : Nat) (x : argsT laws_eqIntS_ps) : laws_eqIntS N x.1 x.2.1 = funF (laws_eqIntS_G N) tab [laws_eqIntS_l0_s N] Try.f35 laws_eqIntS_ps laws_eqIntS_rs x := by kernel_rfl
theorem laws_eqIntS_pc (N : Nat) : PC Try.prog 35 (laws_eqIntS_S N) := by
  have e : laws_eqIntS_S N = ⟨laws_eqIntS_ps, laws_eqIntS_rs, funF (laws_eqIntS_G N) tab [laws_eqIntS_l0_s N] Try.f35 laws_eqIntS_ps laws_eqIntS_rs⟩ := congrArg (FSum.mk laws_eqIntS_ps laws_eqIntS_rs) (funext (laws_eqIntS_run N))
  rw [e]
  exact fun_ok (c := laws_eqIntS_code) progOk (laws_eqIntS_gok N) (draw_ok progOk (laws_eqIntS_gok N)) Try.call35 Try.func35 (by kernel_rfl) (lsOk_at (L := [laws_eqIntS_l0_s N]) ⟨laws_eqIntS_l0_ok N, trivial⟩) (by kernel_rfl) (by kernel_rfl) (by kernel_rfl) (by kernel_rfl) (by kernel_rfl)

/-! ### laws_eqIntSS -/
abbrev laws_eqIntSS_ps : List (PV.Mode × Ty) := [(.ro, LLI), (.ro, LLI)]
abbrev laws_eqIntSS_rs : List (Bool × Ty) := [(true, .bool)]
noncomputable def laws_eqIntSS_G (N : Nat) : GTab := gOf [(35, laws_eqIntS_S N)]
theorem laws_eqIntSS_gok (N : Nat) : GOk Try.prog (laws_eqIntSS_G N) := gOf_ok ⟨laws_eqIntS_pc N, trivial⟩
noncomputable def laws_eqIntSS_code : Code := (Try.f20.body).getD .skip
noncomputable def laws_eqIntSS_l0_sh : Sh := ⟨[(0, .one (.ro LLI)), (1, .one (.ro LLI)), (5, .one (.ro I))], []⟩
noncomputable def laws_eqIntSS_l0_ex : List (Ex × Sh) := [(.ret, ⟨[(4, .one (.ro .bool))], []⟩), (.exit 0, ⟨[], []⟩)]
noncomputable def laws_eqIntSS_l0 {R : Type} (N : Nat) (k0 : Bool → Option R) (k1 : Unit → Option R) : Nat → (List (List Int)) → (List (List Int)) → Int → Option R
  | 0, _, _, _ => none
  | K + 1, a1, b1, i =>
    (br (ilt i (tLen a1))
      ((chk (inb a1 i)
        (chk (inb b1 i)
        ((laws_eqIntS N (rdL a1 i) (rdL b1 i)).bind fun r =>
        (br (!r.1.1)
          (k0 false)
          (laws_eqIntSS_l0 N k0 k1 K a1 b1 (IntKind.i64.wrap (i + 1))))))))
      (k1 ()))
noncomputable def laws_eqIntSS_l0_again {R : Type} (N : Nat) (ks : (j : Nat) → ((laws_eqIntSS_l0_ex.getD j (.ret, Sh.none)).2).T → Option R) (k : Nat) (x : laws_eqIntSS_l0_sh.T) : Option R :=
  laws_eqIntSS_l0 N (fun y0 => ks 0 ((y0, ()), ())) (fun (_ : Unit) => ks 1 ((), ())) k x.1.1 x.1.2.1 x.1.2.2.1
noncomputable def laws_eqIntSS_l0_s (N : Nat) : LSum := ⟨laws_eqIntSS_l0_sh, laws_eqIntSS_l0_ex, fun x ks => laws_eqIntSS_l0_again N ks N x⟩
theorem laws_eqIntSS_l0_step (N : Nat) (R : Type) (k : Nat) (x : laws_eqIntSS_l0_sh.T) (ks : (j : Nat) → ((laws_eqIntSS_l0_ex.getD j (.ret, Sh.none)).2).T → Option R) : laws_eqIntSS_l0_again N ks (k + 1) x = roundF (laws_eqIntSS_G N) tab [] (loopAt laws_eqIntSS_code 0) laws_eqIntSS_l0_sh laws_eqIntSS_l0_ex (fun y => laws_eqIntSS_l0_again N ks k y) ks x := by kernel_rfl
theorem laws_eqIntSS_l0_ok (N : Nat) : LoopOk Try.prog Try.f20.ntmps (laws_eqIntSS_l0_s N) (loopAt laws_eqIntSS_code 0) :=
  loop_ok (l := laws_eqIntSS_l0_s N) progOk (laws_eqIntSS_gok N) (draw_ok progOk (laws_eqIntSS_gok N)) (fun R k x ks => laws_eqIntSS_l0_again N ks k x) (fun _ _ _ => rfl) (fun R k x ks => laws_eqIntSS_l0_step N R k x ks) (fun R x ks r h => ⟨N, h⟩) (lsOk_at (L := []) trivial) (by kernel_rfl) (by kernel_rfl)
noncomputable def laws_eqIntSS (N : Nat) (a : (List (List Int))) (b : (List (List Int))) : Option ((Bool × Unit) × (Unit)) :=
  (br (ine (tLen a) (tLen b))
    (some ((false, ()), ()))
    (laws_eqIntSS_l0 N (fun x => some ((x, ()), ())) (fun (_ : Unit) => some ((true, ()), ())) N a b 0))
noncomputable def laws_eqIntSS_S (N : Nat) : FSum := ⟨laws_eqIntSS_ps, laws_eqIntSS_rs, fun x => laws_eqIntSS N x.1 x.2.1⟩
theorem laws_eqIntSS_run (N : Nat) (x : argsT laws_eqIntSS_ps) : laws_eqIntSS N x.1 x.2.1 = funF (laws_eqIntSS_G N) tab [laws_eqIntSS_l0_s N] Try.f20 laws_eqIntSS_ps laws_eqIntSS_rs x := by kernel_rfl
theorem laws_eqIntSS_pc (N : Nat) : PC Try.prog 20 (laws_eqIntSS_S N) := by
  have e : laws_eqIntSS_S N = ⟨laws_eqIntSS_ps, laws_eqIntSS_rs, funF (laws_eqIntSS_G N) tab [laws_eqIntSS_l0_s N] Try.f20 laws_eqIntSS_ps laws_eqIntSS_rs⟩ := congrArg (FSum.mk laws_eqIntSS_ps laws_eqIntSS_rs) (funext (laws_eqIntSS_run N))
  rw [e]
  exact fun_ok (c := laws_eqIntSS_code) progOk (laws_eqIntSS_gok N) (draw_ok progOk (laws_eqIntSS_gok N)) Try.call20 Try.func20 (by kernel_rfl) (lsOk_at (L := [laws_eqIntSS_l0_s N]) ⟨laws_eqIntSS_l0_ok N, trivial⟩) (by kernel_rfl) (by kernel_rfl) (by kernel_rfl) (by kernel_rfl) (by kernel_rfl)

/-! ### laws_eqFormula -/
abbrev laws_eqFormula_ps : List (PV.Mode × Ty) := [(.ro, QILLI), (.ro, QILLI)]
abbrev laws_eqFormula_rs : List (Bool × Ty) := [(true, .bool)]
noncomputable def laws_eqFormula_G (N : Nat) : GTab := gOf [(20, laws_eqIntSS_S N)]
theorem laws_eqFormula_gok (N : Nat) : GOk Try.prog (laws_eqFormula_G N) := gOf_ok ⟨laws_eqIntSS_pc N, trivial⟩
noncomputable def laws_eqFormula_code : Code := (Try.f19.body).getD .skip
noncomputable def laws_eqFormula (N : Nat) (a : (Int × (List (List Int)))) (b : (Int × (List (List Int)))) : Option ((Bool × Unit) × (Unit)) :=
  (br (ine a.1 b.1)
    (some ((false, ()), ()))
    (((laws_eqIntSS N a.2 b.2).bind fun r =>
      (br (!r.1.1)
        (some ((false, ()), ()))
        (some ((true, ()), ()))))))
noncomputable def laws_eqFormula_S (N : Nat) : FSum := ⟨laws_eqFormula_ps, laws_eqFormula_rs, fun x => laws_eqFormula N x.1 x.2.1⟩
theorem laws_eqFormula_run (N : Nat) (x : argsT laws_eqFormula_ps) : laws_eqFormula N x.1 x.2.1 = funF (laws_eqFormula_G N) tab [] Try.f19 laws_eqFormula_ps laws_eqFormula_rs x := by kernel_rfl
theorem laws_eqFormula_pc (N : Nat) : PC Try.prog 19 (laws_eqFormula_S N) := by
  have e : laws_eqFormula_S N = ⟨laws_eqFormula_ps, laws_eqFormula_rs, funF (laws_eqFormula_G N) tab [] Try.f19 laws_eqFormula_ps laws_eqFormula_rs⟩ := congrArg (FSum.mk laws_eqFormula_ps laws_eqFormula_rs) (funext (laws_eqFormula_run N))
  rw [e]
  exact fun_ok (c := laws_eqFormula_code) progOk (laws_eqFormula_gok N) (draw_ok progOk (laws_eqFormula_gok N)) Try.call19 Try.func19 (by kernel_rfl) (lsOk_at (L := []) trivial) (by kernel_rfl) (by kernel_rfl) (by kernel_rfl) (by kernel_rfl) (by kernel_rfl)

/-! ### laws_eqParity -/
abbrev laws_eqParity_ps : List (PV.Mode × Ty) := [(.ro, QIQLLILI), (.ro, QIQLLILI)]
abbrev laws_eqParity_rs : List (Bool × Ty) := [(true, .bool)]
noncomputable def laws_eqParity_G (N : Nat) : GTab := gOf [(20, laws_eqIntSS_S N), (35, laws_eqIntS_S N)]
theorem laws_eqParity_gok (N : Nat) : GOk Try.prog (laws_eqParity_G N) := gOf_ok ⟨laws_eqIntSS_pc N, laws_eqIntS_pc N, trivial⟩
noncomputable def laws_eqParity_code : Code := (Try.f28.body).getD .skip
noncomputable def laws_eqParity (N : Nat) (a : (Int × ((List (List Int)) × (List Int)))) (b : (Int × ((List (List Int)) × (List Int)))) : Option ((Bool × Unit) × (Unit)) :=
  (br (ine a.1 b.1)
    (some ((false, ()), ()))
    (((laws_eqIntSS N a.2.1 b.2.1).bind fun r =>
      (br (!r.1.1)
        (some ((false, ()), ()))
        (((laws_eqIntS N a.2.2 b.2.2).bind fun r1 =>
          (br (!r1.1.1)
            (some ((false, ()), ()))
            (some ((true, ()), ())))))))))
noncomputable def laws_eqParity_S (N : Nat) : FSum := ⟨laws_eqParity_ps, laws_eqParity_rs, fun x => laws_eqParity N x.1 x.2.1⟩
theorem laws_eqParity_run (N : Nat) (x : argsT laws_eqParity_ps) : laws_eqParity N x.1 x.2.1 = funF (laws_eqParity_G N) tab [] Try.f28 laws_eqParity_ps laws_eqParity_rs x := by kernel_rfl
theorem laws_eqParity_pc (N : Nat) : PC Try.prog 28 (laws_eqParity_S N) := by
  have e : laws_eqParity_S N = ⟨laws_eqParity_ps, laws_eqParity_rs, funF (laws_eqParity_G N) tab [] Try.f28 laws_eqParity_ps laws_eqParity_rs⟩ := congrArg (FSum.mk laws_eqParity_ps laws_eqParity_rs) (funext (laws_eqParity_run N))
  rw [e]
  exact fun_ok (c := laws_eqParity_code) progOk (laws_eqParity_gok N) (draw_ok progOk (laws_eqParity_gok N)) Try.call28 Try.func28 (by kernel_rfl) (lsOk_at (L := []) trivial) (by kernel_rfl) (by kernel_rfl) (by kernel_rfl) (by kernel_rfl) (by kernel_rfl)

/-! ### laws_markIntS -/
abbrev laws_markIntS_ps : List (PV.Mode × Ty) := [(.mut, LI), (.ro, I)]
abbrev laws_markIntS_rs : List (Bool × Ty) := [(true, I)]
noncomputable def laws_markIntS_G (N : Nat) : GTab := gOf []
theorem laws_markIntS_gok (N : Nat) : GOk Try.prog (laws_markIntS_G N) := gOf_ok trivial
noncomputable def laws_markIntS_code : Code := (Try.f38.body).getD .skip
noncomputable def laws_markIntS_l0_sh : Sh := ⟨[(0, .one (.ref 0)), (1, .one (.ro I)), (5, .one (.ro I))], [.sl 3 I .own]⟩
noncomputable def laws_markIntS_l0_ex : List (Ex × Sh) := [(.exit 0, ⟨[(0, .one (.ref 0)), (1, .one (.ro I))], [.sl 3 I .own]⟩)]
noncomputable def laws_markIntS_l0 {R : Type} (N : Nat) (k0 : Int → (List Int) → Option R) : Nat → Int → Int → (List Int) → Option R
  | 0, _, _, _ => none
  | K + 1, kv1, i, o =>
    (br (ilt i (tLen o))
      ((chk (inb o i)
        (laws_markIntS_l0 N k0 K (IntKind.i64.wrap (kv1 + 1)) (IntKind.i64.wrap (i + 1)) (tSet o i kv1))))
      (k0 kv1 o))
noncomputable def laws_markIntS_l0_again {R : Type} (N : Nat) (ks : (j : Nat) → ((laws_markIntS_l0_ex.getD j (.ret, Sh.none)).2).T → Option R) (k : Nat) (x : laws_markIntS_l0_sh.T) : Option R :=
  laws_markIntS_l0 N (fun y0 y1 => ks 0 (((), y0, ()), (y1, ()))) k x.1.2.1 x.1.2.2.1 x.2.1
noncomputable def laws_markIntS_l0_s (N : Nat) : LSum := ⟨laws_markIntS_l0_sh, laws_markIntS_l0_ex, fun x ks => laws_markIntS_l0_again N ks N x⟩
theorem laws_markIntS_l0_step (N : Nat) (R : Type) (k : Nat) (x : laws_markIntS_l0_sh.T) (ks : (j : Nat) → ((laws_markIntS_l0_ex.getD j (.ret, Sh.none)).2).T → Option R) : laws_markIntS_l0_again N ks (k + 1) x = roundF (laws_markIntS_G N) tab [] (loopAt laws_markIntS_code 0) laws_markIntS_l0_sh laws_markIntS_l0_ex (fun y => laws_markIntS_l0_again N ks k y) ks x := by kernel_rfl
theorem laws_markIntS_l0_ok (N : Nat) : LoopOk Try.prog Try.f38.ntmps (laws_markIntS_l0_s N) (loopAt laws_markIntS_code 0) :=
  loop_ok (l := laws_markIntS_l0_s N) progOk (laws_markIntS_gok N) (draw_ok progOk (laws_markIntS_gok N)) (fun R k x ks => laws_markIntS_l0_again N ks k x) (fun _ _ _ => rfl) (fun R k x ks => laws_markIntS_l0_step N R k x ks) (fun R x ks r h => ⟨N, h⟩) (lsOk_at (L := []) trivial) (by kernel_rfl) (by kernel_rfl)
noncomputable def laws_markIntS (N : Nat) (a : (List Int)) (kv : Int) : Option ((Int × Unit) × ((List Int) × Unit)) :=
  laws_markIntS_l0 N (fun kv1 o => some ((kv1, ()), (o, ()))) N kv 0 a
noncomputable def laws_markIntS_S (N : Nat) : FSum := ⟨laws_markIntS_ps, laws_markIntS_rs, fun x => laws_markIntS N x.1 x.2.1⟩
theorem laws_markIntS_run (N : Nat) (x : argsT laws_markIntS_ps) : laws_markIntS N x.1 x.2.1 = funF (laws_markIntS_G N) tab [laws_markIntS_l0_s N] Try.f38 laws_markIntS_ps laws_markIntS_rs x := by kernel_rfl
theorem laws_markIntS_pc (N : Nat) : PC Try.prog 38 (laws_markIntS_S N) := by
  have e : laws_markIntS_S N = ⟨laws_markIntS_ps, laws_markIntS_rs, funF (laws_markIntS_G N) tab [laws_markIntS_l0_s N] Try.f38 laws_markIntS_ps laws_markIntS_rs⟩ := congrArg (FSum.mk laws_markIntS_ps laws_markIntS_rs) (funext (laws_markIntS_run N))
  rw [e]
  exact fun_ok (c := laws_markIntS_code) progOk (laws_markIntS_gok N) (draw_ok progOk (laws_markIntS_gok N)) Try.call38 Try.func38 (by kernel_rfl) (lsOk_at (L := [laws_markIntS_l0_s N]) ⟨laws_markIntS_l0_ok N, trivial⟩) (by kernel_rfl) (by kernel_rfl) (by kernel_rfl) (by kernel_rfl) (by kernel_rfl)

/-! ### laws_markIntSS -/
abbrev laws_markIntSS_ps : List (PV.Mode × Ty) := [(.mut, LLI), (.ro, I)]
abbrev laws_markIntSS_rs : List (Bool × Ty) := [(true, I)]
noncomputable def laws_markIntSS_G (N : Nat) : GTab := gOf [(38, laws_markIntS_S N)]
theorem laws_markIntSS_gok (N : Nat) : GOk Try.prog (laws_markIntSS_G N) := gOf_ok ⟨laws_markIntS_pc N, trivial⟩
noncomputable def laws_markIntSS_code : Code := (Try.f21.body).getD .skip
noncomputable def laws_markIntSS_l0_sh : Sh := ⟨[(0, .one (.ref 0)), (1, .one (.ro I)), (5, .one (.ro I))], [.sl 33 LI .deep]⟩
noncomputable def laws_markIntSS_l0_ex : List (Ex × Sh) := [(.exit 0, ⟨[(0, .one (.ref 0)), (1, .one (.ro I))], [.sl 33 LI .deep]⟩)]
noncomputable def laws_markIntSS_l0 {R : Type} (N : Nat) (k0 : Int → (List (List Int)) → Option R) : Nat → Int → Int → (List (List Int)) → Option R
  | 0, _, _, _ => none
  | K + 1, kv1, i, o =>
    (br (ilt i (tLen o))
      ((chk (inb o i)
        ((laws_markIntS N (rdL o i) kv1).bind fun r =>
        laws_markIntSS_l0 N k0 K r.1.1 (IntKind.i64.wrap (i + 1)) (tSet o i r.2.1))))
      (k0 kv1 o))
noncomputable def laws_markIntSS_l0_again {R : Type} (N : Nat) (ks : (j : Nat) → ((laws_markIntSS_l0_ex.getD j (.ret, Sh.none)).2).T → Option R) (k : Nat) (x : laws_markIntSS_l0_sh.T) : Option R :=
  laws_markIntSS_l0 N (fun y0 y1 => ks 0 (((), y0, ()), (y1, ()))) k x.1.2.1 x.1.2.2.1 x.2.1
noncomputable def laws_markIntSS_l0_s (N : Nat) : LSum := ⟨laws_markIntSS_l0_sh, laws_markIntSS_l0_ex, fun x ks => laws_markIntSS_l0_again N ks N x⟩
theorem laws_markIntSS_l0_step (N : Nat) (R : Type) (k : Nat) (x : laws_markIntSS_l0_sh.T) (ks : (j : Nat) → ((laws_markIntSS_l0_ex.getD j (.ret, Sh.none)).2).T → Option R) : laws_markIntSS_l0_again N ks (k + 1) x = roundF (laws_markIntSS_G N) tab [] (loopAt laws_markIntSS_code 0) laws_markIntSS_l0_sh laws_markIntSS_l0_ex (fun y => laws_markIntSS_l0_again N ks k y) ks x := by kernel_rfl
theorem laws_markIntSS_l0_ok (N : Nat) : LoopOk Try.prog Try.f21.ntmps (laws_markIntSS_l0_s N) (loopAt laws_markIntSS_code 0) :=
  loop_ok (l := laws_markIntSS_l0_s N) progOk (laws_markIntSS_gok N) (draw_ok progOk (laws_markIntSS_gok N)) (fun R k x ks => laws_markIntSS_l0_again N ks k x) (fun _ _ _ => rfl) (fun R k x ks => laws_markIntSS_l0_step N R k x ks) (fun R x ks r h => ⟨N, h⟩) (lsOk_at (L := []) trivial) (by kernel_rfl) (by kernel_rfl)
noncomputable def laws_markIntSS (N : Nat) (a : (List (List Int))) (kv : Int) : Option ((Int × Unit) × ((List (List Int)) × Unit)) :=
  laws_markIntSS_l0 N (fun kv1 o => some ((kv1, ()), (o, ()))) N kv 0 a
noncomputable def laws_markIntSS_S (N : Nat) : FSum := ⟨laws_markIntSS_ps, laws_markIntSS_rs, fun x => laws_markIntSS N x.1 x.2.1⟩
theorem laws_markIntSS_run (N : Nat) (x : argsT laws_markIntSS_ps) : laws_markIntSS N x.1 x.2.1 = funF (laws_markIntSS_G N) tab [laws_markIntSS_l0_s N] Try.f21 laws_markIntSS_ps laws_markIntSS_rs x := by kernel_rfl
theorem laws_markIntSS_pc (N : Nat) : PC Try.prog 21 (laws_markIntSS_S N) := by
  have e : laws_markIntSS_S N = ⟨laws_markIntSS_ps, laws_markIntSS_rs, funF (laws_markIntSS_G N) tab [laws_markIntSS_l0_s N] Try.f21 laws_markIntSS_ps laws_markIntSS_rs⟩ := congrArg (FSum.mk laws_markIntSS_ps laws_markIntSS_rs) (funext (laws_markIntSS_run N))
  rw [e]
  exact fun_ok (c := laws_markIntSS_code) progOk (laws_markIntSS_gok N) (draw_ok progOk (laws_markIntSS_gok N)) Try.call21 Try.func21 (by kernel_rfl) (lsOk_at (L := [laws_markIntSS_l0_s N]) ⟨laws_markIntSS_l0_ok N, trivial⟩) (by kernel_rfl) (by kernel_rfl) (by kernel_rfl) (by kernel_rfl) (by kernel_rfl)

/-! ### laws_markParity -/
abbrev laws_markParity_ps : List (PV.Mode × Ty) := [(.mut, QIQLLILI), (.ro, I)]
abbrev laws_markParity_rs : List (Bool × Ty) := [(true, I)]
noncomputable def laws_markParity_G (N : Nat) : GTab := gOf [(21, laws_markIntSS_S N), (38, laws_markIntS_S N)]
theorem laws_markParity_gok (N : Nat) : GOk Try.prog (laws_markParity_G N) := gOf_ok ⟨laws_markIntSS_pc N, laws_markIntS_pc N, trivial⟩
noncomputable def laws_markParity_code : Code := (Try.f29.body).getD .skip
noncomputable def laws_markParity (N : Nat) (a : (Int × ((List (List Int)) × (List Int)))) (kv : Int) : Option ((Int × Unit) × ((Int × ((List (List Int)) × (List Int))) × Unit)) :=
  ((laws_markIntSS N a.2.1 kv).bind fun r =>
    ((laws_markIntS N a.2.2 r.1.1).bind fun r1 =>
      some ((r1.1.1, ()), ((a.1, (r.2.1, r1.2.1)), ()))))
noncomputable def laws_markParity_S (N : Nat) : FSum := ⟨laws_markParity_ps, laws_markParity_rs, fun x => laws_markParity N x.1 x.2.1⟩
theorem laws_markParity_run (N : Nat) (x : argsT laws_markParity_ps) : laws_markParity N x.1 x.2.1 = funF (laws_markParity_G N) tab [] Try.f29 laws_markParity_ps laws_markParity_rs x := by kernel_rfl
theorem laws_markParity_pc (N : Nat) : PC Try.prog 29 (laws_markParity_S N) := by
  have e : laws_markParity_S N = ⟨laws_markParity_ps, laws_markParity_rs, funF (laws_markParity_G N) tab [] Try.f29 laws_markParity_ps laws_markParity_rs⟩ := congrArg (FSum.mk laws_markParity_ps laws_markParity_rs) (funext (laws_markParity_run N))
  rw [e]
  exact fun_ok (c := laws_markParity_code) progOk (laws_markParity_gok N) (draw_ok progOk (laws_markParity_gok N)) Try.call29 Try.func29 (by kernel_rfl) (lsOk_at (L := []) trivial) (by kernel_rfl) (by kernel_rfl) (by kernel_rfl) (by kernel_rfl) (by kernel_rfl)

/-! ### laws_markFormula -/
abbrev laws_markFormula_ps : List (PV.Mode × Ty) := [(.mut, QILLI), (.ro, I)]
abbrev laws_markFormula_rs : List (Bool × Ty) := [(true, I)]
noncomputable def laws_markFormula_G (N : Nat) : GTab := gOf [(21, laws_markIntSS_S N)]
theorem laws_markFormula_gok (N : Nat) : GOk Try.prog (laws_markFormula_G N) := gOf_ok ⟨laws_markIntSS_pc N, trivial⟩
noncomputable def laws_markFormula_code : Code := (Try.f22.body).getD .skip
noncomputable def laws_markFormula (N : Nat) (a : (Int × (List (List Int)))) (kv : Int) : Option ((Int × Unit) × ((Int × (List (List Int))) × Unit)) :=
  ((laws_markIntSS N a.2 kv).bind fun r =>
    some ((r.1.1, ()), ((a.1, r.2.1), ())))
noncomputable def laws_markFormula_S (N : Nat) : FSum := ⟨laws_markFormula_ps, laws_markFormula_rs, fun x => laws_markFormula N x.1 x.2.1⟩
theorem laws_markFormula_run (N : Nat) (x : argsT laws_markFormula_ps) : laws_markFormula N x.1 x.2.1 = funF (laws_markFormula_G N) tab [] Try.f22 laws_markFormula_ps laws_markFormula_rs x := by kernel_rfl
theorem laws_markFormula_pc (N : Nat) : PC Try.prog 22 (laws_markFormula_S N) := by
  have e : laws_markFormula_S N = ⟨laws_markFormula_ps, laws_markFormula_rs, funF (laws_markFormula_G N) tab [] Try.f22 laws_markFormula_ps laws_markFormula_rs⟩ := congrArg (FSum.mk laws_markFormula_ps laws_markFormula_rs) (funext (laws_markFormula_run N))
  rw [e]
  exact fun_ok (c := laws_markFormula_code) progOk (laws_markFormula_gok N) (draw_ok progOk (laws_markFormula_gok N)) Try.call22 Try.func22 (by kernel_rfl) (lsOk_at (L := []) trivial) (by kernel_rfl) (by kernel_rfl) (by kernel_rfl) (by kernel_rfl) (by kernel_rfl)
end Go.Proofs.Ythkejedgfhjdiaa
