/- Functions of the program as functions on data. -/
import Derived.Test.YtaodifjegdpifaaGreatHornFa
set_option linter.all false
namespace Go.Proofs.YtaodifjegdpifaaGreat
open Go Go.PV
/-! ### slices_ContainsFunc_LLI_LI -/
abbrev slices_ContainsFunc_LLI_LI_ps : List (PV.Mode × Ty) := [(.ro, LLI), (.ro, FLIBo)]
abbrev slices_ContainsFunc_LLI_LI_rs : List (Bool × Ty) := [(true, .bool)]
noncomputable def slices_ContainsFunc_LLI_LI_G (N : Nat) : GTab := gOf [(68, slices_IndexFunc_LLI_LI_S N)]
theorem slices_ContainsFunc_LLI_LI_gok (N : Nat) : GOk Tryz.prog (slices_ContainsFunc_LLI_LI_G N) := gOf_ok ⟨slices_IndexFunc_LLI_LI_pc N, trivial⟩
noncomputable def slices_ContainsFunc_LLI_LI_code : Code := (Tryz.f47.body).getD .skip
noncomputable def slices_ContainsFunc_LLI_LI (N : Nat) (s : (List (List Int))) (f : ((List Int) → Option Bool)) : Option ((Bool × Unit) × (Unit)) :=
  ((slices_IndexFunc_LLI_LI N s f).bind fun r =>
    some (((ile 0 r.1.1), ()), ()))
noncomputable def slices_ContainsFunc_LLI_LI_S (N : Nat) : FSum := ⟨slices_ContainsFunc_LLI_LI_ps, slices_ContainsFunc_LLI_LI_rs, fun x => slices_ContainsFunc_LLI_LI N x.1 x.2.1⟩
theorem slices_ContainsFunc_LLI_LI_run (N : Nat) (x : argsT slices_ContainsFunc_LLI_LI_ps) : slices_ContainsFunc_LLI_LI N x.1 x.2.1 = funF (slices_ContainsFunc_LLI_LI_G N) tab [] Tryz.f47 slices_ContainsFunc_LLI_LI_ps slices_ContainsFunc_LLI_LI_rs x := by kernel_rfl
theorem slices_ContainsFunc_LLI_LI_pc (N : Nat) : PC Tryz.prog 47 (slices_ContainsFunc_LLI_LI_S N) := by
  have e : slices_ContainsFunc_LLI_LI_S N = ⟨slices_ContainsFunc_LLI_LI_ps, slices_ContainsFunc_LLI_LI_rs, funF (slices_ContainsFunc_LLI_LI_G N) tab [] Tryz.f47 slices_ContainsFunc_LLI_LI_ps slices_ContainsFunc_LLI_LI_rs⟩ := congrArg (FSum.mk slices_ContainsFunc_LLI_LI_ps slices_ContainsFunc_LLI_LI_rs) (funext (slices_ContainsFunc_LLI_LI_run N))
  rw [e]
  exact fun_ok (c := slices_ContainsFunc_LLI_LI_code) progOk (slices_ContainsFunc_LLI_LI_gok N) (draw_ok progOk (slices_ContainsFunc_LLI_LI_gok N)) Tryz.call47 Tryz.func47 (by kernel_rfl) (lsOk_at (L := []) trivial) (by kernel_rfl) (by kernel_rfl) (by kernel_rfl) (by kernel_rfl) (by kernel_rfl)

/-! ### impl_meets -/
abbrev impl_meets_ps : List (PV.Mode × Ty) := [(.ro, LI), (.ro, I)]
abbrev impl_meets_rs : List (Bool × Ty) := [(true, .bool)]
noncomputable def impl_meets_G (N : Nat) : GTab := gOf []
theorem impl_meets_gok (N : Nat) : GOk Tryz.prog (impl_meets_G N) := gOf_ok trivial
noncomputable def impl_meets_code : Code := (Tryz.f51.body).getD .skip
noncomputable def impl_meets (N : Nat) (list : (List Int)) (literal : Int) : Option ((Bool × Unit) × (Unit)) :=
  (br (ilt 0 literal)
    ((chk (inb list (IntKind.i64.wrap (literal - 1)))
      (some (((ieq (rdI list (IntKind.i64.wrap (literal - 1))) 1), ()), ()))))
    ((chk (inb list (IntKind.i64.wrap ((-1) - literal)))
      (some (((ieq (rdI list (IntKind.i64.wrap ((-1) - literal))) 0), ()), ())))))
noncomputable def impl_meets_S (N : Nat) : FSum := ⟨impl_meets_ps, impl_meets_rs, fun x => impl_meets N x.1 x.2.1⟩
theorem impl_meets_run (N : Nat) (x : argsT impl_meets_ps) : impl_meets N x.1 x.2.1 = funF (impl_meets_G N) tab [] Tryz.f51 impl_meets_ps impl_meets_rs x := by kernel_rfl
theorem impl_meets_pc (N : Nat) : PC Tryz.prog 51 (impl_meets_S N) := by
  have e : impl_meets_S N = ⟨impl_meets_ps, impl_meets_rs, funF (impl_meets_G N) tab [] Tryz.f51 impl_meets_ps impl_meets_rs⟩ := congrArg (FSum.mk impl_meets_ps impl_meets_rs) (funext (impl_meets_run N))
  rw [e]
  exact fun_ok (c := impl_meets_code) progOk (impl_meets_gok N) (draw_ok progOk (impl_meets_gok N)) Tryz.call51 Tryz.func51 (by kernel_rfl) (lsOk_at (L := []) trivial) (by kernel_rfl) (by kernel_rfl) (by kernel_rfl) (by kernel_rfl) (by kernel_rfl)

/-! ### impl_Formula_solves_c1_c1 -/
abbrev impl_Formula_solves_c1_c1_ps : List (PV.Mode × Ty) := [(.ro, I), (.ro, ALI)]
abbrev impl_Formula_solves_c1_c1_rs : List (Bool × Ty) := [(true, .bool)]
noncomputable def impl_Formula_solves_c1_c1_G (N : Nat) : GTab := gOf [(51, impl_meets_S N)]
theorem impl_Formula_solves_c1_c1_gok (N : Nat) : GOk Tryz.prog (impl_Formula_solves_c1_c1_G N) := gOf_ok ⟨impl_meets_pc N, trivial⟩
noncomputable def impl_Formula_solves_c1_c1_code : Code := (Tryz.f50.body).getD .skip
noncomputable def impl_Formula_solves_c1_c1 (N : Nat) (literal : Int) (c : (List Int)) : Option ((Bool × Unit) × (Unit)) :=
  ((impl_meets N c literal).bind fun r =>
    some ((r.1.1, ()), ()))
noncomputable def impl_Formula_solves_c1_c1_S (N : Nat) : FSum := ⟨impl_Formula_solves_c1_c1_ps, impl_Formula_solves_c1_c1_rs, fun x => impl_Formula_solves_c1_c1 N x.1 x.2.1⟩
theorem impl_Formula_solves_c1_c1_run (N : Nat) (x : argsT impl_Formula_solves_c1_c1_ps) : impl_Formula_solves_c1_c1 N x.1 x.2.1 = funF (impl_Formula_solves_c1_c1_G N) tab [] Tryz.f50 impl_Formula_solves_c1_c1_ps impl_Formula_solves_c1_c1_rs x := by kernel_rfl
theorem impl_Formula_solves_c1_c1_pc (N : Nat) : PC Tryz.prog 50 (impl_Formula_solves_c1_c1_S N) := by
  have e : impl_Formula_solves_c1_c1_S N = ⟨impl_Formula_solves_c1_c1_ps, impl_Formula_solves_c1_c1_rs, funF (impl_Formula_solves_c1_c1_G N) tab [] Tryz.f50 impl_Formula_solves_c1_c1_ps impl_Formula_solves_c1_c1_rs⟩ := congrArg (FSum.mk impl_Formula_solves_c1_c1_ps impl_Formula_solves_c1_c1_rs) (funext (impl_Formula_solves_c1_c1_run N))
  rw [e]
  exact fun_ok (c := impl_Formula_solves_c1_c1_code) progOk (impl_Formula_solves_c1_c1_gok N) (draw_ok progOk (impl_Formula_solves_c1_c1_gok N)) Tryz.call50 Tryz.func50 (by kernel_rfl) (lsOk_at (L := []) trivial) (by kernel_rfl) (by kernel_rfl) (by kernel_rfl) (by kernel_rfl) (by kernel_rfl)

/-! ### impl_Formula_solves_c1 -/
abbrev impl_Formula_solves_c1_ps : List (PV.Mode × Ty) := [(.ro, LI), (.ro, ALI)]
abbrev impl_Formula_solves_c1_rs : List (Bool × Ty) := [(true, .bool)]
noncomputable def impl_Formula_solves_c1_G (N : Nat) : GTab := gOf [(50, impl_Formula_solves_c1_c1_S N), (49, slices_ContainsFunc_LI_int_S N)]
theorem impl_Formula_solves_c1_gok (N : Nat) : GOk Tryz.prog (impl_Formula_solves_c1_G N) := gOf_ok ⟨impl_Formula_solves_c1_c1_pc N, slices_ContainsFunc_LI_int_pc N, trivial⟩
noncomputable def impl_Formula_solves_c1_code : Code := (Tryz.f48.body).getD .skip
noncomputable def impl_Formula_solves_c1 (N : Nat) (clause : (List Int)) (c : (List Int)) : Option ((Bool × Unit) × (Unit)) :=
  ((slices_ContainsFunc_LI_int N clause (fun y0 => (impl_Formula_solves_c1_c1 N y0 c).bind fun z => some z.1.1)).bind fun r =>
    some (((!r.1.1), ()), ()))
noncomputable def impl_Formula_solves_c1_S (N : Nat) : FSum := ⟨impl_Formula_solves_c1_ps, impl_Formula_solves_c1_rs, fun x => impl_Formula_solves_c1 N x.1 x.2.1⟩
theorem impl_Formula_solves_c1_run (N : Nat) (x : argsT impl_Formula_solves_c1_ps) : impl_Formula_solves_c1 N x.1 x.2.1 = funF (impl_Formula_solves_c1_G N) tab [] Tryz.f48 impl_Formula_solves_c1_ps impl_Formula_solves_c1_rs x := by kernel_rfl
theorem impl_Formula_solves_c1_pc (N : Nat) : PC Tryz.prog 48 (impl_Formula_solves_c1_S N) := by
  have e : impl_Formula_solves_c1_S N = ⟨impl_Formula_solves_c1_ps, impl_Formula_solves_c1_rs, funF (impl_Formula_solves_c1_G N) tab [] Tryz.f48 impl_Formula_solves_c1_ps impl_Formula_solves_c1_rs⟩ := congrArg (FSum.mk impl_Formula_solves_c1_ps impl_Formula_solves_c1_rs) (funext (impl_Formula_solves_c1_run N))
  rw [e]
  exact fun_ok (c := impl_Formula_solves_c1_code) progOk (impl_Formula_solves_c1_gok N) (draw_ok progOk (impl_Formula_solves_c1_gok N)) Tryz.call48 Tryz.func48 (by kernel_rfl) (lsOk_at (L := []) trivial) (by kernel_rfl) (by kernel_rfl) (by kernel_rfl) (by kernel_rfl) (by kernel_rfl)

/-! ### impl_Formula_solves -/
abbrev impl_Formula_solves_ps : List (PV.Mode × Ty) := [(.ro, QILLI), (.ro, LI)]
abbrev impl_Formula_solves_rs : List (Bool × Ty) := [(true, .bool)]
noncomputable def impl_Formula_solves_G (N : Nat) : GTab := gOf [(47, slices_ContainsFunc_LLI_LI_S N), (48, impl_Formula_solves_c1_S N)]
theorem impl_Formula_solves_gok (N : Nat) : GOk Tryz.prog (impl_Formula_solves_G N) := gOf_ok ⟨slices_ContainsFunc_LLI_LI_pc N, impl_Formula_solves_c1_pc N, trivial⟩
noncomputable def impl_Formula_solves_code : Code := (Tryz.f24.body).getD .skip
noncomputable def impl_Formula_solves (N : Nat) (f : (Int × (List (List Int)))) (list : (List Int)) : Option ((Bool × Unit) × (Unit)) :=
  ((slices_ContainsFunc_LLI_LI N f.2 (fun y0 => (impl_Formula_solves_c1 N y0 list).bind fun z => some z.1.1)).bind fun r =>
    some (((!r.1.1), ()), ()))
noncomputable def impl_Formula_solves_S (N : Nat) : FSum := ⟨impl_Formula_solves_ps, impl_Formula_solves_rs, fun x => impl_Formula_solves N x.1 x.2.1⟩
theorem impl_Formula_solves_run (N : Nat) (x : argsT impl_Formula_solves_ps) : impl_Formula_solves N x.1 x.2.1 = funF (impl_Formula_solves_G N) tab [] Tryz.f24 impl_Formula_solves_ps impl_Formula_solves_rs x := by kernel_rfl
theorem impl_Formula_solves_pc (N : Nat) : PC Tryz.prog 24 (impl_Formula_solves_S N) := by
  have e : impl_Formula_solves_S N = ⟨impl_Formula_solves_ps, impl_Formula_solves_rs, funF (impl_Formula_solves_G N) tab [] Tryz.f24 impl_Formula_solves_ps impl_Formula_solves_rs⟩ := congrArg (FSum.mk impl_Formula_solves_ps impl_Formula_solves_rs) (funext (impl_Formula_solves_run N))
  rw [e]
  exact fun_ok (c := impl_Formula_solves_code) progOk (impl_Formula_solves_gok N) (draw_ok progOk (impl_Formula_solves_gok N)) Tryz.call24 Tryz.func24 (by kernel_rfl) (lsOk_at (L := []) trivial) (by kernel_rfl) (by kernel_rfl) (by kernel_rfl) (by kernel_rfl) (by kernel_rfl)

/-! ### impl_IsSolution -/
abbrev impl_IsSolution_ps : List (PV.Mode × Ty) := [(.ro, QILLI), (.ro, LI)]
abbrev impl_IsSolution_rs : List (Bool × Ty) := [(true, .bool), (true, .bool)]
noncomputable def impl_IsSolution_G (N : Nat) : GTab := gOf [(28, impl_IsFormula_S N), (67, impl_isAssignment_S N), (24, impl_Formula_solves_S N)]
theorem impl_IsSolution_gok (N : Nat) : GOk Tryz.prog (impl_IsSolution_G N) := gOf_ok ⟨impl_IsFormula_pc N, impl_isAssignment_pc N, impl_Formula_solves_pc N, trivial⟩
noncomputable def impl_IsSolution_code : Code := (Tryz.f46.body).getD .skip
noncomputable def impl_IsSolution (N : Nat) (f : (Int × (List (List Int)))) (bits : (List Int)) : Option ((Bool × Bool × Unit) × (Unit)) :=
  ((impl_IsFormula N (f.1, f.2)).bind fun r =>
    (br (!r.1.1)
      (some ((false, false, ()), ()))
      (((impl_isAssignment N f.1 bits).bind fun r1 =>
        (br (!r1.1.1)
          (some ((false, false, ()), ()))
          (((impl_Formula_solves N (f.1, f.2) bits).bind fun r2 =>
            some ((r2.1.1, true, ()), ()))))))))
noncomputable def impl_IsSolution_S (N : Nat) : FSum := ⟨impl_IsSolution_ps, impl_IsSolution_rs, fun x => impl_IsSolution N x.1 x.2.1⟩
theorem impl_IsSolution_run (N : Nat) (x : argsT impl_IsSolution_ps) : impl_IsSolution N x.1 x.2.1 = funF (impl_IsSolution_G N) tab [] Tryz.f46 impl_IsSolution_ps impl_IsSolution_rs x := by kernel_rfl
theorem impl_IsSolution_pc (N : Nat) : PC Tryz.prog 46 (impl_IsSolution_S N) := by
  have e : impl_IsSolution_S N = ⟨impl_IsSolution_ps, impl_IsSolution_rs, funF (impl_IsSolution_G N) tab [] Tryz.f46 impl_IsSolution_ps impl_IsSolution_rs⟩ := congrArg (FSum.mk impl_IsSolution_ps impl_IsSolution_rs) (funext (impl_IsSolution_run N))
  rw [e]
  exact fun_ok (c := impl_IsSolution_code) progOk (impl_IsSolution_gok N) (draw_ok progOk (impl_IsSolution_gok N)) Tryz.call46 Tryz.func46 (by kernel_rfl) (lsOk_at (L := []) trivial) (by kernel_rfl) (by kernel_rfl) (by kernel_rfl) (by kernel_rfl) (by kernel_rfl)

/-! ### impl_isSolution -/
abbrev impl_isSolution_ps : List (PV.Mode × Ty) := [(.ro, QILLI), (.ro, LI)]
abbrev impl_isSolution_rs : List (Bool × Ty) := [(true, .bool)]
noncomputable def impl_isSolution_G (N : Nat) : GTab := gOf [(46, impl_IsSolution_S N)]
theorem impl_isSolution_gok (N : Nat) : GOk Tryz.prog (impl_isSolution_G N) := gOf_ok ⟨impl_IsSolution_pc N, trivial⟩
noncomputable def impl_isSolution_code : Code := (Tryz.f23.body).getD .skip
noncomputable def impl_isSolution (N : Nat) (f : (Int × (List (List Int)))) (list : (List Int)) : Option ((Bool × Unit) × (Unit)) :=
  ((impl_IsSolution N (f.1, f.2) list).bind fun r =>
    some ((r.1.1, ()), ()))
noncomputable def impl_isSolution_S (N : Nat) : FSum := ⟨impl_isSolution_ps, impl_isSolution_rs, fun x => impl_isSolution N x.1 x.2.1⟩
theorem impl_isSolution_run (N : Nat) (x : argsT impl_isSolution_ps) : impl_isSolution N x.1 x.2.1 = funF (impl_isSolution_G N) tab [] Tryz.f23 impl_isSolution_ps impl_isSolution_rs x := by kernel_rfl
theorem impl_isSolution_pc (N : Nat) : PC Tryz.prog 23 (impl_isSolution_S N) := by
  have e : impl_isSolution_S N = ⟨impl_isSolution_ps, impl_isSolution_rs, funF (impl_isSolution_G N) tab [] Tryz.f23 impl_isSolution_ps impl_isSolution_rs⟩ := congrArg (FSum.mk impl_isSolution_ps impl_isSolution_rs) (funext (impl_isSolution_run N))
  rw [e]
  exact fun_ok (c := impl_isSolution_code) progOk (impl_isSolution_gok N) (draw_ok progOk (impl_isSolution_gok N)) Tryz.call23 Tryz.func23 (by kernel_rfl) (lsOk_at (L := []) trivial) (by kernel_rfl) (by kernel_rfl) (by kernel_rfl) (by kernel_rfl) (by kernel_rfl)

/-! ### impl_assignments_own -/
abbrev impl_assignments_own_ps : List (PV.Mode × Ty) := [(.ro, I), (.ro, FLIBo)]
abbrev impl_assignments_own_rs : List (Bool × Ty) := [(true, LLI)]
noncomputable def impl_assignments_own_G (N : Nat) : GTab := gOf []
theorem impl_assignments_own_gok (N : Nat) : GOk Tryz.prog (impl_assignments_own_G N) := gOf_ok trivial
noncomputable def impl_assignments_own_code : Code := (Tryz.f72.body).getD .skip
noncomputable def impl_assignments_own_l0_0_sh : Sh := ⟨[(0, .one (.ro I)), (1, .one (.ro FLIBo)), (5, .one (.ref 0)), (6, .one (.ro I)), (7, .one (.ref 1)), (11, .one (.ro I)), (12, .one (.ro I)), (16, .one (.ro I)), (17, .one (.ro I))], [.sl 27 LI .deep, .sl 3 I .own]⟩
noncomputable def impl_assignments_own_l0_0_ex : List (Ex × Sh) := [(.exit 2, ⟨[(0, .one (.ro I)), (1, .one (.ro FLIBo)), (5, .one (.ref 0)), (7, .one (.ref 1)), (11, .one (.ro I)), (12, .one (.ro I))], [.sl 27 LI .deep, .sl 3 I .own]⟩)]
noncomputable def impl_assignments_own_l0_0 {R : Type} (N : Nat) (k0 : Int → ((List Int) → Option Bool) → Int → Int → (List (List Int)) → (List Int) → Option R) : Nat → Int → ((List Int) → Option Bool) → Int → Int → Int → Int → Int → (List (List Int)) → (List Int) → Option R
  | 0, _, _, _, _, _, _, _, _, _ => none
  | K + 1, vars2, is2, n, x2, x3, x4, x5, o1, o2 =>
    (br (ilt x5 x4)
      ((chk (ile 0 (IntKind.i64.wrap ((IntKind.i64.wrap (vars2 - 1)) - x5)))
        (chk (room o2 [(bitop .and .i64 (shrI .i64 n (IntKind.i64.wrap ((IntKind.i64.wrap (vars2 - 1)) - x5))) 1)])
        (impl_assignments_own_l0_0 N k0 K vars2 is2 n x2 x3 x4 (IntKind.i64.wrap (x5 + 1)) o1 (tApp o2 [(bitop .and .i64 (shrI .i64 n (IntKind.i64.wrap ((IntKind.i64.wrap (vars2 - 1)) - x5))) 1)])))))
      (k0 vars2 is2 x2 x3 o1 o2))
noncomputable def impl_assignments_own_l0_0_again {R : Type} (N : Nat) (ks : (j : Nat) → ((impl_assignments_own_l0_0_ex.getD j (.ret, Sh.none)).2).T → Option R) (k : Nat) (x : impl_assignments_own_l0_0_sh.T) : Option R :=
  impl_assignments_own_l0_0 N (fun y0 y1 y2 y3 y4 y5 => ks 0 ((y0, y1, (), (), y2, y3, ()), (y4, y5, ()))) k x.1.1 x.1.2.1 x.1.2.2.2.1 x.1.2.2.2.2.2.1 x.1.2.2.2.2.2.2.1 x.1.2.2.2.2.2.2.2.1 x.1.2.2.2.2.2.2.2.2.1 x.2.1 x.2.2.1
noncomputable def impl_assignments_own_l0_0_s (N : Nat) : LSum := ⟨impl_assignments_own_l0_0_sh, impl_assignments_own_l0_0_ex, fun x ks => impl_assignments_own_l0_0_again N ks N x⟩
theorem impl_assignments_own_l0_0_step (N : Nat) (R : Type) (k : Nat) (x : impl_assignments_own_l0_0_sh.T) (ks : (j : Nat) → ((impl_assignments_own_l0_0_ex.getD j (.ret, Sh.none)).2).T → Option R) : impl_assignments_own_l0_0_again N ks (k + 1) x = roundF (impl_assignments_own_G N) tab [] (loopAt (loopAt impl_assignments_own_code 0) 0) impl_assignments_own_l0_0_sh impl_assignments_own_l0_0_ex (fun y => impl_assignments_own_l0_0_again N ks k y) ks x := by kernel_rfl
theorem impl_assignments_own_l0_0_ok (N : Nat) : LoopOk Tryz.prog Tryz.f72.ntmps (impl_assignments_own_l0_0_s N) (loopAt (loopAt impl_assignments_own_code 0) 0) :=
  loop_ok (l := impl_assignments_own_l0_0_s N) progOk (impl_assignments_own_gok N) (draw_ok progOk (impl_assignments_own_gok N)) (fun R k x ks => impl_assignments_own_l0_0_again N ks k x) (fun _ _ _ => rfl) (fun R k x ks => impl_assignments_own_l0_0_step N R k x ks) (fun R x ks r h => ⟨N, h⟩) (lsOk_at (L := []) trivial) (by kernel_rfl) (by kernel_rfl)
noncomputable def impl_assignments_own_l0_sh : Sh := ⟨[(0, .one (.ro I)), (1, .one (.ro FLIBo)), (5, .one (.ref 0)), (11, .one (.ro I)), (12, .one (.ro I))], [.sl 27 LI .deep]⟩
noncomputable def impl_assignments_own_l0_ex : List (Ex × Sh) := [(.exit 0, ⟨[(5, .one (.ref 0))], [.sl 27 LI .deep]⟩)]
noncomputable def impl_assignments_own_l0 {R : Type} (N : Nat) (k0 : (List (List Int)) → Option R) : Nat → Int → ((List Int) → Option Bool) → Int → Int → (List (List Int)) → Option R
  | 0, _, _, _, _, _ => none
  | K + 1, vars1, is1, x, x1, o =>
    (br (ilt x1 x)
      (impl_assignments_own_l0_0 N (fun vars2 is2 x2 x3 o1 o2 => ((is2 o2).bind fun v =>
        (br v
        ((chk (room o1 [o2])
          (impl_assignments_own_l0 N k0 K vars2 is2 x2 (IntKind.i64.wrap (x3 + 1)) (tApp o1 [o2]))))
        (impl_assignments_own_l0 N k0 K vars2 is2 x2 (IntKind.i64.wrap (x3 + 1)) o1)))) N vars1 is1 x1 x x1 vars1 0 o [])
      (k0 o))
noncomputable def impl_assignments_own_l0_again {R : Type} (N : Nat) (ks : (j : Nat) → ((impl_assignments_own_l0_ex.getD j (.ret, Sh.none)).2).T → Option R) (k : Nat) (x : impl_assignments_own_l0_sh.T) : Option R :=
  impl_assignments_own_l0 N (fun y0 => ks 0 (((), ()), (y0, ()))) k x.1.1 x.1.2.1 x.1.2.2.2.1 x.1.2.2.2.2.1 x.2.1
noncomputable def impl_assignments_own_l0_s (N : Nat) : LSum := ⟨impl_assignments_own_l0_sh, impl_assignments_own_l0_ex, fun x ks => impl_assignments_own_l0_again N ks N x⟩
theorem impl_assignments_own_l0_step (N : Nat) (R : Type) (k : Nat) (x : impl_assignments_own_l0_sh.T) (ks : (j : Nat) → ((impl_assignments_own_l0_ex.getD j (.ret, Sh.none)).2).T → Option R) : impl_assignments_own_l0_again N ks (k + 1) x = roundF (impl_assignments_own_G N) tab [impl_assignments_own_l0_0_s N] (loopAt impl_assignments_own_code 0) impl_assignments_own_l0_sh impl_assignments_own_l0_ex (fun y => impl_assignments_own_l0_again N ks k y) ks x := by kernel_rfl
theorem impl_assignments_own_l0_ok (N : Nat) : LoopOk Tryz.prog Tryz.f72.ntmps (impl_assignments_own_l0_s N) (loopAt impl_assignments_own_code 0) :=
  loop_ok (l := impl_assignments_own_l0_s N) progOk (impl_assignments_own_gok N) (draw_ok progOk (impl_assignments_own_gok N)) (fun R k x ks => impl_assignments_own_l0_again N ks k x) (fun _ _ _ => rfl) (fun R k x ks => impl_assignments_own_l0_step N R k x ks) (fun R x ks r h => ⟨N, h⟩) (lsOk_at (L := [impl_assignments_own_l0_0_s N]) ⟨impl_assignments_own_l0_0_ok N, trivial⟩) (by kernel_rfl) (by kernel_rfl)
noncomputable def impl_assignments_own (N : Nat) (vars : Int) (is : ((List Int) → Option Bool)) : Option (((List (List Int)) × Unit) × (Unit)) :=
  (chk (ile 0 vars)
    (impl_assignments_own_l0 N (fun o => some ((o, ()), ())) N vars is (shlI .i64 1 vars) 0 []))
noncomputable def impl_assignments_own_S (N : Nat) : FSum := ⟨impl_assignments_own_ps, impl_assignments_own_rs, fun x => impl_assignments_own N x.1 x.2.1⟩
theorem impl_assignments_own_run (N : Nat) (x : argsT impl_assignments_own_ps) : impl_assignments_own N x.1 x.2.1 = funF (impl_assignments_own_G N) tab [impl_assignments_own_l0_s N] Tryz.f72 impl_assignments_own_ps impl_assignments_own_rs x := by kernel_rfl
theorem impl_assignments_own_pc (N : Nat) : PC Tryz.prog 72 (impl_assignments_own_S N) := by
  have e : impl_assignments_own_S N = ⟨impl_assignments_own_ps, impl_assignments_own_rs, funF (impl_assignments_own_G N) tab [impl_assignments_own_l0_s N] Tryz.f72 impl_assignments_own_ps impl_assignments_own_rs⟩ := congrArg (FSum.mk impl_assignments_own_ps impl_assignments_own_rs) (funext (impl_assignments_own_run N))
  rw [e]
  exact fun_ok (c := impl_assignments_own_code) progOk (impl_assignments_own_gok N) (draw_ok progOk (impl_assignments_own_gok N)) Tryz.call72 Tryz.func72 (by kernel_rfl) (lsOk_at (L := [impl_assignments_own_l0_s N]) ⟨impl_assignments_own_l0_ok N, trivial⟩) (by kernel_rfl) (by kernel_rfl) (by kernel_rfl) (by kernel_rfl) (by kernel_rfl)

/-! ### impl_Formula_solutions -/
abbrev impl_Formula_solutions_ps : List (PV.Mode × Ty) := [(.ro, QILLI)]
abbrev impl_Formula_solutions_rs : List (Bool × Ty) := [(true, LLI)]
noncomputable def impl_Formula_solutions_G (N : Nat) : GTab := gOf [(24, impl_Formula_solves_S N), (72, impl_assignments_own_S N)]
theorem impl_Formula_solutions_gok (N : Nat) : GOk Tryz.prog (impl_Formula_solutions_G N) := gOf_ok ⟨impl_Formula_solves_pc N, impl_assignments_own_pc N, trivial⟩
noncomputable def impl_Formula_solutions_code : Code := (Tryz.f59.body).getD .skip
noncomputable def impl_Formula_solutions (N : Nat) (f : (Int × (List (List Int)))) : Option (((List (List Int)) × Unit) × (Unit)) :=
  ((impl_assignments_own N f.1 (fun y0 => (impl_Formula_solves N (f.1, f.2) y0).bind fun z => some z.1.1)).bind fun r =>
    some ((r.1.1, ()), ()))
noncomputable def impl_Formula_solutions_S (N : Nat) : FSum := ⟨impl_Formula_solutions_ps, impl_Formula_solutions_rs, fun x => impl_Formula_solutions N x.1⟩
theorem impl_Formula_solutions_run (N : Nat) (x : argsT impl_Formula_solutions_ps) : impl_Formula_solutions N x.1 = funF (impl_Formula_solutions_G N) tab [] Tryz.f59 impl_Formula_solutions_ps impl_Formula_solutions_rs x := by kernel_rfl
theorem impl_Formula_solutions_pc (N : Nat) : PC Tryz.prog 59 (impl_Formula_solutions_S N) := by
  have e : impl_Formula_solutions_S N = ⟨impl_Formula_solutions_ps, impl_Formula_solutions_rs, funF (impl_Formula_solutions_G N) tab [] Tryz.f59 impl_Formula_solutions_ps impl_Formula_solutions_rs⟩ := congrArg (FSum.mk impl_Formula_solutions_ps impl_Formula_solutions_rs) (funext (impl_Formula_solutions_run N))
  rw [e]
  exact fun_ok (c := impl_Formula_solutions_code) progOk (impl_Formula_solutions_gok N) (draw_ok progOk (impl_Formula_solutions_gok N)) Tryz.call59 Tryz.func59 (by kernel_rfl) (lsOk_at (L := []) trivial) (by kernel_rfl) (by kernel_rfl) (by kernel_rfl) (by kernel_rfl) (by kernel_rfl)

/-! ### cmp_isNaN_int -/
abbrev cmp_isNaN_int_ps : List (PV.Mode × Ty) := [(.ro, I)]
abbrev cmp_isNaN_int_rs : List (Bool × Ty) := [(true, .bool)]
noncomputable def cmp_isNaN_int_G (N : Nat) : GTab := gOf []
theorem cmp_isNaN_int_gok (N : Nat) : GOk Tryz.prog (cmp_isNaN_int_G N) := gOf_ok trivial
noncomputable def cmp_isNaN_int_code : Code := (Tryz.f92.body).getD .skip
noncomputable def cmp_isNaN_int (N : Nat) (x : Int) : Option ((Bool × Unit) × (Unit)) :=
  some (((ine x x), ()), ())
noncomputable def cmp_isNaN_int_S (N : Nat) : FSum := ⟨cmp_isNaN_int_ps, cmp_isNaN_int_rs, fun x => cmp_isNaN_int N x.1⟩
theorem cmp_isNaN_int_run (N : Nat) (x : argsT cmp_isNaN_int_ps) : cmp_isNaN_int N x.1 = funF (cmp_isNaN_int_G N) tab [] Tryz.f92 cmp_isNaN_int_ps cmp_isNaN_int_rs x := by kernel_rfl
theorem cmp_isNaN_int_pc (N : Nat) : PC Tryz.prog 92 (cmp_isNaN_int_S N) := by
  have e : cmp_isNaN_int_S N = ⟨cmp_isNaN_int_ps, cmp_isNaN_int_rs, funF (cmp_isNaN_int_G N) tab [] Tryz.f92 cmp_isNaN_int_ps cmp_isNaN_int_rs⟩ := congrArg (FSum.mk cmp_isNaN_int_ps cmp_isNaN_int_rs) (funext (cmp_isNaN_int_run N))
  rw [e]
  exact fun_ok (c := cmp_isNaN_int_code) progOk (cmp_isNaN_int_gok N) (draw_ok progOk (cmp_isNaN_int_gok N)) Tryz.call92 Tryz.func92 (by kernel_rfl) (lsOk_at (L := []) trivial) (by kernel_rfl) (by kernel_rfl) (by kernel_rfl) (by kernel_rfl) (by kernel_rfl)

/-! ### cmp_Compare_int -/
abbrev cmp_Compare_int_ps : List (PV.Mode × Ty) := [(.ro, I), (.ro, I)]
abbrev cmp_Compare_int_rs : List (Bool × Ty) := [(true, I)]
noncomputable def cmp_Compare_int_G (N : Nat) : GTab := gOf [(92, cmp_isNaN_int_S N)]
theorem cmp_Compare_int_gok (N : Nat) : GOk Tryz.prog (cmp_Compare_int_G N) := gOf_ok ⟨cmp_isNaN_int_pc N, trivial⟩
noncomputable def cmp_Compare_int_code : Code := (Tryz.f79.body).getD .skip
noncomputable def cmp_Compare_int (N : Nat) (x : Int) (y : Int) : Option ((Int × Unit) × (Unit)) :=
  ((cmp_isNaN_int N x).bind fun r =>
    ((cmp_isNaN_int N y).bind fun r1 =>
      (br r.1.1
        ((br r1.1.1
          (some ((0, ()), ()))
          (some (((-1), ()), ()))))
        ((br r1.1.1
          (some ((1, ()), ()))
          ((br (ilt x y)
            (some (((-1), ()), ()))
            ((br (ilt y x)
              (some ((1, ()), ()))
              (some ((0, ()), ())))))))))))
noncomputable def cmp_Compare_int_S (N : Nat) : FSum := ⟨cmp_Compare_int_ps, cmp_Compare_int_rs, fun x => cmp_Compare_int N x.1 x.2.1⟩
theorem cmp_Compare_int_run (N : Nat) (x : argsT cmp_Compare_int_ps) : cmp_Compare_int N x.1 x.2.1 = funF (cmp_Compare_int_G N) tab [] Tryz.f79 cmp_Compare_int_ps cmp_Compare_int_rs x := by kernel_rfl
theorem cmp_Compare_int_pc (N : Nat) : PC Tryz.prog 79 (cmp_Compare_int_S N) := by
  have e : cmp_Compare_int_S N = ⟨cmp_Compare_int_ps, cmp_Compare_int_rs, funF (cmp_Compare_int_G N) tab [] Tryz.f79 cmp_Compare_int_ps cmp_Compare_int_rs⟩ := congrArg (FSum.mk cmp_Compare_int_ps cmp_Compare_int_rs) (funext (cmp_Compare_int_run N))
  rw [e]
  exact fun_ok (c := cmp_Compare_int_code) progOk (cmp_Compare_int_gok N) (draw_ok progOk (cmp_Compare_int_gok N)) Tryz.call79 Tryz.func79 (by kernel_rfl) (lsOk_at (L := []) trivial) (by kernel_rfl) (by kernel_rfl) (by kernel_rfl) (by kernel_rfl) (by kernel_rfl)

/-! ### slices_Compare_LI_int -/
abbrev slices_Compare_LI_int_ps : List (PV.Mode × Ty) := [(.ro, LI), (.ro, LI)]
abbrev slices_Compare_LI_int_rs : List (Bool × Ty) := [(true, I)]
noncomputable def slices_Compare_LI_int_G (N : Nat) : GTab := gOf [(79, cmp_Compare_int_S N)]
theorem slices_Compare_LI_int_gok (N : Nat) : GOk Tryz.prog (slices_Compare_LI_int_G N) := gOf_ok ⟨cmp_Compare_int_pc N, trivial⟩
noncomputable def slices_Compare_LI_int_code : Code := (Tryz.f71.body).getD .skip
noncomputable def slices_Compare_LI_int_l0_sh : Sh := ⟨[(0, .one (.ro LI)), (1, .one (.ro LI)), (9, .one (.ro LI)), (10, .one (.ro I)), (11, .one (.ro I))], []⟩
noncomputable def slices_Compare_LI_int_l0_ex : List (Ex × Sh) := [(.ret, ⟨[(4, .one (.ro I))], []⟩), (.exit 0, ⟨[(0, .one (.ro LI)), (1, .one (.ro LI))], []⟩)]
noncomputable def slices_Compare_LI_int_l0 {R : Type} (N : Nat) (k0 : Int → Option R) (k1 : (List Int) → (List Int) → Option R) : Nat → (List Int) → (List Int) → (List Int) → Int → Int → Option R
  | 0, _, _, _, _, _ => none
  | K + 1, s11, s21, x, x1, x2 =>
    (br (ilt x2 x1)
      ((chk (inb x x2)
        (br (ile (tLen s21) x2)
        (k0 1)
        ((chk (inb s21 x2)
          ((cmp_Compare_int N (rdI x x2) (rdI s21 x2)).bind fun r =>
          (br (ine r.1.1 0)
            (k0 r.1.1)
            (slices_Compare_LI_int_l0 N k0 k1 K s11 s21 x x1 (IntKind.i64.wrap (x2 + 1))))))))))
      (k1 s11 s21))
noncomputable def slices_Compare_LI_int_l0_again {R : Type} (N : Nat) (ks : (j : Nat) → ((slices_Compare_LI_int_l0_ex.getD j (.ret, Sh.none)).2).T → Option R) (k : Nat) (x : slices_Compare_LI_int_l0_sh.T) : Option R :=
  slices_Compare_LI_int_l0 N (fun y0 => ks 0 ((y0, ()), ())) (fun y0 y1 => ks 1 ((y0, y1, ()), ())) k x.1.1 x.1.2.1 x.1.2.2.1 x.1.2.2.2.1 x.1.2.2.2.2.1
noncomputable def slices_Compare_LI_int_l0_s (N : Nat) : LSum := ⟨slices_Compare_LI_int_l0_sh, slices_Compare_LI_int_l0_ex, fun x ks => slices_Compare_LI_int_l0_again N ks N x⟩
theorem slices_Compare_LI_int_l0_step (N : Nat) (R : Type) (k : Nat) (x : slices_Compare_LI_int_l0_sh.T) (ks : (j : Nat) → ((slices_Compare_LI_int_l0_ex.getD j (.ret, Sh.none)).2).T → Option R) : slices_Compare_LI_int_l0_again N ks (k + 1) x = roundF (slices_Compare_LI_int_G N) tab [] (loopAt slices_Compare_LI_int_code 0) slices_Compare_LI_int_l0_sh slices_Compare_LI_int_l0_ex (fun y => slices_Compare_LI_int_l0_again N ks k y) ks x := by kernel_rfl
theorem slices_Compare_LI_int_l0_ok (N : Nat) : LoopOk Tryz.prog Tryz.f71.ntmps (slices_Compare_LI_int_l0_s N) (loopAt slices_Compare_LI_int_code 0) :=
  loop_ok (l := slices_Compare_LI_int_l0_s N) progOk (slices_Compare_LI_int_gok N) (draw_ok progOk (slices_Compare_LI_int_gok N)) (fun R k x ks => slices_Compare_LI_int_l0_again N ks k x) (fun _ _ _ => rfl) (fun R k x ks => slices_Compare_LI_int_l0_step N R k x ks) (fun R x ks r h => ⟨N, h⟩) (lsOk_at (L := []) trivial) (by kernel_rfl) (by kernel_rfl)
noncomputable def slices_Compare_LI_int (N : Nat) (s1 : (List Int)) (s2 : (List Int)) : Option ((Int × Unit) × (Unit)) :=
  slices_Compare_LI_int_l0 N (fun x => some ((x, ()), ())) (fun s11 s21 => (br (ilt (tLen s11) (tLen s21))
    (some (((-1), ()), ()))
    (some ((0, ()), ())))) N s1 s2 s1 (tLen s1) 0
noncomputable def slices_Compare_LI_int_S (N : Nat) : FSum := ⟨slices_Compare_LI_int_ps, slices_Compare_LI_int_rs, fun x => slices_Compare_LI_int N x.1 x.2.1⟩
theorem slices_Compare_LI_int_run (N : Nat) (x : argsT slices_Compare_LI_int_ps) : slices_Compare_LI_int N x.1 x.2.1 = funF (slices_Compare_LI_int_G N) tab [slices_Compare_LI_int_l0_s N] Tryz.f71 slices_Compare_LI_int_ps slices_Compare_LI_int_rs x := by kernel_rfl
theorem slices_Compare_LI_int_pc (N : Nat) : PC Tryz.prog 71 (slices_Compare_LI_int_S N) := by
  have e : slices_Compare_LI_int_S N = ⟨slices_Compare_LI_int_ps, slices_Compare_LI_int_rs, funF (slices_Compare_LI_int_G N) tab [slices_Compare_LI_int_l0_s N] Tryz.f71 slices_Compare_LI_int_ps slices_Compare_LI_int_rs⟩ := congrArg (FSum.mk slices_Compare_LI_int_ps slices_Compare_LI_int_rs) (funext (slices_Compare_LI_int_run N))
  rw [e]
  exact fun_ok (c := slices_Compare_LI_int_code) progOk (slices_Compare_LI_int_gok N) (draw_ok progOk (slices_Compare_LI_int_gok N)) Tryz.call71 Tryz.func71 (by kernel_rfl) (lsOk_at (L := [slices_Compare_LI_int_l0_s N]) ⟨slices_Compare_LI_int_l0_ok N, trivial⟩) (by kernel_rfl) (by kernel_rfl) (by kernel_rfl) (by kernel_rfl) (by kernel_rfl)

/-! ### slices_SortFunc_LLI_LI_kslices_Compare_LI_int -/
abbrev slices_SortFunc_LLI_LI_kslices_Compare_LI_int_ps : List (PV.Mode × Ty) := [(.mut, LLI), (.own, K71Un)]
abbrev slices_SortFunc_LLI_LI_kslices_Compare_LI_int_rs : List (Bool × Ty) := []
noncomputable def slices_SortFunc_LLI_LI_kslices_Compare_LI_int (N : Nat) (x : List (List Int)) (_ : Unit) : Option (Unit × (List (List Int) × Unit)) := sortF (fun a b => (slices_Compare_LI_int N a b).map fun z => z.1.1) x
noncomputable def slices_SortFunc_LLI_LI_kslices_Compare_LI_int_S (N : Nat) : FSum := ⟨slices_SortFunc_LLI_LI_kslices_Compare_LI_int_ps, slices_SortFunc_LLI_LI_kslices_Compare_LI_int_rs, fun x => slices_SortFunc_LLI_LI_kslices_Compare_LI_int N x.1 x.2.1⟩
theorem slices_SortFunc_LLI_LI_kslices_Compare_LI_int_pc (N : Nat) : PC Tryz.prog 70 (slices_SortFunc_LLI_LI_kslices_Compare_LI_int_S N) := sortRows_pc (fc := fun a b => slices_Compare_LI_int N a b) (sortsAt Tryz.sortL) (sortsNone Tryz.sortL) Tryz.call70 (slices_Compare_LI_int_pc N)

/-! ### impl_spaceOf -/
abbrev impl_spaceOf_ps : List (PV.Mode × Ty) := [(.own, LLI), (.ro, GLILIBo)]
abbrev impl_spaceOf_rs : List (Bool × Ty) := [(true, QLLILQII)]
noncomputable def impl_spaceOf_G (N : Nat) : GTab := gOf [(70, slices_SortFunc_LLI_LI_kslices_Compare_LI_int_S N)]
theorem impl_spaceOf_gok (N : Nat) : GOk Tryz.prog (impl_spaceOf_G N) := gOf_ok ⟨slices_SortFunc_LLI_LI_kslices_Compare_LI_int_pc N, trivial⟩
noncomputable def impl_spaceOf_code : Code := (Tryz.f58.body).getD .skip
noncomputable def impl_spaceOf_l0_0_sh : Sh := ⟨[(1, .one (.ro GLILIBo)), (4, .one (.adr 0 0)), (5, .one (.adr 1 0)), (6, .one (.ro I)), (7, .one (.el 2)), (16, .one (.ref 2)), (17, .one (.ro I)), (18, .one (.ro I)), (27, .one (.sub 2 1)), (28, .one (.ro I)), (29, .one (.ro I))], [.box [.nilsl, .nilsl], .box [.ref 2, .ref 3], .sl 27 LI .deep, .sl 84 QII .own]⟩
noncomputable def impl_spaceOf_l0_0_ex : List (Ex × Sh) := [(.exit 2, ⟨[(1, .one (.ro GLILIBo)), (4, .one (.adr 0 0)), (5, .one (.adr 1 0)), (16, .one (.ref 2)), (17, .one (.ro I)), (18, .one (.ro I))], [.box [.nilsl, .nilsl], .box [.ref 2, .ref 3], .sl 27 LI .deep, .sl 84 QII .own]⟩)]
noncomputable def impl_spaceOf_l0_0 {R : Type} (N : Nat) (k0 : ((List Int) → (List Int) → Option Bool) → Int → Int → (List (List Int)) → (List (Int × Int)) → Option R) : Nat → ((List Int) → (List Int) → Option Bool) → Int → Int → Int → Int → Int → Int → Int → Int → (List (List Int)) → (List (Int × Int)) → Option R
  | 0, _, _, _, _, _, _, _, _, _, _, _ => none
  | K + 1, isStep2, i, a, x2, x3, x4, x5, x6, x7, o2, o3 =>
    (br (ilt x7 x6)
      ((chk (ile 0 x7 && ilt x7 (x5 - x4))
        ((isStep2 (rdL o2 a) (rdL o2 (x4 + x7))).bind fun v =>
        (br v
        ((chk (room o3 [(i, (IntKind.i64.wrap ((IntKind.i64.wrap (i + 1)) + x7)))])
          (impl_spaceOf_l0_0 N k0 K isStep2 i a x2 x3 x4 x5 x6 (IntKind.i64.wrap (x7 + 1)) o2 (tApp o3 [(i, (IntKind.i64.wrap ((IntKind.i64.wrap (i + 1)) + x7)))]))))
        (impl_spaceOf_l0_0 N k0 K isStep2 i a x2 x3 x4 x5 x6 (IntKind.i64.wrap (x7 + 1)) o2 o3)))))
      (k0 isStep2 x2 x3 o2 o3))
noncomputable def impl_spaceOf_l0_0_again {R : Type} (N : Nat) (ks : (j : Nat) → ((impl_spaceOf_l0_0_ex.getD j (.ret, Sh.none)).2).T → Option R) (k : Nat) (x : impl_spaceOf_l0_0_sh.T) : Option R :=
  impl_spaceOf_l0_0 N (fun y0 y1 y2 y3 y4 => ks 0 ((y0, (), (), (), y1, y2, ()), (((), (), ()), ((), (), ()), y3, y4, ()))) k x.1.1 x.1.2.2.2.1 x.1.2.2.2.2.1 x.1.2.2.2.2.2.2.1 x.1.2.2.2.2.2.2.2.1 x.1.2.2.2.2.2.2.2.2.1.1 x.1.2.2.2.2.2.2.2.2.1.2 x.1.2.2.2.2.2.2.2.2.2.1 x.1.2.2.2.2.2.2.2.2.2.2.1 x.2.2.2.1 x.2.2.2.2.1
noncomputable def impl_spaceOf_l0_0_s (N : Nat) : LSum := ⟨impl_spaceOf_l0_0_sh, impl_spaceOf_l0_0_ex, fun x ks => impl_spaceOf_l0_0_again N ks N x⟩
theorem impl_spaceOf_l0_0_step (N : Nat) (R : Type) (k : Nat) (x : impl_spaceOf_l0_0_sh.T) (ks : (j : Nat) → ((impl_spaceOf_l0_0_ex.getD j (.ret, Sh.none)).2).T → Option R) : impl_spaceOf_l0_0_again N ks (k + 1) x = roundF (impl_spaceOf_G N) tab [] (loopAt (loopAt impl_spaceOf_code 0) 0) impl_spaceOf_l0_0_sh impl_spaceOf_l0_0_ex (fun y => impl_spaceOf_l0_0_again N ks k y) ks x := by kernel_rfl
theorem impl_spaceOf_l0_0_ok (N : Nat) : LoopOk Tryz.prog Tryz.f58.ntmps (impl_spaceOf_l0_0_s N) (loopAt (loopAt impl_spaceOf_code 0) 0) :=
  loop_ok (l := impl_spaceOf_l0_0_s N) progOk (impl_spaceOf_gok N) (draw_ok progOk (impl_spaceOf_gok N)) (fun R k x ks => impl_spaceOf_l0_0_again N ks k x) (fun _ _ _ => rfl) (fun R k x ks => impl_spaceOf_l0_0_step N R k x ks) (fun R x ks r h => ⟨N, h⟩) (lsOk_at (L := []) trivial) (by kernel_rfl) (by kernel_rfl)
noncomputable def impl_spaceOf_l0_sh : Sh := ⟨[(1, .one (.ro GLILIBo)), (4, .one (.adr 0 0)), (5, .one (.adr 1 0)), (16, .one (.ref 2)), (17, .one (.ro I)), (18, .one (.ro I))], [.box [.nilsl, .nilsl], .box [.ref 2, .ref 3], .sl 27 LI .deep, .sl 84 QII .own]⟩
noncomputable def impl_spaceOf_l0_ex : List (Ex × Sh) := [(.exit 0, ⟨[(4, .one (.adr 0 0)), (5, .one (.adr 1 0))], [.box [.nilsl, .nilsl], .box [.ref 2, .ref 3], .sl 27 LI .deep, .sl 84 QII .own]⟩)]
noncomputable def impl_spaceOf_l0 {R : Type} (N : Nat) (k0 : (List (List Int)) → (List (Int × Int)) → Option R) : Nat → ((List Int) → (List Int) → Option Bool) → Int → Int → (List (List Int)) → (List (Int × Int)) → Option R
  | 0, _, _, _, _, _ => none
  | K + 1, isStep1, x, x1, o, o1 =>
    (br (ilt x1 x)
      ((chk (inb o x1)
        (chk (ile 0 (IntKind.i64.wrap (x1 + 1)) && ile (IntKind.i64.wrap (x1 + 1)) (tLen o) && ile (tLen o) (tLen o))
        (impl_spaceOf_l0_0 N (fun isStep2 x2 x3 o2 o3 => impl_spaceOf_l0 N k0 K isStep2 x2 (IntKind.i64.wrap (x3 + 1)) o2 o3) N isStep1 x1 x1 x x1 (IntKind.i64.wrap (x1 + 1)) (tLen o) ((tLen o) - (IntKind.i64.wrap (x1 + 1))) 0 o o1))))
      (k0 o o1))
noncomputable def impl_spaceOf_l0_again {R : Type} (N : Nat) (ks : (j : Nat) → ((impl_spaceOf_l0_ex.getD j (.ret, Sh.none)).2).T → Option R) (k : Nat) (x : impl_spaceOf_l0_sh.T) : Option R :=
  impl_spaceOf_l0 N (fun y0 y1 => ks 0 (((), (), ()), (((), (), ()), ((), (), ()), y0, y1, ()))) k x.1.1 x.1.2.2.2.2.1 x.1.2.2.2.2.2.1 x.2.2.2.1 x.2.2.2.2.1
noncomputable def impl_spaceOf_l0_s (N : Nat) : LSum := ⟨impl_spaceOf_l0_sh, impl_spaceOf_l0_ex, fun x ks => impl_spaceOf_l0_again N ks N x⟩
theorem impl_spaceOf_l0_step (N : Nat) (R : Type) (k : Nat) (x : impl_spaceOf_l0_sh.T) (ks : (j : Nat) → ((impl_spaceOf_l0_ex.getD j (.ret, Sh.none)).2).T → Option R) : impl_spaceOf_l0_again N ks (k + 1) x = roundF (impl_spaceOf_G N) tab [impl_spaceOf_l0_0_s N] (loopAt impl_spaceOf_code 0) impl_spaceOf_l0_sh impl_spaceOf_l0_ex (fun y => impl_spaceOf_l0_again N ks k y) ks x := by kernel_rfl
theorem impl_spaceOf_l0_ok (N : Nat) : LoopOk Tryz.prog Tryz.f58.ntmps (impl_spaceOf_l0_s N) (loopAt impl_spaceOf_code 0) :=
  loop_ok (l := impl_spaceOf_l0_s N) progOk (impl_spaceOf_gok N) (draw_ok progOk (impl_spaceOf_gok N)) (fun R k x ks => impl_spaceOf_l0_again N ks k x) (fun _ _ _ => rfl) (fun R k x ks => impl_spaceOf_l0_step N R k x ks) (fun R x ks r h => ⟨N, h⟩) (lsOk_at (L := [impl_spaceOf_l0_0_s N]) ⟨impl_spaceOf_l0_0_ok N, trivial⟩) (by kernel_rfl) (by kernel_rfl)
noncomputable def impl_spaceOf (N : Nat) (states : (List (List Int))) (isStep : ((List Int) → (List Int) → Option Bool)) : Option ((((List (List Int)) × (List (Int × Int))) × Unit) × (Unit)) :=
  ((slices_SortFunc_LLI_LI_kslices_Compare_LI_int N states ()).bind fun r =>
    impl_spaceOf_l0 N (fun o o1 => some (((o, o1), ()), ())) N isStep (tLen r.2.1) 0 r.2.1 [])
noncomputable def impl_spaceOf_S (N : Nat) : FSum := ⟨impl_spaceOf_ps, impl_spaceOf_rs, fun x => impl_spaceOf N x.1 x.2.1⟩
theorem impl_spaceOf_run (N : Nat) (x : argsT impl_spaceOf_ps) : impl_spaceOf N x.1 x.2.1 = funF (impl_spaceOf_G N) tab [impl_spaceOf_l0_s N] Tryz.f58 impl_spaceOf_ps impl_spaceOf_rs x := by kernel_rfl
theorem impl_spaceOf_pc (N : Nat) : PC Tryz.prog 58 (impl_spaceOf_S N) := by
  have e : impl_spaceOf_S N = ⟨impl_spaceOf_ps, impl_spaceOf_rs, funF (impl_spaceOf_G N) tab [impl_spaceOf_l0_s N] Tryz.f58 impl_spaceOf_ps impl_spaceOf_rs⟩ := congrArg (FSum.mk impl_spaceOf_ps impl_spaceOf_rs) (funext (impl_spaceOf_run N))
  rw [e]
  exact fun_ok (c := impl_spaceOf_code) progOk (impl_spaceOf_gok N) (draw_ok progOk (impl_spaceOf_gok N)) Tryz.call58 Tryz.func58 (by kernel_rfl) (lsOk_at (L := [impl_spaceOf_l0_s N]) ⟨impl_spaceOf_l0_ok N, trivial⟩) (by kernel_rfl) (by kernel_rfl) (by kernel_rfl) (by kernel_rfl) (by kernel_rfl)

/-! ### impl_places -/
abbrev impl_places_ps : List (PV.Mode × Ty) := [(.ro, LI), (.ro, LI)]
abbrev impl_places_rs : List (Bool × Ty) := [(true, LI)]
noncomputable def impl_places_G (N : Nat) : GTab := gOf []
theorem impl_places_gok (N : Nat) : GOk Tryz.prog (impl_places_G N) := gOf_ok trivial
noncomputable def impl_places_code : Code := (Tryz.f39.body).getD .skip
noncomputable def impl_places_l0_sh : Sh := ⟨[(1, .one (.ro LI)), (5, .one (.ref 0)), (9, .one (.ro LI)), (10, .one (.ro I)), (11, .one (.ro I))], [.sl 3 I .own]⟩
noncomputable def impl_places_l0_ex : List (Ex × Sh) := [(.exit 0, ⟨[(5, .one (.ref 0))], [.sl 3 I .own]⟩)]
noncomputable def impl_places_l0 {R : Type} (N : Nat) (k0 : (List Int) → Option R) : Nat → (List Int) → (List Int) → Int → Int → (List Int) → Option R
  | 0, _, _, _, _, _ => none
  | K + 1, b1, x, x1, x2, o =>
    (br (ilt x2 x1)
      ((chk (inb x x2)
        (chk (inb b1 x2)
        (br (ine (rdI b1 x2) (rdI x x2))
        ((chk (room o [x2])
          (impl_places_l0 N k0 K b1 x x1 (IntKind.i64.wrap (x2 + 1)) (tApp o [x2]))))
        (impl_places_l0 N k0 K b1 x x1 (IntKind.i64.wrap (x2 + 1)) o)))))
      (k0 o))
noncomputable def impl_places_l0_again {R : Type} (N : Nat) (ks : (j : Nat) → ((impl_places_l0_ex.getD j (.ret, Sh.none)).2).T → Option R) (k : Nat) (x : impl_places_l0_sh.T) : Option R :=
  impl_places_l0 N (fun y0 => ks 0 (((), ()), (y0, ()))) k x.1.1 x.1.2.2.1 x.1.2.2.2.1 x.1.2.2.2.2.1 x.2.1
noncomputable def impl_places_l0_s (N : Nat) : LSum := ⟨impl_places_l0_sh, impl_places_l0_ex, fun x ks => impl_places_l0_again N ks N x⟩
theorem impl_places_l0_step (N : Nat) (R : Type) (k : Nat) (x : impl_places_l0_sh.T) (ks : (j : Nat) → ((impl_places_l0_ex.getD j (.ret, Sh.none)).2).T → Option R) : impl_places_l0_again N ks (k + 1) x = roundF (impl_places_G N) tab [] (loopAt impl_places_code 0) impl_places_l0_sh impl_places_l0_ex (fun y => impl_places_l0_again N ks k y) ks x := by kernel_rfl
theorem impl_places_l0_ok (N : Nat) : LoopOk Tryz.prog Tryz.f39.ntmps (impl_places_l0_s N) (loopAt impl_places_code 0) :=
  loop_ok (l := impl_places_l0_s N) progOk (impl_places_gok N) (draw_ok progOk (impl_places_gok N)) (fun R k x ks => impl_places_l0_again N ks k x) (fun _ _ _ => rfl) (fun R k x ks => impl_places_l0_step N R k x ks) (fun R x ks r h => ⟨N, h⟩) (lsOk_at (L := []) trivial) (by kernel_rfl) (by kernel_rfl)
noncomputable def impl_places (N : Nat) (a : (List Int)) (b : (List Int)) : Option (((List Int) × Unit) × (Unit)) :=
  impl_places_l0 N (fun o => some ((o, ()), ())) N b a (tLen a) 0 []
noncomputable def impl_places_S (N : Nat) : FSum := ⟨impl_places_ps, impl_places_rs, fun x => impl_places N x.1 x.2.1⟩
theorem impl_places_run (N : Nat) (x : argsT impl_places_ps) : impl_places N x.1 x.2.1 = funF (impl_places_G N) tab [impl_places_l0_s N] Tryz.f39 impl_places_ps impl_places_rs x := by kernel_rfl
theorem impl_places_pc (N : Nat) : PC Tryz.prog 39 (impl_places_S N) := by
  have e : impl_places_S N = ⟨impl_places_ps, impl_places_rs, funF (impl_places_G N) tab [impl_places_l0_s N] Tryz.f39 impl_places_ps impl_places_rs⟩ := congrArg (FSum.mk impl_places_ps impl_places_rs) (funext (impl_places_run N))
  rw [e]
  exact fun_ok (c := impl_places_code) progOk (impl_places_gok N) (draw_ok progOk (impl_places_gok N)) Tryz.call39 Tryz.func39 (by kernel_rfl) (lsOk_at (L := [impl_places_l0_s N]) ⟨impl_places_l0_ok N, trivial⟩) (by kernel_rfl) (by kernel_rfl) (by kernel_rfl) (by kernel_rfl) (by kernel_rfl)

/-! ### impl_isChange -/
abbrev impl_isChange_ps : List (PV.Mode × Ty) := [(.ro, LI), (.ro, LI)]
abbrev impl_isChange_rs : List (Bool × Ty) := [(true, .bool)]
noncomputable def impl_isChange_G (N : Nat) : GTab := gOf [(39, impl_places_S N)]
theorem impl_isChange_gok (N : Nat) : GOk Tryz.prog (impl_isChange_G N) := gOf_ok ⟨impl_places_pc N, trivial⟩
noncomputable def impl_isChange_code : Code := (Tryz.f60.body).getD .skip
noncomputable def impl_isChange (N : Nat) (a : (List Int)) (b : (List Int)) : Option ((Bool × Unit) × (Unit)) :=
  ((impl_places N a b).bind fun r =>
    some (((ieq (tLen r.1.1) 1), ()), ()))
noncomputable def impl_isChange_S (N : Nat) : FSum := ⟨impl_isChange_ps, impl_isChange_rs, fun x => impl_isChange N x.1 x.2.1⟩
theorem impl_isChange_run (N : Nat) (x : argsT impl_isChange_ps) : impl_isChange N x.1 x.2.1 = funF (impl_isChange_G N) tab [] Tryz.f60 impl_isChange_ps impl_isChange_rs x := by kernel_rfl
theorem impl_isChange_pc (N : Nat) : PC Tryz.prog 60 (impl_isChange_S N) := by
  have e : impl_isChange_S N = ⟨impl_isChange_ps, impl_isChange_rs, funF (impl_isChange_G N) tab [] Tryz.f60 impl_isChange_ps impl_isChange_rs⟩ := congrArg (FSum.mk impl_isChange_ps impl_isChange_rs) (funext (impl_isChange_run N))
  rw [e]
  exact fun_ok (c := impl_isChange_code) progOk (impl_isChange_gok N) (draw_ok progOk (impl_isChange_gok N)) Tryz.call60 Tryz.func60 (by kernel_rfl) (lsOk_at (L := []) trivial) (by kernel_rfl) (by kernel_rfl) (by kernel_rfl) (by kernel_rfl) (by kernel_rfl)

/-! ### impl_Formula_flips -/
abbrev impl_Formula_flips_ps : List (PV.Mode × Ty) := [(.ro, QILLI)]
abbrev impl_Formula_flips_rs : List (Bool × Ty) := [(true, QLLILQII)]
noncomputable def impl_Formula_flips_G (N : Nat) : GTab := gOf [(59, impl_Formula_solutions_S N), (58, impl_spaceOf_S N), (60, impl_isChange_S N)]
theorem impl_Formula_flips_gok (N : Nat) : GOk Tryz.prog (impl_Formula_flips_G N) := gOf_ok ⟨impl_Formula_solutions_pc N, impl_spaceOf_pc N, impl_isChange_pc N, trivial⟩
noncomputable def impl_Formula_flips_code : Code := (Tryz.f37.body).getD .skip
noncomputable def impl_Formula_flips (N : Nat) (f : (Int × (List (List Int)))) : Option ((((List (List Int)) × (List (Int × Int))) × Unit) × (Unit)) :=
  ((impl_Formula_solutions N (f.1, f.2)).bind fun r =>
    ((impl_spaceOf N r.1.1 (fun y0 y1 => (impl_isChange N y0 y1).bind fun z => some z.1.1)).bind fun r1 =>
      some (((r1.1.1.1, r1.1.1.2), ()), ())))
noncomputable def impl_Formula_flips_S (N : Nat) : FSum := ⟨impl_Formula_flips_ps, impl_Formula_flips_rs, fun x => impl_Formula_flips N x.1⟩
theorem impl_Formula_flips_run (N : Nat) (x : argsT impl_Formula_flips_ps) : impl_Formula_flips N x.1 = funF (impl_Formula_flips_G N) tab [] Tryz.f37 impl_Formula_flips_ps impl_Formula_flips_rs x := by kernel_rfl
theorem impl_Formula_flips_pc (N : Nat) : PC Tryz.prog 37 (impl_Formula_flips_S N) := by
  have e : impl_Formula_flips_S N = ⟨impl_Formula_flips_ps, impl_Formula_flips_rs, funF (impl_Formula_flips_G N) tab [] Tryz.f37 impl_Formula_flips_ps impl_Formula_flips_rs⟩ := congrArg (FSum.mk impl_Formula_flips_ps impl_Formula_flips_rs) (funext (impl_Formula_flips_run N))
  rw [e]
  exact fun_ok (c := impl_Formula_flips_code) progOk (impl_Formula_flips_gok N) (draw_ok progOk (impl_Formula_flips_gok N)) Tryz.call37 Tryz.func37 (by kernel_rfl) (lsOk_at (L := []) trivial) (by kernel_rfl) (by kernel_rfl) (by kernel_rfl) (by kernel_rfl) (by kernel_rfl)

/-! ### slices_BinarySearchFunc_LLI_LI_LI -/
abbrev slices_BinarySearchFunc_LLI_LI_LI_ps : List (PV.Mode × Ty) := [(.ro, LLI), (.ro, LI), (.ro, GLILII)]
abbrev slices_BinarySearchFunc_LLI_LI_LI_rs : List (Bool × Ty) := [(true, I), (true, .bool)]
noncomputable def slices_BinarySearchFunc_LLI_LI_LI_G (N : Nat) : GTab := gOf []
theorem slices_BinarySearchFunc_LLI_LI_LI_gok (N : Nat) : GOk Tryz.prog (slices_BinarySearchFunc_LLI_LI_LI_G N) := gOf_ok trivial
noncomputable def slices_BinarySearchFunc_LLI_LI_LI_code : Code := (Tryz.f73.body).getD .skip
noncomputable def slices_BinarySearchFunc_LLI_LI_LI_l0_sh : Sh := ⟨[(0, .one (.ro LLI)), (1, .one (.ro LI)), (2, .one (.ro GLILII)), (8, .one (.ro I)), (9, .one (.ro I)), (10, .one (.ro I))], []⟩
noncomputable def slices_BinarySearchFunc_LLI_LI_LI_l0_ex : List (Ex × Sh) := [(.exit 0, ⟨[(0, .one (.ro LLI)), (1, .one (.ro LI)), (2, .one (.ro GLILII)), (8, .one (.ro I)), (9, .one (.ro I))], []⟩)]
noncomputable def slices_BinarySearchFunc_LLI_LI_LI_l0 {R : Type} (N : Nat) (k0 : (List (List Int)) → (List Int) → ((List Int) → (List Int) → Option Int) → Int → Int → Option R) : Nat → (List (List Int)) → (List Int) → ((List Int) → (List Int) → Option Int) → Int → Int → Int → Option R
  | 0, _, _, _, _, _, _ => none
  | K + 1, x1, target1, cmp1, n, i, j =>
    (br (ilt i j)
      ((chk (inb x1 (IntKind.i64.wrap ((shrI .u64 (IntKind.u64.wrap ((IntKind.i64.wrap (i + j)))) 1))))
        ((cmp1 (rdL x1 (IntKind.i64.wrap ((shrI .u64 (IntKind.u64.wrap ((IntKind.i64.wrap (i + j)))) 1)))) target1).bind fun v =>
        (br (ilt v 0)
        (slices_BinarySearchFunc_LLI_LI_LI_l0 N k0 K x1 target1 cmp1 n (IntKind.i64.wrap ((IntKind.i64.wrap ((shrI .u64 (IntKind.u64.wrap ((IntKind.i64.wrap (i + j)))) 1))) + 1)) j)
        (slices_BinarySearchFunc_LLI_LI_LI_l0 N k0 K x1 target1 cmp1 n i (IntKind.i64.wrap ((shrI .u64 (IntKind.u64.wrap ((IntKind.i64.wrap (i + j)))) 1))))))))
      (k0 x1 target1 cmp1 n i))
noncomputable def slices_BinarySearchFunc_LLI_LI_LI_l0_again {R : Type} (N : Nat) (ks : (j : Nat) → ((slices_BinarySearchFunc_LLI_LI_LI_l0_ex.getD j (.ret, Sh.none)).2).T → Option R) (k : Nat) (x : slices_BinarySearchFunc_LLI_LI_LI_l0_sh.T) : Option R :=
  slices_BinarySearchFunc_LLI_LI_LI_l0 N (fun y0 y1 y2 y3 y4 => ks 0 ((y0, y1, y2, y3, y4, ()), ())) k x.1.1 x.1.2.1 x.1.2.2.1 x.1.2.2.2.1 x.1.2.2.2.2.1 x.1.2.2.2.2.2.1
noncomputable def slices_BinarySearchFunc_LLI_LI_LI_l0_s (N : Nat) : LSum := ⟨slices_BinarySearchFunc_LLI_LI_LI_l0_sh, slices_BinarySearchFunc_LLI_LI_LI_l0_ex, fun x ks => slices_BinarySearchFunc_LLI_LI_LI_l0_again N ks N x⟩
theorem slices_BinarySearchFunc_LLI_LI_LI_l0_step (N : Nat) (R : Type) (k : Nat) (x : slices_BinarySearchFunc_LLI_LI_LI_l0_sh.T) (ks : (j : Nat) → ((slices_BinarySearchFunc_LLI_LI_LI_l0_ex.getD j (.ret, Sh.none)).2).T → Option R) : slices_BinarySearchFunc_LLI_LI_LI_l0_again N ks (k + 1) x = roundF (slices_BinarySearchFunc_LLI_LI_LI_G N) tab [] (loopAt slices_BinarySearchFunc_LLI_LI_LI_code 0) slices_BinarySearchFunc_LLI_LI_LI_l0_sh slices_BinarySearchFunc_LLI_LI_LI_l0_ex (fun y => slices_BinarySearchFunc_LLI_LI_LI_l0_again N ks k y) ks x := by kernel_rfl
theorem slices_BinarySearchFunc_LLI_LI_LI_l0_ok (N : Nat) : LoopOk Tryz.prog Tryz.f73.ntmps (slices_BinarySearchFunc_LLI_LI_LI_l0_s N) (loopAt slices_BinarySearchFunc_LLI_LI_LI_code 0) :=
  loop_ok (l := slices_BinarySearchFunc_LLI_LI_LI_l0_s N) progOk (slices_BinarySearchFunc_LLI_LI_LI_gok N) (draw_ok progOk (slices_BinarySearchFunc_LLI_LI_LI_gok N)) (fun R k x ks => slices_BinarySearchFunc_LLI_LI_LI_l0_again N ks k x) (fun _ _ _ => rfl) (fun R k x ks => slices_BinarySearchFunc_LLI_LI_LI_l0_step N R k x ks) (fun R x ks r h => ⟨N, h⟩) (lsOk_at (L := []) trivial) (by kernel_rfl) (by kernel_rfl)
noncomputable def slices_BinarySearchFunc_LLI_LI_LI (N : Nat) (x : (List (List Int))) (target : (List Int)) (cmp : ((List Int) → (List Int) → Option Int)) : Option ((Int × Bool × Unit) × (Unit)) :=
  slices_BinarySearchFunc_LLI_LI_LI_l0 N (fun x1 target1 cmp1 n i => (br (ilt i n)
    ((chk (inb x1 i)
      ((cmp1 (rdL x1 i) target1).bind fun v =>
      some ((i, (ieq v 0), ()), ()))))
    (some ((i, false, ()), ())))) N x target cmp (tLen x) 0 (tLen x)
noncomputable def slices_BinarySearchFunc_LLI_LI_LI_S (N : Nat) : FSum := ⟨slices_BinarySearchFunc_LLI_LI_LI_ps, slices_BinarySearchFunc_LLI_LI_LI_rs, fun x => slices_BinarySearchFunc_LLI_LI_LI N x.1 x.2.1 x.2.2.1⟩
theorem slices_BinarySearchFunc_LLI_LI_LI_run (N : Nat) (x : argsT slices_BinarySearchFunc_LLI_LI_LI_ps) : slices_BinarySearchFunc_LLI_LI_LI N x.1 x.2.1 x.2.2.1 = funF (slices_BinarySearchFunc_LLI_LI_LI_G N) tab [slices_BinarySearchFunc_LLI_LI_LI_l0_s N] Tryz.f73 slices_BinarySearchFunc_LLI_LI_LI_ps slices_BinarySearchFunc_LLI_LI_LI_rs x := by kernel_rfl
theorem slices_BinarySearchFunc_LLI_LI_LI_pc (N : Nat) : PC Tryz.prog 73 (slices_BinarySearchFunc_LLI_LI_LI_S N) := by
  have e : slices_BinarySearchFunc_LLI_LI_LI_S N = ⟨slices_BinarySearchFunc_LLI_LI_LI_ps, slices_BinarySearchFunc_LLI_LI_LI_rs, funF (slices_BinarySearchFunc_LLI_LI_LI_G N) tab [slices_BinarySearchFunc_LLI_LI_LI_l0_s N] Tryz.f73 slices_BinarySearchFunc_LLI_LI_LI_ps slices_BinarySearchFunc_LLI_LI_LI_rs⟩ := congrArg (FSum.mk slices_BinarySearchFunc_LLI_LI_LI_ps slices_BinarySearchFunc_LLI_LI_LI_rs) (funext (slices_BinarySearchFunc_LLI_LI_LI_run N))
  rw [e]
  exact fun_ok (c := slices_BinarySearchFunc_LLI_LI_LI_code) progOk (slices_BinarySearchFunc_LLI_LI_LI_gok N) (draw_ok progOk (slices_BinarySearchFunc_LLI_LI_LI_gok N)) Tryz.call73 Tryz.func73 (by kernel_rfl) (lsOk_at (L := [slices_BinarySearchFunc_LLI_LI_LI_l0_s N]) ⟨slices_BinarySearchFunc_LLI_LI_LI_l0_ok N, trivial⟩) (by kernel_rfl) (by kernel_rfl) (by kernel_rfl) (by kernel_rfl) (by kernel_rfl)

/-! ### impl_Space_place -/
abbrev impl_Space_place_ps : List (PV.Mode × Ty) := [(.ro, QLLILQII), (.ro, LI)]
abbrev impl_Space_place_rs : List (Bool × Ty) := [(true, I), (true, .bool)]
noncomputable def impl_Space_place_G (N : Nat) : GTab := gOf [(73, slices_BinarySearchFunc_LLI_LI_LI_S N), (71, slices_Compare_LI_int_S N)]
theorem impl_Space_place_gok (N : Nat) : GOk Tryz.prog (impl_Space_place_G N) := gOf_ok ⟨slices_BinarySearchFunc_LLI_LI_LI_pc N, slices_Compare_LI_int_pc N, trivial⟩
noncomputable def impl_Space_place_code : Code := (Tryz.f61.body).getD .skip
noncomputable def impl_Space_place (N : Nat) (x : ((List (List Int)) × (List (Int × Int)))) (state : (List Int)) : Option ((Int × Bool × Unit) × (Unit)) :=
  ((slices_BinarySearchFunc_LLI_LI_LI N x.1 state (fun y0 y1 => (slices_Compare_LI_int N y0 y1).bind fun z => some z.1.1)).bind fun r =>
    some ((r.1.1, r.1.2.1, ()), ()))
noncomputable def impl_Space_place_S (N : Nat) : FSum := ⟨impl_Space_place_ps, impl_Space_place_rs, fun x => impl_Space_place N x.1 x.2.1⟩
theorem impl_Space_place_run (N : Nat) (x : argsT impl_Space_place_ps) : impl_Space_place N x.1 x.2.1 = funF (impl_Space_place_G N) tab [] Tryz.f61 impl_Space_place_ps impl_Space_place_rs x := by kernel_rfl
theorem impl_Space_place_pc (N : Nat) : PC Tryz.prog 61 (impl_Space_place_S N) := by
  have e : impl_Space_place_S N = ⟨impl_Space_place_ps, impl_Space_place_rs, funF (impl_Space_place_G N) tab [] Tryz.f61 impl_Space_place_ps impl_Space_place_rs⟩ := congrArg (FSum.mk impl_Space_place_ps impl_Space_place_rs) (funext (impl_Space_place_run N))
  rw [e]
  exact fun_ok (c := impl_Space_place_code) progOk (impl_Space_place_gok N) (draw_ok progOk (impl_Space_place_gok N)) Tryz.call61 Tryz.func61 (by kernel_rfl) (lsOk_at (L := []) trivial) (by kernel_rfl) (by kernel_rfl) (by kernel_rfl) (by kernel_rfl) (by kernel_rfl)

/-! ### slices_Sort_LI_int -/
abbrev slices_Sort_LI_int_ps : List (PV.Mode × Ty) := [(.mut, LI)]
abbrev slices_Sort_LI_int_rs : List (Bool × Ty) := []
noncomputable def slices_Sort_LI_int (N : Nat) (x : List Int) : Option (Unit × (List Int × Unit)) := sortIF x
noncomputable def slices_Sort_LI_int_S (N : Nat) : FSum := ⟨slices_Sort_LI_int_ps, slices_Sort_LI_int_rs, fun x => slices_Sort_LI_int N x.1⟩
theorem slices_Sort_LI_int_pc (N : Nat) : PC Tryz.prog 80 (slices_Sort_LI_int_S N) := sortInts_pc (sortsI Tryz.sortIL) (sortsINone Tryz.sortIL) Tryz.call80

/-! ### impl_Space_roads -/
abbrev impl_Space_roads_ps : List (PV.Mode × Ty) := [(.ro, QLLILQII)]
abbrev impl_Space_roads_rs : List (Bool × Ty) := [(true, LLI)]
noncomputable def impl_Space_roads_G (N : Nat) : GTab := gOf [(80, slices_Sort_LI_int_S N)]
theorem impl_Space_roads_gok (N : Nat) : GOk Tryz.prog (impl_Space_roads_G N) := gOf_ok ⟨slices_Sort_LI_int_pc N, trivial⟩
noncomputable def impl_Space_roads_code : Code := (Tryz.f74.body).getD .skip
noncomputable def impl_Space_roads_l0_sh : Sh := ⟨[(3, .one (.ref 0)), (13, .one (.ro LQII)), (14, .one (.ro I)), (15, .one (.ro I))], [.sl 27 LI .deep]⟩
noncomputable def impl_Space_roads_l0_ex : List (Ex × Sh) := [(.exit 0, ⟨[(3, .one (.ref 0))], [.sl 27 LI .deep]⟩)]
noncomputable def impl_Space_roads_l0 {R : Type} (N : Nat) (k0 : (List (List Int)) → Option R) : Nat → (List (Int × Int)) → Int → Int → (List (List Int)) → Option R
  | 0, _, _, _, _ => none
  | K + 1, x1, x2, x3, o =>
    (br (ilt x3 x2)
      ((chk (inb x1 x3)
        (chk (inb o ((rdP x1 x3).1))
        (chk (room (rdL o ((rdP x1 x3).1)) [(rdP x1 x3).2])
        (chk (inb o ((rdP x1 x3).1))
        (chk (ieq ((rdP x1 x3).1) ((rdP x1 x3).1))
        (chk (inb (tSet o ((rdP x1 x3).1) (tApp (rdL o ((rdP x1 x3).1)) [(rdP x1 x3).2])) ((rdP x1 x3).2))
        (chk (room (rdL (tSet o ((rdP x1 x3).1) (tApp (rdL o ((rdP x1 x3).1)) [(rdP x1 x3).2])) ((rdP x1 x3).2)) [(rdP x1 x3).1])
        (chk (inb (tSet o ((rdP x1 x3).1) (tApp (rdL o ((rdP x1 x3).1)) [(rdP x1 x3).2])) ((rdP x1 x3).2))
        (chk (ieq ((rdP x1 x3).2) ((rdP x1 x3).2))
        (impl_Space_roads_l0 N k0 K x1 x2 (IntKind.i64.wrap (x3 + 1)) (tSet (tSet o ((rdP x1 x3).1) (tApp (rdL o ((rdP x1 x3).1)) [(rdP x1 x3).2])) ((rdP x1 x3).2) (tApp (rdL (tSet o ((rdP x1 x3).1) (tApp (rdL o ((rdP x1 x3).1)) [(rdP x1 x3).2])) ((rdP x1 x3).2)) [(rdP x1 x3).1])))))))))))))
      (k0 o))
noncomputable def impl_Space_roads_l0_again {R : Type} (N : Nat) (ks : (j : Nat) → ((impl_Space_roads_l0_ex.getD j (.ret, Sh.none)).2).T → Option R) (k : Nat) (x : impl_Space_roads_l0_sh.T) : Option R :=
  impl_Space_roads_l0 N (fun y0 => ks 0 (((), ()), (y0, ()))) k x.1.2.1 x.1.2.2.1 x.1.2.2.2.1 x.2.1
noncomputable def impl_Space_roads_l0_s (N : Nat) : LSum := ⟨impl_Space_roads_l0_sh, impl_Space_roads_l0_ex, fun x ks => impl_Space_roads_l0_again N ks N x⟩
theorem impl_Space_roads_l0_step (N : Nat) (R : Type) (k : Nat) (x : impl_Space_roads_l0_sh.T) (ks : (j : Nat) → ((impl_Space_roads_l0_ex.getD j (.ret, Sh.none)).2).T → Option R) : impl_Space_roads_l0_again N ks (k + 1) x = roundF (impl_Space_roads_G N) tab [] (loopAt impl_Space_roads_code 0) impl_Space_roads_l0_sh impl_Space_roads_l0_ex (fun y => impl_Space_roads_l0_again N ks k y) ks x := by kernel_rfl
theorem impl_Space_roads_l0_ok (N : Nat) : LoopOk Tryz.prog Tryz.f74.ntmps (impl_Space_roads_l0_s N) (loopAt impl_Space_roads_code 0) :=
  loop_ok (l := impl_Space_roads_l0_s N) progOk (impl_Space_roads_gok N) (draw_ok progOk (impl_Space_roads_gok N)) (fun R k x ks => impl_Space_roads_l0_again N ks k x) (fun _ _ _ => rfl) (fun R k x ks => impl_Space_roads_l0_step N R k x ks) (fun R x ks r h => ⟨N, h⟩) (lsOk_at (L := []) trivial) (by kernel_rfl) (by kernel_rfl)
noncomputable def impl_Space_roads_l1_sh : Sh := ⟨[(3, .one (.ref 0)), (46, .one (.ref 0)), (47, .one (.ro I)), (48, .one (.ro I))], [.sl 27 LI .deep]⟩
noncomputable def impl_Space_roads_l1_ex : List (Ex × Sh) := [(.exit 2, ⟨[(3, .one (.ref 0))], [.sl 27 LI .deep]⟩)]
noncomputable def impl_Space_roads_l1 {R : Type} (N : Nat) (k0 : (List (List Int)) → Option R) : Nat → Int → Int → (List (List Int)) → Option R
  | 0, _, _, _ => none
  | K + 1, x1, x2, o1 =>
    (br (ilt x2 x1)
      ((chk (inb o1 x2)
        ((slices_Sort_LI_int N (rdL o1 x2)).bind fun r =>
        impl_Space_roads_l1 N k0 K x1 (IntKind.i64.wrap (x2 + 1)) (tSet o1 x2 r.2.1))))
      (k0 o1))
noncomputable def impl_Space_roads_l1_again {R : Type} (N : Nat) (ks : (j : Nat) → ((impl_Space_roads_l1_ex.getD j (.ret, Sh.none)).2).T → Option R) (k : Nat) (x : impl_Space_roads_l1_sh.T) : Option R :=
  impl_Space_roads_l1 N (fun y0 => ks 0 (((), ()), (y0, ()))) k x.1.2.2.1 x.1.2.2.2.1 x.2.1
noncomputable def impl_Space_roads_l1_s (N : Nat) : LSum := ⟨impl_Space_roads_l1_sh, impl_Space_roads_l1_ex, fun x ks => impl_Space_roads_l1_again N ks N x⟩
theorem impl_Space_roads_l1_step (N : Nat) (R : Type) (k : Nat) (x : impl_Space_roads_l1_sh.T) (ks : (j : Nat) → ((impl_Space_roads_l1_ex.getD j (.ret, Sh.none)).2).T → Option R) : impl_Space_roads_l1_again N ks (k + 1) x = roundF (impl_Space_roads_G N) tab [] (loopAt impl_Space_roads_code 1) impl_Space_roads_l1_sh impl_Space_roads_l1_ex (fun y => impl_Space_roads_l1_again N ks k y) ks x := by kernel_rfl
theorem impl_Space_roads_l1_ok (N : Nat) : LoopOk Tryz.prog Tryz.f74.ntmps (impl_Space_roads_l1_s N) (loopAt impl_Space_roads_code 1) :=
  loop_ok (l := impl_Space_roads_l1_s N) progOk (impl_Space_roads_gok N) (draw_ok progOk (impl_Space_roads_gok N)) (fun R k x ks => impl_Space_roads_l1_again N ks k x) (fun _ _ _ => rfl) (fun R k x ks => impl_Space_roads_l1_step N R k x ks) (fun R x ks r h => ⟨N, h⟩) (lsOk_at (L := []) trivial) (by kernel_rfl) (by kernel_rfl)
noncomputable def impl_Space_roads (N : Nat) (x : ((List (List Int)) × (List (Int × Int)))) : Option (((List (List Int)) × Unit) × (Unit)) :=
  (chk (ile 0 (tLen x.1) && ile (tLen x.1) (tLen x.1) && fits (tLen x.1))
    (impl_Space_roads_l0 N (fun o => impl_Space_roads_l1 N (fun o1 => some ((o1, ()), ())) N (tLen o) 0 o) N x.2 (tLen x.2) 0 (tRep (tLen x.1) [])))
noncomputable def impl_Space_roads_S (N : Nat) : FSum := ⟨impl_Space_roads_ps, impl_Space_roads_rs, fun x => impl_Space_roads N x.1⟩
theorem impl_Space_roads_run (N : Nat) (x : argsT impl_Space_roads_ps) : impl_Space_roads N x.1 = funF (impl_Space_roads_G N) tab [impl_Space_roads_l0_s N, impl_Space_roads_l1_s N] Tryz.f74 impl_Space_roads_ps impl_Space_roads_rs x := by kernel_rfl
theorem impl_Space_roads_pc (N : Nat) : PC Tryz.prog 74 (impl_Space_roads_S N) := by
  have e : impl_Space_roads_S N = ⟨impl_Space_roads_ps, impl_Space_roads_rs, funF (impl_Space_roads_G N) tab [impl_Space_roads_l0_s N, impl_Space_roads_l1_s N] Tryz.f74 impl_Space_roads_ps impl_Space_roads_rs⟩ := congrArg (FSum.mk impl_Space_roads_ps impl_Space_roads_rs) (funext (impl_Space_roads_run N))
  rw [e]
  exact fun_ok (c := impl_Space_roads_code) progOk (impl_Space_roads_gok N) (draw_ok progOk (impl_Space_roads_gok N)) Tryz.call74 Tryz.func74 (by kernel_rfl) (lsOk_at (L := [impl_Space_roads_l0_s N, impl_Space_roads_l1_s N]) ⟨impl_Space_roads_l0_ok N, impl_Space_roads_l1_ok N, trivial⟩) (by kernel_rfl) (by kernel_rfl) (by kernel_rfl) (by kernel_rfl) (by kernel_rfl)

/-! ### math_bits_Mul64 -/
abbrev math_bits_Mul64_ps : List (PV.Mode × Ty) := [(.ro, U64), (.ro, U64)]
abbrev math_bits_Mul64_rs : List (Bool × Ty) := [(true, U64), (true, U64)]
noncomputable def math_bits_Mul64_G (N : Nat) : GTab := gOf []
theorem math_bits_Mul64_gok (N : Nat) : GOk Tryz.prog (math_bits_Mul64_G N) := gOf_ok trivial
noncomputable def math_bits_Mul64_code : Code := (Tryz.f110.body).getD .skip
noncomputable def math_bits_Mul64 (N : Nat) (x : Int) (y : Int) : Option ((Int × Int × Unit) × (Unit)) :=
  some (((IntKind.u64.wrap ((IntKind.u64.wrap ((IntKind.u64.wrap ((shrI .u64 x 32) * (shrI .u64 y 32))) + (shrI .u64 (IntKind.u64.wrap ((IntKind.u64.wrap ((shrI .u64 x 32) * (bitop .and .u64 y 4294967295))) + (shrI .u64 (IntKind.u64.wrap ((bitop .and .u64 x 4294967295) * (bitop .and .u64 y 4294967295))) 32))) 32))) + (shrI .u64 (IntKind.u64.wrap ((bitop .and .u64 (IntKind.u64.wrap ((IntKind.u64.wrap ((shrI .u64 x 32) * (bitop .and .u64 y 4294967295))) + (shrI .u64 (IntKind.u64.wrap ((bitop .and .u64 x 4294967295) * (bitop .and .u64 y 4294967295))) 32))) 4294967295) + (IntKind.u64.wrap ((bitop .and .u64 x 4294967295) * (shrI .u64 y 32))))) 32))), (IntKind.u64.wrap (x * y)), ()), ())
noncomputable def math_bits_Mul64_S (N : Nat) : FSum := ⟨math_bits_Mul64_ps, math_bits_Mul64_rs, fun x => math_bits_Mul64 N x.1 x.2.1⟩
theorem math_bits_Mul64_run (N : Nat) (x : argsT math_bits_Mul64_ps) : math_bits_Mul64 N x.1 x.2.1 = funF (math_bits_Mul64_G N) tab [] Tryz.f110 math_bits_Mul64_ps math_bits_Mul64_rs x := by kernel_rfl
theorem math_bits_Mul64_pc (N : Nat) : PC Tryz.prog 110 (math_bits_Mul64_S N) := by
  have e : math_bits_Mul64_S N = ⟨math_bits_Mul64_ps, math_bits_Mul64_rs, funF (math_bits_Mul64_G N) tab [] Tryz.f110 math_bits_Mul64_ps math_bits_Mul64_rs⟩ := congrArg (FSum.mk math_bits_Mul64_ps math_bits_Mul64_rs) (funext (math_bits_Mul64_run N))
  rw [e]
  exact fun_ok (c := math_bits_Mul64_code) progOk (math_bits_Mul64_gok N) (draw_ok progOk (math_bits_Mul64_gok N)) Tryz.call110 Tryz.func110 (by kernel_rfl) (lsOk_at (L := []) trivial) (by kernel_rfl) (by kernel_rfl) (by kernel_rfl) (by kernel_rfl) (by kernel_rfl)

/-! ### math_bits_Mul -/
abbrev math_bits_Mul_ps : List (PV.Mode × Ty) := [(.ro, U64), (.ro, U64)]
abbrev math_bits_Mul_rs : List (Bool × Ty) := [(true, U64), (true, U64)]
noncomputable def math_bits_Mul_G (N : Nat) : GTab := gOf [(110, math_bits_Mul64_S N)]
theorem math_bits_Mul_gok (N : Nat) : GOk Tryz.prog (math_bits_Mul_G N) := gOf_ok ⟨math_bits_Mul64_pc N, trivial⟩
noncomputable def math_bits_Mul_code : Code := (Tryz.f94.body).getD .skip
noncomputable def math_bits_Mul (N : Nat) (x : Int) (y : Int) : Option ((Int × Int × Unit) × (Unit)) :=
  ((math_bits_Mul64 N x y).bind fun r =>
    some ((r.1.1, r.1.2.1, ()), ()))
noncomputable def math_bits_Mul_S (N : Nat) : FSum := ⟨math_bits_Mul_ps, math_bits_Mul_rs, fun x => math_bits_Mul N x.1 x.2.1⟩
theorem math_bits_Mul_run (N : Nat) (x : argsT math_bits_Mul_ps) : math_bits_Mul N x.1 x.2.1 = funF (math_bits_Mul_G N) tab [] Tryz.f94 math_bits_Mul_ps math_bits_Mul_rs x := by kernel_rfl
theorem math_bits_Mul_pc (N : Nat) : PC Tryz.prog 94 (math_bits_Mul_S N) := by
  have e : math_bits_Mul_S N = ⟨math_bits_Mul_ps, math_bits_Mul_rs, funF (math_bits_Mul_G N) tab [] Tryz.f94 math_bits_Mul_ps math_bits_Mul_rs⟩ := congrArg (FSum.mk math_bits_Mul_ps math_bits_Mul_rs) (funext (math_bits_Mul_run N))
  rw [e]
  exact fun_ok (c := math_bits_Mul_code) progOk (math_bits_Mul_gok N) (draw_ok progOk (math_bits_Mul_gok N)) Tryz.call94 Tryz.func94 (by kernel_rfl) (lsOk_at (L := []) trivial) (by kernel_rfl) (by kernel_rfl) (by kernel_rfl) (by kernel_rfl) (by kernel_rfl)

/-! ### slices_Repeat_LI_int -/
abbrev slices_Repeat_LI_int_ps : List (PV.Mode × Ty) := [(.ro, LI), (.ro, I)]
abbrev slices_Repeat_LI_int_rs : List (Bool × Ty) := [(true, LI)]
noncomputable def slices_Repeat_LI_int_G (N : Nat) : GTab := gOf [(94, math_bits_Mul_S N)]
theorem slices_Repeat_LI_int_gok (N : Nat) : GOk Tryz.prog (slices_Repeat_LI_int_G N) := gOf_ok ⟨math_bits_Mul_pc N, trivial⟩
noncomputable def slices_Repeat_LI_int_code : Code := (Tryz.f81.body).getD .skip
noncomputable def slices_Repeat_LI_int_l0_sh : Sh := ⟨[(7, .one (.ref 0)), (8, .one (.ro I))], [.sl 3 I .own]⟩
noncomputable def slices_Repeat_LI_int_l0_ex : List (Ex × Sh) := [(.exit 0, ⟨[(7, .one (.ref 0))], [.sl 3 I .own]⟩)]
noncomputable def slices_Repeat_LI_int_l0 {R : Type} (N : Nat) (k0 : (List Int) → Option R) : Nat → Int → (List Int) → Option R
  | 0, _, _ => none
  | K + 1, n, o =>
    (br (ilt n (tLen o))
      ((chk (ile 0 n && ile n (tLen o) && ile (tLen o) (tLen o))
        (chk (ile 0 0 && ile 0 n && ile n (tLen o))
        (slices_Repeat_LI_int_l0 N k0 K (IntKind.i64.wrap (n + (tMin ((tLen o) - n) (tLen (tCut o 0 n))))) (tPut o n (tCut (tCut o 0 n) 0 (tMin ((tLen o) - n) (tLen (tCut o 0 n)))))))))
      (k0 o))
noncomputable def slices_Repeat_LI_int_l0_again {R : Type} (N : Nat) (ks : (j : Nat) → ((slices_Repeat_LI_int_l0_ex.getD j (.ret, Sh.none)).2).T → Option R) (k : Nat) (x : slices_Repeat_LI_int_l0_sh.T) : Option R :=
  slices_Repeat_LI_int_l0 N (fun y0 => ks 0 (((), ()), (y0, ()))) k x.1.2.1 x.2.1
noncomputable def slices_Repeat_LI_int_l0_s (N : Nat) : LSum := ⟨slices_Repeat_LI_int_l0_sh, slices_Repeat_LI_int_l0_ex, fun x ks => slices_Repeat_LI_int_l0_again N ks N x⟩
theorem slices_Repeat_LI_int_l0_step (N : Nat) (R : Type) (k : Nat) (x : slices_Repeat_LI_int_l0_sh.T) (ks : (j : Nat) → ((slices_Repeat_LI_int_l0_ex.getD j (.ret, Sh.none)).2).T → Option R) : slices_Repeat_LI_int_l0_again N ks (k + 1) x = roundF (slices_Repeat_LI_int_G N) tab [] (loopAt slices_Repeat_LI_int_code 0) slices_Repeat_LI_int_l0_sh slices_Repeat_LI_int_l0_ex (fun y => slices_Repeat_LI_int_l0_again N ks k y) ks x := by kernel_rfl
theorem slices_Repeat_LI_int_l0_ok (N : Nat) : LoopOk Tryz.prog Tryz.f81.ntmps (slices_Repeat_LI_int_l0_s N) (loopAt slices_Repeat_LI_int_code 0) :=
  loop_ok (l := slices_Repeat_LI_int_l0_s N) progOk (slices_Repeat_LI_int_gok N) (draw_ok progOk (slices_Repeat_LI_int_gok N)) (fun R k x ks => slices_Repeat_LI_int_l0_again N ks k x) (fun _ _ _ => rfl) (fun R k x ks => slices_Repeat_LI_int_l0_step N R k x ks) (fun R x ks r h => ⟨N, h⟩) (lsOk_at (L := []) trivial) (by kernel_rfl) (by kernel_rfl)
noncomputable def slices_Repeat_LI_int (N : Nat) (x : (List Int)) (count : Int) : Option (((List Int) × Unit) × (Unit)) :=
  (br (ilt count 0)
    (none)
    (((math_bits_Mul N (IntKind.u64.wrap ((tLen x))) (IntKind.u64.wrap (count))).bind fun r =>
      (br (ilt 0 r.1.1)
        (none)
        ((br (ilt 9223372036854775807 r.1.2.1)
          (none)
          ((chk (ile 0 (IntKind.i64.wrap (r.1.2.1)) && ile (IntKind.i64.wrap (r.1.2.1)) (IntKind.i64.wrap (r.1.2.1)) && fits (IntKind.i64.wrap (r.1.2.1)))
            (slices_Repeat_LI_int_l0 N (fun o => some ((o, ()), ())) N (tMin (tLen (tRep (IntKind.i64.wrap (r.1.2.1)) (0 : Int))) (tLen x)) (tPut (tRep (IntKind.i64.wrap (r.1.2.1)) (0 : Int)) 0 (tCut x 0 (tMin (tLen (tRep (IntKind.i64.wrap (r.1.2.1)) (0 : Int))) (tLen x)))))))))))))
noncomputable def slices_Repeat_LI_int_S (N : Nat) : FSum := ⟨slices_Repeat_LI_int_ps, slices_Repeat_LI_int_rs, fun x => slices_Repeat_LI_int N x.1 x.2.1⟩
theorem slices_Repeat_LI_int_run (N : Nat) (x : argsT slices_Repeat_LI_int_ps) : slices_Repeat_LI_int N x.1 x.2.1 = funF (slices_Repeat_LI_int_G N) tab [slices_Repeat_LI_int_l0_s N] Tryz.f81 slices_Repeat_LI_int_ps slices_Repeat_LI_int_rs x := by kernel_rfl
theorem slices_Repeat_LI_int_pc (N : Nat) : PC Tryz.prog 81 (slices_Repeat_LI_int_S N) := by
  have e : slices_Repeat_LI_int_S N = ⟨slices_Repeat_LI_int_ps, slices_Repeat_LI_int_rs, funF (slices_Repeat_LI_int_G N) tab [slices_Repeat_LI_int_l0_s N] Tryz.f81 slices_Repeat_LI_int_ps slices_Repeat_LI_int_rs⟩ := congrArg (FSum.mk slices_Repeat_LI_int_ps slices_Repeat_LI_int_rs) (funext (slices_Repeat_LI_int_run N))
  rw [e]
  exact fun_ok (c := slices_Repeat_LI_int_code) progOk (slices_Repeat_LI_int_gok N) (draw_ok progOk (slices_Repeat_LI_int_gok N)) Tryz.call81 Tryz.func81 (by kernel_rfl) (lsOk_at (L := [slices_Repeat_LI_int_l0_s N]) ⟨slices_Repeat_LI_int_l0_ok N, trivial⟩) (by kernel_rfl) (by kernel_rfl) (by kernel_rfl) (by kernel_rfl) (by kernel_rfl)

/-! ### impl_spread -/
abbrev impl_spread_ps : List (PV.Mode × Ty) := [(.ro, LLI), (.ro, I)]
abbrev impl_spread_rs : List (Bool × Ty) := [(true, LI)]
noncomputable def impl_spread_G (N : Nat) : GTab := gOf [(81, slices_Repeat_LI_int_S N)]
theorem impl_spread_gok (N : Nat) : GOk Tryz.prog (impl_spread_G N) := gOf_ok ⟨slices_Repeat_LI_int_pc N, trivial⟩
noncomputable def impl_spread_code : Code := (Tryz.f75.body).getD .skip
noncomputable def impl_spread_l0_0_sh : Sh := ⟨[(0, .one (.ro LLI)), (5, .one (.ref 0)), (6, .one (.sub 1 1)), (7, .one (.ro I)), (30, .one (.ro LI)), (31, .one (.ro I)), (32, .one (.ro I))], [.sl 3 I .own, .sl 3 I .own]⟩
noncomputable def impl_spread_l0_0_ex : List (Ex × Sh) := [(.exit 2, ⟨[(0, .one (.ro LLI)), (5, .one (.ref 0)), (6, .one (.sub 1 1))], [.sl 3 I .own, .sl 3 I .own]⟩)]
noncomputable def impl_spread_l0_0 {R : Type} (N : Nat) (k0 : (List (List Int)) → Int → Int → (List Int) → (List Int) → Option R) : Nat → (List (List Int)) → Int → Int → Int → (List Int) → Int → Int → (List Int) → (List Int) → Option R
  | 0, _, _, _, _, _, _, _, _, _ => none
  | K + 1, roads2, queue2, queue3, i, x, x1, x2, o2, o3 =>
    (br (ilt x2 x1)
      ((chk (inb x x2)
        (chk (inb o2 (rdI x x2))
        (br (ilt (rdI o2 (rdI x x2)) 0)
        ((chk (inb o2 i)
          (chk (inb o2 (rdI x x2))
          (chk (room (tCut o3 queue2 queue3) [(rdI x x2)])
          (impl_spread_l0_0 N k0 K roads2 0 (tLen (tApp (tCut o3 queue2 queue3) [(rdI x x2)])) i x x1 (IntKind.i64.wrap (x2 + 1)) (tSet o2 (rdI x x2) (IntKind.i64.wrap ((rdI o2 i) + 1))) (tApp (tCut o3 queue2 queue3) [(rdI x x2)]))))))
        (impl_spread_l0_0 N k0 K roads2 queue2 queue3 i x x1 (IntKind.i64.wrap (x2 + 1)) o2 o3)))))
      (k0 roads2 queue2 queue3 o2 o3))
noncomputable def impl_spread_l0_0_again {R : Type} (N : Nat) (ks : (j : Nat) → ((impl_spread_l0_0_ex.getD j (.ret, Sh.none)).2).T → Option R) (k : Nat) (x : impl_spread_l0_0_sh.T) : Option R :=
  impl_spread_l0_0 N (fun y0 y1 y2 y3 y4 => ks 0 ((y0, (), (y1, y2), ()), (y3, y4, ()))) k x.1.1 x.1.2.2.1.1 x.1.2.2.1.2 x.1.2.2.2.1 x.1.2.2.2.2.1 x.1.2.2.2.2.2.1 x.1.2.2.2.2.2.2.1 x.2.1 x.2.2.1
noncomputable def impl_spread_l0_0_s (N : Nat) : LSum := ⟨impl_spread_l0_0_sh, impl_spread_l0_0_ex, fun x ks => impl_spread_l0_0_again N ks N x⟩
theorem impl_spread_l0_0_step (N : Nat) (R : Type) (k : Nat) (x : impl_spread_l0_0_sh.T) (ks : (j : Nat) → ((impl_spread_l0_0_ex.getD j (.ret, Sh.none)).2).T → Option R) : impl_spread_l0_0_again N ks (k + 1) x = roundF (impl_spread_G N) tab [] (loopAt (loopAt impl_spread_code 0) 0) impl_spread_l0_0_sh impl_spread_l0_0_ex (fun y => impl_spread_l0_0_again N ks k y) ks x := by kernel_rfl
theorem impl_spread_l0_0_ok (N : Nat) : LoopOk Tryz.prog Tryz.f75.ntmps (impl_spread_l0_0_s N) (loopAt (loopAt impl_spread_code 0) 0) :=
  loop_ok (l := impl_spread_l0_0_s N) progOk (impl_spread_gok N) (draw_ok progOk (impl_spread_gok N)) (fun R k x ks => impl_spread_l0_0_again N ks k x) (fun _ _ _ => rfl) (fun R k x ks => impl_spread_l0_0_step N R k x ks) (fun R x ks r h => ⟨N, h⟩) (lsOk_at (L := []) trivial) (by kernel_rfl) (by kernel_rfl)
noncomputable def impl_spread_l0_sh : Sh := ⟨[(0, .one (.ro LLI)), (5, .one (.ref 0)), (6, .one (.sub 1 1))], [.sl 3 I .own, .sl 3 I .own]⟩
noncomputable def impl_spread_l0_ex : List (Ex × Sh) := [(.exit 0, ⟨[(5, .one (.ref 0))], [.sl 3 I .own]⟩)]
noncomputable def impl_spread_l0 {R : Type} (N : Nat) (k0 : (List Int) → Option R) : Nat → (List (List Int)) → Int → Int → (List Int) → (List Int) → Option R
  | 0, _, _, _, _, _ => none
  | K + 1, roads1, queue, queue1, o, o1 =>
    (br (ilt 0 (queue1 - queue))
      ((chk (ile 0 0 && ilt 0 (queue1 - queue))
        (chk (ile 0 1 && ile 1 (queue1 - queue) && ile (queue1 - queue) (queue1 - queue))
        (chk (inb roads1 (rdI o1 (queue + 0)))
        (impl_spread_l0_0 N (fun roads2 queue2 queue3 o2 o3 => impl_spread_l0 N k0 K roads2 queue2 queue3 o2 o3) N roads1 (queue + 1) (queue + (queue1 - queue)) (rdI o1 (queue + 0)) (rdL roads1 (rdI o1 (queue + 0))) (tLen (rdL roads1 (rdI o1 (queue + 0)))) 0 o o1)))))
      (k0 o))
noncomputable def impl_spread_l0_again {R : Type} (N : Nat) (ks : (j : Nat) → ((impl_spread_l0_ex.getD j (.ret, Sh.none)).2).T → Option R) (k : Nat) (x : impl_spread_l0_sh.T) : Option R :=
  impl_spread_l0 N (fun y0 => ks 0 (((), ()), (y0, ()))) k x.1.1 x.1.2.2.1.1 x.1.2.2.1.2 x.2.1 x.2.2.1
noncomputable def impl_spread_l0_s (N : Nat) : LSum := ⟨impl_spread_l0_sh, impl_spread_l0_ex, fun x ks => impl_spread_l0_again N ks N x⟩
theorem impl_spread_l0_step (N : Nat) (R : Type) (k : Nat) (x : impl_spread_l0_sh.T) (ks : (j : Nat) → ((impl_spread_l0_ex.getD j (.ret, Sh.none)).2).T → Option R) : impl_spread_l0_again N ks (k + 1) x = roundF (impl_spread_G N) tab [impl_spread_l0_0_s N] (loopAt impl_spread_code 0) impl_spread_l0_sh impl_spread_l0_ex (fun y => impl_spread_l0_again N ks k y) ks x := by kernel_rfl
theorem impl_spread_l0_ok (N : Nat) : LoopOk Tryz.prog Tryz.f75.ntmps (impl_spread_l0_s N) (loopAt impl_spread_code 0) :=
  loop_ok (l := impl_spread_l0_s N) progOk (impl_spread_gok N) (draw_ok progOk (impl_spread_gok N)) (fun R k x ks => impl_spread_l0_again N ks k x) (fun _ _ _ => rfl) (fun R k x ks => impl_spread_l0_step N R k x ks) (fun R x ks r h => ⟨N, h⟩) (lsOk_at (L := [impl_spread_l0_0_s N]) ⟨impl_spread_l0_0_ok N, trivial⟩) (by kernel_rfl) (by kernel_rfl)
noncomputable def impl_spread (N : Nat) (roads : (List (List Int))) (fromv : Int) : Option (((List Int) × Unit) × (Unit)) :=
  ((slices_Repeat_LI_int N [(-1)] (tLen roads)).bind fun r =>
    (chk (inb r.1.1 fromv)
      (impl_spread_l0 N (fun o => some ((o, ()), ())) N roads 0 (tLen [fromv]) (tSet r.1.1 fromv 0) [fromv])))
noncomputable def impl_spread_S (N : Nat) : FSum := ⟨impl_spread_ps, impl_spread_rs, fun x => impl_spread N x.1 x.2.1⟩
theorem impl_spread_run (N : Nat) (x : argsT impl_spread_ps) : impl_spread N x.1 x.2.1 = funF (impl_spread_G N) tab [impl_spread_l0_s N] Tryz.f75 impl_spread_ps impl_spread_rs x := by kernel_rfl
theorem impl_spread_pc (N : Nat) : PC Tryz.prog 75 (impl_spread_S N) := by
  have e : impl_spread_S N = ⟨impl_spread_ps, impl_spread_rs, funF (impl_spread_G N) tab [impl_spread_l0_s N] Tryz.f75 impl_spread_ps impl_spread_rs⟩ := congrArg (FSum.mk impl_spread_ps impl_spread_rs) (funext (impl_spread_run N))
  rw [e]
  exact fun_ok (c := impl_spread_code) progOk (impl_spread_gok N) (draw_ok progOk (impl_spread_gok N)) Tryz.call75 Tryz.func75 (by kernel_rfl) (lsOk_at (L := [impl_spread_l0_s N]) ⟨impl_spread_l0_ok N, trivial⟩) (by kernel_rfl) (by kernel_rfl) (by kernel_rfl) (by kernel_rfl) (by kernel_rfl)
end Go.Proofs.YtaodifjegdpifaaGreat
