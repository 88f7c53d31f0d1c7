/- Functions of the program as functions on data. -/
import Derived.Test.YtfbkjgeaoafejaaParitySpaceFa
set_option linter.all false
namespace Go.Proofs.Ytfbkjgeaoafejaa
open Go Go.PV
/-! ### impl_assignments_own -/
abbrev impl_assignments_own_ps : List (PV.Mode × Ty) := [(.ro, I), (.ro, FLIBo)]
abbrev impl_assignments_own_rs : List (Bool × Ty) := [(true, LLI)]
noncomputable def impl_assignments_own_G (N : Nat) : GTab := gOf []
theorem impl_assignments_own_gok (N : Nat) : GOk Try.prog (impl_assignments_own_G N) := gOf_ok trivial
noncomputable def impl_assignments_own_code : Code := (Try.f178.body).getD .skip
noncomputable def impl_assignments_own_l0_0_sh : Sh := ⟨[(0, .one (.ro I)), (1, .one (.ro FLIBo)), (5, .one (.ref 0)), (6, .one (.ro I)), (7, .one (.ref 1)), (11, .one (.ro I)), (12, .one (.ro I)), (16, .one (.ro I)), (17, .one (.ro I))], [.sl 42 LI .deep, .sl 3 I .own]⟩
noncomputable def impl_assignments_own_l0_0_ex : List (Ex × Sh) := [(.exit 2, ⟨[(0, .one (.ro I)), (1, .one (.ro FLIBo)), (5, .one (.ref 0)), (7, .one (.ref 1)), (11, .one (.ro I)), (12, .one (.ro I))], [.sl 42 LI .deep, .sl 3 I .own]⟩)]
noncomputable def impl_assignments_own_l0_0 {R : Type} (N : Nat) (k0 : Int → ((List Int) → Option Bool) → Int → Int → (List (List Int)) → (List Int) → Option R) : Nat → Int → ((List Int) → Option Bool) → Int → Int → Int → Int → Int → (List (List Int)) → (List Int) → Option R
  | 0, _, _, _, _, _, _, _, _, _ => none
  | K + 1, vars2, is2, n, x2, x3, x4, x5, o1, o2 =>
    (br (ilt x5 x4)
      ((chk (ile 0 (IntKind.i64.wrap ((IntKind.i64.wrap (vars2 - 1)) - x5)))
        (chk (room o2 [(bitop .and .i64 (shrI .i64 n (IntKind.i64.wrap ((IntKind.i64.wrap (vars2 - 1)) - x5))) 1)])
        (impl_assignments_own_l0_0 N k0 K vars2 is2 n x2 x3 x4 (IntKind.i64.wrap (x5 + 1)) o1 (tApp o2 [(bitop .and .i64 (shrI .i64 n (IntKind.i64.wrap ((IntKind.i64.wrap (vars2 - 1)) - x5))) 1)])))))
      (k0 vars2 is2 x2 x3 o1 o2))
noncomputable def impl_assignments_own_l0_0_again {R : Type} (N : Nat) (ks : (j : Nat) → ((impl_assignments_own_l0_0_ex.getD j (.ret, Sh.none)).2).T → Option R) (k : Nat) (x : impl_assignments_own_l0_0_sh.T) : Option R :=
  impl_assignments_own_l0_0 N (fun y0 y1 y2 y3 y4 y5 => ks 0 ((y0, y1, (), (), y2, y3, ()), (y4, y5, ()))) k x.1.1 x.1.2.1 x.1.2.2.2.1 x.1.2.2.2.2.2.1 x.1.2.2.2.2.2.2.1 x.1.2.2.2.2.2.2.2.1 x.1.2.2.2.2.2.2.2.2.1 x.2.1 x.2.2.1
noncomputable def impl_assignments_own_l0_0_s (N : Nat) : LSum := ⟨impl_assignments_own_l0_0_sh, impl_assignments_own_l0_0_ex, fun x ks => impl_assignments_own_l0_0_again N ks N x⟩
theorem impl_assignments_own_l0_0_step (N : Nat) (R : Type) (k : Nat) (x : impl_assignments_own_l0_0_sh.T) (ks : (j : Nat) → ((impl_assignments_own_l0_0_ex.getD j (.ret, Sh.none)).2).T → Option R) : impl_assignments_own_l0_0_again N ks (k + 1) x = roundF (impl_assignments_own_G N) tab [] (loopAt (loopAt impl_assignments_own_code 0) 0) impl_assignments_own_l0_0_sh impl_assignments_own_l0_0_ex (fun y => impl_assignments_own_l0_0_again N ks k y) ks x := by kernel_rfl
theorem impl_assignments_own_l0_0_ok (N : Nat) : LoopOk Try.prog Try.f178.ntmps (impl_assignments_own_l0_0_s N) (loopAt (loopAt impl_assignments_own_code 0) 0) :=
  loop_ok (l := impl_assignments_own_l0_0_s N) progOk (impl_assignments_own_gok N) (draw_ok progOk (impl_assignments_own_gok N)) (fun R k x ks => impl_assignments_own_l0_0_again N ks k x) (fun _ _ _ => rfl) (fun R k x ks => impl_assignments_own_l0_0_step N R k x ks) (fun R x ks r h => ⟨N, h⟩) (lsOk_at (L := []) trivial) (by kernel_rfl) (by kernel_rfl)
noncomputable def impl_assignments_own_l0_sh : Sh := ⟨[(0, .one (.ro I)), (1, .one (.ro FLIBo)), (5, .one (.ref 0)), (11, .one (.ro I)), (12, .one (.ro I))], [.sl 42 LI .deep]⟩
noncomputable def impl_assignments_own_l0_ex : List (Ex × Sh) := [(.exit 0, ⟨[(5, .one (.ref 0))], [.sl 42 LI .deep]⟩)]
noncomputable def impl_assignments_own_l0 {R : Type} (N : Nat) (k0 : (List (List Int)) → Option R) : Nat → Int → ((List Int) → Option Bool) → Int → Int → (List (List Int)) → Option R
  | 0, _, _, _, _, _ => none
  | K + 1, vars1, is1, x, x1, o =>
    (br (ilt x1 x)
      (impl_assignments_own_l0_0 N (fun vars2 is2 x2 x3 o1 o2 => ((is2 o2).bind fun v =>
        (br v
        ((chk (room o1 [o2])
          (impl_assignments_own_l0 N k0 K vars2 is2 x2 (IntKind.i64.wrap (x3 + 1)) (tApp o1 [o2]))))
        (impl_assignments_own_l0 N k0 K vars2 is2 x2 (IntKind.i64.wrap (x3 + 1)) o1)))) N vars1 is1 x1 x x1 vars1 0 o [])
      (k0 o))
noncomputable def impl_assignments_own_l0_again {R : Type} (N : Nat) (ks : (j : Nat) → ((impl_assignments_own_l0_ex.getD j (.ret, Sh.none)).2).T → Option R) (k : Nat) (x : impl_assignments_own_l0_sh.T) : Option R :=
  impl_assignments_own_l0 N (fun y0 => ks 0 (((), ()), (y0, ()))) k x.1.1 x.1.2.1 x.1.2.2.2.1 x.1.2.2.2.2.1 x.2.1
noncomputable def impl_assignments_own_l0_s (N : Nat) : LSum := ⟨impl_assignments_own_l0_sh, impl_assignments_own_l0_ex, fun x ks => impl_assignments_own_l0_again N ks N x⟩
theorem impl_assignments_own_l0_step (N : Nat) (R : Type) (k : Nat) (x : impl_assignments_own_l0_sh.T) (ks : (j : Nat) → ((impl_assignments_own_l0_ex.getD j (.ret, Sh.none)).2).T → Option R) : impl_assignments_own_l0_again N ks (k + 1) x = roundF (impl_assignments_own_G N) tab [impl_assignments_own_l0_0_s N] (loopAt impl_assignments_own_code 0) impl_assignments_own_l0_sh impl_assignments_own_l0_ex (fun y => impl_assignments_own_l0_again N ks k y) ks x := by kernel_rfl
theorem impl_assignments_own_l0_ok (N : Nat) : LoopOk Try.prog Try.f178.ntmps (impl_assignments_own_l0_s N) (loopAt impl_assignments_own_code 0) :=
  loop_ok (l := impl_assignments_own_l0_s N) progOk (impl_assignments_own_gok N) (draw_ok progOk (impl_assignments_own_gok N)) (fun R k x ks => impl_assignments_own_l0_again N ks k x) (fun _ _ _ => rfl) (fun R k x ks => impl_assignments_own_l0_step N R k x ks) (fun R x ks r h => ⟨N, h⟩) (lsOk_at (L := [impl_assignments_own_l0_0_s N]) ⟨impl_assignments_own_l0_0_ok N, trivial⟩) (by kernel_rfl) (by kernel_rfl)
noncomputable def impl_assignments_own (N : Nat) (vars : Int) (is : ((List Int) → Option Bool)) : Option (((List (List Int)) × Unit) × (Unit)) :=
  (chk (ile 0 vars)
    (impl_assignments_own_l0 N (fun o => some ((o, ()), ())) N vars is (shlI .i64 1 vars) 0 []))
noncomputable def impl_assignments_own_S (N : Nat) : FSum := ⟨impl_assignments_own_ps, impl_assignments_own_rs, fun x => impl_assignments_own N x.1 x.2.1⟩
theorem impl_assignments_own_run (N : Nat) (x : argsT impl_assignments_own_ps) : impl_assignments_own N x.1 x.2.1 = funF (impl_assignments_own_G N) tab [impl_assignments_own_l0_s N] Try.f178 impl_assignments_own_ps impl_assignments_own_rs x := by kernel_rfl
theorem impl_assignments_own_pc (N : Nat) : PC Try.prog 178 (impl_assignments_own_S N) := by
  have e : impl_assignments_own_S N = ⟨impl_assignments_own_ps, impl_assignments_own_rs, funF (impl_assignments_own_G N) tab [impl_assignments_own_l0_s N] Try.f178 impl_assignments_own_ps impl_assignments_own_rs⟩ := congrArg (FSum.mk impl_assignments_own_ps impl_assignments_own_rs) (funext (impl_assignments_own_run N))
  rw [e]
  exact fun_ok (c := impl_assignments_own_code) progOk (impl_assignments_own_gok N) (draw_ok progOk (impl_assignments_own_gok N)) Try.call178 Try.func178 (by kernel_rfl) (lsOk_at (L := [impl_assignments_own_l0_s N]) ⟨impl_assignments_own_l0_ok N, trivial⟩) (by kernel_rfl) (by kernel_rfl) (by kernel_rfl) (by kernel_rfl) (by kernel_rfl)

/-! ### impl_Parity_solutions_c1 -/
abbrev impl_Parity_solutions_c1_ps : List (PV.Mode × Ty) := [(.ro, LI), (.ro, AQIQLLILI)]
abbrev impl_Parity_solutions_c1_rs : List (Bool × Ty) := [(true, .bool)]
noncomputable def impl_Parity_solutions_c1_G (N : Nat) : GTab := gOf []
theorem impl_Parity_solutions_c1_gok (N : Nat) : GOk Try.prog (impl_Parity_solutions_c1_G N) := gOf_ok trivial
noncomputable def impl_Parity_solutions_c1_code : Code := (Try.f179.body).getD .skip
noncomputable def impl_Parity_solutions_c1_l0_0_sh : Sh := ⟨[(0, .one (.ro LI)), (1, .one (.ro AQIQLLILI)), (4, .one (.ro I)), (6, .one (.ro I)), (10, .one (.ro LLI)), (11, .one (.ro I)), (12, .one (.ro I)), (17, .one (.ro LI)), (18, .one (.ro I)), (19, .one (.ro I))], []⟩
noncomputable def impl_Parity_solutions_c1_l0_0_ex : List (Ex × Sh) := [(.exit 2, ⟨[(0, .one (.ro LI)), (1, .one (.ro AQIQLLILI)), (4, .one (.ro I)), (6, .one (.ro I)), (10, .one (.ro LLI)), (11, .one (.ro I)), (12, .one (.ro I))], []⟩)]
noncomputable def impl_Parity_solutions_c1_l0_0 {R : Type} (N : Nat) (k0 : (List Int) → (Int × ((List (List Int)) × (List Int))) → Int → Int → (List (List Int)) → Int → Int → Option R) : Nat → (List Int) → (Int × ((List (List Int)) × (List Int))) → Int → Int → (List (List Int)) → Int → Int → (List Int) → Int → Int → Option R
  | 0, _, _, _, _, _, _, _, _, _, _ => none
  | K + 1, list2, x4, i, sum, x5, x6, x7, x8, x9, x10 =>
    (br (ilt x10 x9)
      ((chk (inb x8 x10)
        (chk (inb list2 (rdI x8 x10))
        (impl_Parity_solutions_c1_l0_0 N k0 K list2 x4 i (IntKind.i64.wrap (sum + (rdI list2 (rdI x8 x10)))) x5 x6 x7 x8 x9 (IntKind.i64.wrap (x10 + 1))))))
      (k0 list2 x4 i sum x5 x6 x7))
noncomputable def impl_Parity_solutions_c1_l0_0_again {R : Type} (N : Nat) (ks : (j : Nat) → ((impl_Parity_solutions_c1_l0_0_ex.getD j (.ret, Sh.none)).2).T → Option R) (k : Nat) (x : impl_Parity_solutions_c1_l0_0_sh.T) : Option R :=
  impl_Parity_solutions_c1_l0_0 N (fun y0 y1 y2 y3 y4 y5 y6 => ks 0 ((y0, y1, y2, y3, y4, y5, y6, ()), ())) k x.1.1 x.1.2.1 x.1.2.2.1 x.1.2.2.2.1 x.1.2.2.2.2.1 x.1.2.2.2.2.2.1 x.1.2.2.2.2.2.2.1 x.1.2.2.2.2.2.2.2.1 x.1.2.2.2.2.2.2.2.2.1 x.1.2.2.2.2.2.2.2.2.2.1
noncomputable def impl_Parity_solutions_c1_l0_0_s (N : Nat) : LSum := ⟨impl_Parity_solutions_c1_l0_0_sh, impl_Parity_solutions_c1_l0_0_ex, fun x ks => impl_Parity_solutions_c1_l0_0_again N ks N x⟩
theorem impl_Parity_solutions_c1_l0_0_step (N : Nat) (R : Type) (k : Nat) (x : impl_Parity_solutions_c1_l0_0_sh.T) (ks : (j : Nat) → ((impl_Parity_solutions_c1_l0_0_ex.getD j (.ret, Sh.none)).2).T → Option R) : impl_Parity_solutions_c1_l0_0_again N ks (k + 1) x = roundF (impl_Parity_solutions_c1_G N) tab [] (loopAt (loopAt impl_Parity_solutions_c1_code 0) 0) impl_Parity_solutions_c1_l0_0_sh impl_Parity_solutions_c1_l0_0_ex (fun y => impl_Parity_solutions_c1_l0_0_again N ks k y) ks x := by kernel_rfl
theorem impl_Parity_solutions_c1_l0_0_ok (N : Nat) : LoopOk Try.prog Try.f179.ntmps (impl_Parity_solutions_c1_l0_0_s N) (loopAt (loopAt impl_Parity_solutions_c1_code 0) 0) :=
  loop_ok (l := impl_Parity_solutions_c1_l0_0_s N) progOk (impl_Parity_solutions_c1_gok N) (draw_ok progOk (impl_Parity_solutions_c1_gok N)) (fun R k x ks => impl_Parity_solutions_c1_l0_0_again N ks k x) (fun _ _ _ => rfl) (fun R k x ks => impl_Parity_solutions_c1_l0_0_step N R k x ks) (fun R x ks r h => ⟨N, h⟩) (lsOk_at (L := []) trivial) (by kernel_rfl) (by kernel_rfl)
noncomputable def impl_Parity_solutions_c1_l0_sh : Sh := ⟨[(0, .one (.ro LI)), (1, .one (.ro AQIQLLILI)), (10, .one (.ro LLI)), (11, .one (.ro I)), (12, .one (.ro I))], []⟩
noncomputable def impl_Parity_solutions_c1_l0_ex : List (Ex × Sh) := [(.ret, ⟨[(3, .one (.ro .bool))], []⟩), (.exit 0, ⟨[], []⟩)]
noncomputable def impl_Parity_solutions_c1_l0 {R : Type} (N : Nat) (k0 : Bool → Option R) (k1 : Unit → Option R) : Nat → (List Int) → (Int × ((List (List Int)) × (List Int))) → (List (List Int)) → Int → Int → Option R
  | 0, _, _, _, _, _ => none
  | K + 1, list1, x, x1, x2, x3 =>
    (br (ilt x3 x2)
      ((chk (inb x1 x3)
        (impl_Parity_solutions_c1_l0_0 N (fun list2 x4 i sum x5 x6 x7 => (chk (inb x4.2.2 i)
        (br (ine (sum.tmod 2) (rdI x4.2.2 i))
        (k0 false)
        (impl_Parity_solutions_c1_l0 N k0 k1 K list2 x4 x5 x6 (IntKind.i64.wrap (x7 + 1)))))) N list1 x x3 0 x1 x2 x3 (rdL x1 x3) (tLen (rdL x1 x3)) 0)))
      (k1 ()))
noncomputable def impl_Parity_solutions_c1_l0_again {R : Type} (N : Nat) (ks : (j : Nat) → ((impl_Parity_solutions_c1_l0_ex.getD j (.ret, Sh.none)).2).T → Option R) (k : Nat) (x : impl_Parity_solutions_c1_l0_sh.T) : Option R :=
  impl_Parity_solutions_c1_l0 N (fun y0 => ks 0 ((y0, ()), ())) (fun (_ : Unit) => ks 1 ((), ())) k x.1.1 x.1.2.1 x.1.2.2.1 x.1.2.2.2.1 x.1.2.2.2.2.1
noncomputable def impl_Parity_solutions_c1_l0_s (N : Nat) : LSum := ⟨impl_Parity_solutions_c1_l0_sh, impl_Parity_solutions_c1_l0_ex, fun x ks => impl_Parity_solutions_c1_l0_again N ks N x⟩
theorem impl_Parity_solutions_c1_l0_step (N : Nat) (R : Type) (k : Nat) (x : impl_Parity_solutions_c1_l0_sh.T) (ks : (j : Nat) → ((impl_Parity_solutions_c1_l0_ex.getD j (.ret, Sh.none)).2).T → Option R) : impl_Parity_solutions_c1_l0_again N ks (k + 1) x = roundF (impl_Parity_solutions_c1_G N) tab [impl_Parity_solutions_c1_l0_0_s N] (loopAt impl_Parity_solutions_c1_code 0) impl_Parity_solutions_c1_l0_sh impl_Parity_solutions_c1_l0_ex (fun y => impl_Parity_solutions_c1_l0_again N ks k y) ks x := by kernel_rfl
theorem impl_Parity_solutions_c1_l0_ok (N : Nat) : LoopOk Try.prog Try.f179.ntmps (impl_Parity_solutions_c1_l0_s N) (loopAt impl_Parity_solutions_c1_code 0) :=
  loop_ok (l := impl_Parity_solutions_c1_l0_s N) progOk (impl_Parity_solutions_c1_gok N) (draw_ok progOk (impl_Parity_solutions_c1_gok N)) (fun R k x ks => impl_Parity_solutions_c1_l0_again N ks k x) (fun _ _ _ => rfl) (fun R k x ks => impl_Parity_solutions_c1_l0_step N R k x ks) (fun R x ks r h => ⟨N, h⟩) (lsOk_at (L := [impl_Parity_solutions_c1_l0_0_s N]) ⟨impl_Parity_solutions_c1_l0_0_ok N, trivial⟩) (by kernel_rfl) (by kernel_rfl)
noncomputable def impl_Parity_solutions_c1 (N : Nat) (list : (List Int)) (c : (Int × ((List (List Int)) × (List Int)))) : Option ((Bool × Unit) × (Unit)) :=
  impl_Parity_solutions_c1_l0 N (fun x => some ((x, ()), ())) (fun (_ : Unit) => some ((true, ()), ())) N list c c.2.1 (tLen c.2.1) 0
noncomputable def impl_Parity_solutions_c1_S (N : Nat) : FSum := ⟨impl_Parity_solutions_c1_ps, impl_Parity_solutions_c1_rs, fun x => impl_Parity_solutions_c1 N x.1 x.2.1⟩
theorem impl_Parity_solutions_c1_run (N : Nat) (x : argsT impl_Parity_solutions_c1_ps) : impl_Parity_solutions_c1 N x.1 x.2.1 = funF (impl_Parity_solutions_c1_G N) tab [impl_Parity_solutions_c1_l0_s N] Try.f179 impl_Parity_solutions_c1_ps impl_Parity_solutions_c1_rs x := by kernel_rfl
theorem impl_Parity_solutions_c1_pc (N : Nat) : PC Try.prog 179 (impl_Parity_solutions_c1_S N) := by
  have e : impl_Parity_solutions_c1_S N = ⟨impl_Parity_solutions_c1_ps, impl_Parity_solutions_c1_rs, funF (impl_Parity_solutions_c1_G N) tab [impl_Parity_solutions_c1_l0_s N] Try.f179 impl_Parity_solutions_c1_ps impl_Parity_solutions_c1_rs⟩ := congrArg (FSum.mk impl_Parity_solutions_c1_ps impl_Parity_solutions_c1_rs) (funext (impl_Parity_solutions_c1_run N))
  rw [e]
  exact fun_ok (c := impl_Parity_solutions_c1_code) progOk (impl_Parity_solutions_c1_gok N) (draw_ok progOk (impl_Parity_solutions_c1_gok N)) Try.call179 Try.func179 (by kernel_rfl) (lsOk_at (L := [impl_Parity_solutions_c1_l0_s N]) ⟨impl_Parity_solutions_c1_l0_ok N, trivial⟩) (by kernel_rfl) (by kernel_rfl) (by kernel_rfl) (by kernel_rfl) (by kernel_rfl)

/-! ### impl_Parity_solutions -/
abbrev impl_Parity_solutions_ps : List (PV.Mode × Ty) := [(.ro, QIQLLILI)]
abbrev impl_Parity_solutions_rs : List (Bool × Ty) := [(true, LLI)]
noncomputable def impl_Parity_solutions_G (N : Nat) : GTab := gOf [(178, impl_assignments_own_S N), (179, impl_Parity_solutions_c1_S N)]
theorem impl_Parity_solutions_gok (N : Nat) : GOk Try.prog (impl_Parity_solutions_G N) := gOf_ok ⟨impl_assignments_own_pc N, impl_Parity_solutions_c1_pc N, trivial⟩
noncomputable def impl_Parity_solutions_code : Code := (Try.f115.body).getD .skip
noncomputable def impl_Parity_solutions (N : Nat) (p : (Int × ((List (List Int)) × (List Int)))) : Option (((List (List Int)) × Unit) × (Unit)) :=
  ((impl_assignments_own N p.1 (fun y0 => (impl_Parity_solutions_c1 N y0 (p.1, (p.2.1, p.2.2))).bind fun z => some z.1.1)).bind fun r =>
    some ((r.1.1, ()), ()))
noncomputable def impl_Parity_solutions_S (N : Nat) : FSum := ⟨impl_Parity_solutions_ps, impl_Parity_solutions_rs, fun x => impl_Parity_solutions N x.1⟩
theorem impl_Parity_solutions_run (N : Nat) (x : argsT impl_Parity_solutions_ps) : impl_Parity_solutions N x.1 = funF (impl_Parity_solutions_G N) tab [] Try.f115 impl_Parity_solutions_ps impl_Parity_solutions_rs x := by kernel_rfl
theorem impl_Parity_solutions_pc (N : Nat) : PC Try.prog 115 (impl_Parity_solutions_S N) := by
  have e : impl_Parity_solutions_S N = ⟨impl_Parity_solutions_ps, impl_Parity_solutions_rs, funF (impl_Parity_solutions_G N) tab [] Try.f115 impl_Parity_solutions_ps impl_Parity_solutions_rs⟩ := congrArg (FSum.mk impl_Parity_solutions_ps impl_Parity_solutions_rs) (funext (impl_Parity_solutions_run N))
  rw [e]
  exact fun_ok (c := impl_Parity_solutions_code) progOk (impl_Parity_solutions_gok N) (draw_ok progOk (impl_Parity_solutions_gok N)) Try.call115 Try.func115 (by kernel_rfl) (lsOk_at (L := []) trivial) (by kernel_rfl) (by kernel_rfl) (by kernel_rfl) (by kernel_rfl) (by kernel_rfl)

/-! ### math_bits_Len64 -/
abbrev math_bits_Len64_ps : List (PV.Mode × Ty) := [(.ro, U64)]
abbrev math_bits_Len64_rs : List (Bool × Ty) := [(true, I)]
noncomputable def math_bits_Len64_G (N : Nat) : GTab := gOf []
theorem math_bits_Len64_gok (N : Nat) : GOk Try.prog (math_bits_Len64_G N) := gOf_ok trivial
noncomputable def math_bits_Len64_code : Code := (Try.f251.body).getD .skip
noncomputable def math_bits_Len64 (N : Nat) (x : Int) : Option ((Int × Unit) × (Unit)) :=
  (br (ile 4294967296 x)
    ((br (ile 65536 (shrI .u64 x 32))
      ((br (ile 256 (shrI .u64 (shrI .u64 x 32) 16))
        ((chk (strIn str0 (IntKind.u8.wrap ((shrI .u64 (shrI .u64 (shrI .u64 x 32) 16) 8))))
          (some (((IntKind.i64.wrap (56 + (IntKind.i64.wrap ((strAt str0 (IntKind.u8.wrap ((shrI .u64 (shrI .u64 (shrI .u64 x 32) 16) 8)))))))), ()), ()))))
        ((chk (strIn str0 (IntKind.u8.wrap ((shrI .u64 (shrI .u64 x 32) 16))))
          (some (((IntKind.i64.wrap (48 + (IntKind.i64.wrap ((strAt str0 (IntKind.u8.wrap ((shrI .u64 (shrI .u64 x 32) 16)))))))), ()), ()))))))
      ((br (ile 256 (shrI .u64 x 32))
        ((chk (strIn str0 (IntKind.u8.wrap ((shrI .u64 (shrI .u64 x 32) 8))))
          (some (((IntKind.i64.wrap (40 + (IntKind.i64.wrap ((strAt str0 (IntKind.u8.wrap ((shrI .u64 (shrI .u64 x 32) 8)))))))), ()), ()))))
        ((chk (strIn str0 (IntKind.u8.wrap ((shrI .u64 x 32))))
          (some (((IntKind.i64.wrap (32 + (IntKind.i64.wrap ((strAt str0 (IntKind.u8.wrap ((shrI .u64 x 32)))))))), ()), ()))))))))
    ((br (ile 65536 x)
      ((br (ile 256 (shrI .u64 x 16))
        ((chk (strIn str0 (IntKind.u8.wrap ((shrI .u64 (shrI .u64 x 16) 8))))
          (some (((IntKind.i64.wrap (24 + (IntKind.i64.wrap ((strAt str0 (IntKind.u8.wrap ((shrI .u64 (shrI .u64 x 16) 8)))))))), ()), ()))))
        ((chk (strIn str0 (IntKind.u8.wrap ((shrI .u64 x 16))))
          (some (((IntKind.i64.wrap (16 + (IntKind.i64.wrap ((strAt str0 (IntKind.u8.wrap ((shrI .u64 x 16)))))))), ()), ()))))))
      ((br (ile 256 x)
        ((chk (strIn str0 (IntKind.u8.wrap ((shrI .u64 x 8))))
          (some (((IntKind.i64.wrap (8 + (IntKind.i64.wrap ((strAt str0 (IntKind.u8.wrap ((shrI .u64 x 8)))))))), ()), ()))))
        ((chk (strIn str0 (IntKind.u8.wrap (x)))
          (some (((IntKind.i64.wrap (0 + (IntKind.i64.wrap ((strAt str0 (IntKind.u8.wrap (x))))))), ()), ())))))))))
noncomputable def math_bits_Len64_S (N : Nat) : FSum := ⟨math_bits_Len64_ps, math_bits_Len64_rs, fun x => math_bits_Len64 N x.1⟩
theorem math_bits_Len64_run (N : Nat) (x : argsT math_bits_Len64_ps) : math_bits_Len64 N x.1 = funF (math_bits_Len64_G N) tab [] Try.f251 math_bits_Len64_ps math_bits_Len64_rs x := by kernel_rfl
theorem math_bits_Len64_pc (N : Nat) : PC Try.prog 251 (math_bits_Len64_S N) := by
  have e : math_bits_Len64_S N = ⟨math_bits_Len64_ps, math_bits_Len64_rs, funF (math_bits_Len64_G N) tab [] Try.f251 math_bits_Len64_ps math_bits_Len64_rs⟩ := congrArg (FSum.mk math_bits_Len64_ps math_bits_Len64_rs) (funext (math_bits_Len64_run N))
  rw [e]
  exact fun_ok (c := math_bits_Len64_code) progOk (math_bits_Len64_gok N) (draw_ok progOk (math_bits_Len64_gok N)) Try.call251 Try.func251 (by kernel_rfl) (lsOk_at (L := []) trivial) (by kernel_rfl) (by kernel_rfl) (by kernel_rfl) (by kernel_rfl) (by kernel_rfl)

/-! ### math_bits_Len -/
abbrev math_bits_Len_ps : List (PV.Mode × Ty) := [(.ro, U64)]
abbrev math_bits_Len_rs : List (Bool × Ty) := [(true, I)]
noncomputable def math_bits_Len_G (N : Nat) : GTab := gOf [(251, math_bits_Len64_S N)]
theorem math_bits_Len_gok (N : Nat) : GOk Try.prog (math_bits_Len_G N) := gOf_ok ⟨math_bits_Len64_pc N, trivial⟩
noncomputable def math_bits_Len_code : Code := (Try.f219.body).getD .skip
noncomputable def math_bits_Len (N : Nat) (x : Int) : Option ((Int × Unit) × (Unit)) :=
  ((math_bits_Len64 N x).bind fun r =>
    some ((r.1.1, ()), ()))
noncomputable def math_bits_Len_S (N : Nat) : FSum := ⟨math_bits_Len_ps, math_bits_Len_rs, fun x => math_bits_Len N x.1⟩
theorem math_bits_Len_run (N : Nat) (x : argsT math_bits_Len_ps) : math_bits_Len N x.1 = funF (math_bits_Len_G N) tab [] Try.f219 math_bits_Len_ps math_bits_Len_rs x := by kernel_rfl
theorem math_bits_Len_pc (N : Nat) : PC Try.prog 219 (math_bits_Len_S N) := by
  have e : math_bits_Len_S N = ⟨math_bits_Len_ps, math_bits_Len_rs, funF (math_bits_Len_G N) tab [] Try.f219 math_bits_Len_ps math_bits_Len_rs⟩ := congrArg (FSum.mk math_bits_Len_ps math_bits_Len_rs) (funext (math_bits_Len_run N))
  rw [e]
  exact fun_ok (c := math_bits_Len_code) progOk (math_bits_Len_gok N) (draw_ok progOk (math_bits_Len_gok N)) Try.call219 Try.func219 (by kernel_rfl) (lsOk_at (L := []) trivial) (by kernel_rfl) (by kernel_rfl) (by kernel_rfl) (by kernel_rfl) (by kernel_rfl)

/-! ### slices_insertionSortCmpFunc_LI -/
abbrev slices_insertionSortCmpFunc_LI_ps : List (PV.Mode × Ty) := [(.ro, LLI), (.ro, I), (.ro, I), (.ro, GLILII)]
abbrev slices_insertionSortCmpFunc_LI_rs : List (Bool × Ty) := []
noncomputable def slices_insertionSortCmpFunc_LI_G (N : Nat) : GTab := gOf []
theorem slices_insertionSortCmpFunc_LI_gok (N : Nat) : GOk Try.prog (slices_insertionSortCmpFunc_LI_G N) := gOf_ok trivial
noncomputable def slices_insertionSortCmpFunc_LI_code : Code := (Try.f242.body).getD .skip
noncomputable def slices_insertionSortCmpFunc_LI_l0_0_sh : Sh := ⟨[(0, .one (.ro LLI)), (1, .one (.ro I)), (2, .one (.ro I)), (3, .one (.ro GLILII)), (8, .one (.ro I)), (9, .one (.ro I))], []⟩
noncomputable def slices_insertionSortCmpFunc_LI_l0_0_ex : List (Ex × Sh) := [(.exit 2, ⟨[(0, .one (.ro LLI)), (1, .one (.ro I)), (2, .one (.ro I)), (3, .one (.ro GLILII)), (8, .one (.ro I))], []⟩)]
noncomputable def slices_insertionSortCmpFunc_LI_l0_0 {R : Type} (N : Nat) (k0 : (List (List Int)) → Int → Int → ((List Int) → (List Int) → Option Int) → Int → Option R) : Nat → (List (List Int)) → Int → Int → ((List Int) → (List Int) → Option Int) → Int → Int → Option R
  | 0, _, _, _, _, _, _ => none
  | K + 1, data2, a2, b2, cmp2, i1, j =>
    (br (ilt a2 j)
      ((chk (inb data2 j)
        (chk (inb data2 (IntKind.i64.wrap (j - 1)))
        ((cmp2 (rdL data2 j) (rdL data2 (IntKind.i64.wrap (j - 1)))).bind fun v =>
        (br (ilt v 0)
        ((chk (inb data2 (IntKind.i64.wrap (j - 1)))
          (chk (inb data2 j)
          (chk (inb data2 j)
          none))))
        (k0 data2 a2 b2 cmp2 i1))))))
      (k0 data2 a2 b2 cmp2 i1))
noncomputable def slices_insertionSortCmpFunc_LI_l0_0_again {R : Type} (N : Nat) (ks : (j : Nat) → ((slices_insertionSortCmpFunc_LI_l0_0_ex.getD j (.ret, Sh.none)).2).T → Option R) (k : Nat) (x : slices_insertionSortCmpFunc_LI_l0_0_sh.T) : Option R :=
  slices_insertionSortCmpFunc_LI_l0_0 N (fun y0 y1 y2 y3 y4 => ks 0 ((y0, y1, y2, y3, y4, ()), ())) k x.1.1 x.1.2.1 x.1.2.2.1 x.1.2.2.2.1 x.1.2.2.2.2.1 x.1.2.2.2.2.2.1
noncomputable def slices_insertionSortCmpFunc_LI_l0_0_s (N : Nat) : LSum := ⟨slices_insertionSortCmpFunc_LI_l0_0_sh, slices_insertionSortCmpFunc_LI_l0_0_ex, fun x ks => slices_insertionSortCmpFunc_LI_l0_0_again N ks N x⟩
theorem slices_insertionSortCmpFunc_LI_l0_0_step (N : Nat) (R : Type) (k : Nat) (x : slices_insertionSortCmpFunc_LI_l0_0_sh.T) (ks : (j : Nat) → ((slices_insertionSortCmpFunc_LI_l0_0_ex.getD j (.ret, Sh.none)).2).T → Option R) : slices_insertionSortCmpFunc_LI_l0_0_again N ks (k + 1) x = roundF (slices_insertionSortCmpFunc_LI_G N) tab [] (loopAt (loopAt slices_insertionSortCmpFunc_LI_code 0) 0) slices_insertionSortCmpFunc_LI_l0_0_sh slices_insertionSortCmpFunc_LI_l0_0_ex (fun y => slices_insertionSortCmpFunc_LI_l0_0_again N ks k y) ks x := by kernel_rfl
theorem slices_insertionSortCmpFunc_LI_l0_0_ok (N : Nat) : LoopOk Try.prog Try.f242.ntmps (slices_insertionSortCmpFunc_LI_l0_0_s N) (loopAt (loopAt slices_insertionSortCmpFunc_LI_code 0) 0) :=
  loop_ok (l := slices_insertionSortCmpFunc_LI_l0_0_s N) progOk (slices_insertionSortCmpFunc_LI_gok N) (draw_ok progOk (slices_insertionSortCmpFunc_LI_gok N)) (fun R k x ks => slices_insertionSortCmpFunc_LI_l0_0_again N ks k x) (fun _ _ _ => rfl) (fun R k x ks => slices_insertionSortCmpFunc_LI_l0_0_step N R k x ks) (fun R x ks r h => ⟨N, h⟩) (lsOk_at (L := []) trivial) (by kernel_rfl) (by kernel_rfl)
noncomputable def slices_insertionSortCmpFunc_LI_l0_sh : Sh := ⟨[(0, .one (.ro LLI)), (1, .one (.ro I)), (2, .one (.ro I)), (3, .one (.ro GLILII)), (8, .one (.ro I))], []⟩
noncomputable def slices_insertionSortCmpFunc_LI_l0_ex : List (Ex × Sh) := [(.exit 0, ⟨[], []⟩)]
noncomputable def slices_insertionSortCmpFunc_LI_l0 {R : Type} (N : Nat) (k0 : Unit → Option R) : Nat → (List (List Int)) → Int → Int → ((List Int) → (List Int) → Option Int) → Int → Option R
  | 0, _, _, _, _, _ => none
  | K + 1, data1, a1, b1, cmp1, i =>
    (br (ilt i b1)
      (slices_insertionSortCmpFunc_LI_l0_0 N (fun data2 a2 b2 cmp2 i1 => slices_insertionSortCmpFunc_LI_l0 N k0 K data2 a2 b2 cmp2 (IntKind.i64.wrap (i1 + 1))) N data1 a1 b1 cmp1 i i)
      (k0 ()))
noncomputable def slices_insertionSortCmpFunc_LI_l0_again {R : Type} (N : Nat) (ks : (j : Nat) → ((slices_insertionSortCmpFunc_LI_l0_ex.getD j (.ret, Sh.none)).2).T → Option R) (k : Nat) (x : slices_insertionSortCmpFunc_LI_l0_sh.T) : Option R :=
  slices_insertionSortCmpFunc_LI_l0 N (fun (_ : Unit) => ks 0 ((), ())) k x.1.1 x.1.2.1 x.1.2.2.1 x.1.2.2.2.1 x.1.2.2.2.2.1
noncomputable def slices_insertionSortCmpFunc_LI_l0_s (N : Nat) : LSum := ⟨slices_insertionSortCmpFunc_LI_l0_sh, slices_insertionSortCmpFunc_LI_l0_ex, fun x ks => slices_insertionSortCmpFunc_LI_l0_again N ks N x⟩
theorem slices_insertionSortCmpFunc_LI_l0_step (N : Nat) (R : Type) (k : Nat) (x : slices_insertionSortCmpFunc_LI_l0_sh.T) (ks : (j : Nat) → ((slices_insertionSortCmpFunc_LI_l0_ex.getD j (.ret, Sh.none)).2).T → Option R) : slices_insertionSortCmpFunc_LI_l0_again N ks (k + 1) x = roundF (slices_insertionSortCmpFunc_LI_G N) tab [slices_insertionSortCmpFunc_LI_l0_0_s N] (loopAt slices_insertionSortCmpFunc_LI_code 0) slices_insertionSortCmpFunc_LI_l0_sh slices_insertionSortCmpFunc_LI_l0_ex (fun y => slices_insertionSortCmpFunc_LI_l0_again N ks k y) ks x := by kernel_rfl
theorem slices_insertionSortCmpFunc_LI_l0_ok (N : Nat) : LoopOk Try.prog Try.f242.ntmps (slices_insertionSortCmpFunc_LI_l0_s N) (loopAt slices_insertionSortCmpFunc_LI_code 0) :=
  loop_ok (l := slices_insertionSortCmpFunc_LI_l0_s N) progOk (slices_insertionSortCmpFunc_LI_gok N) (draw_ok progOk (slices_insertionSortCmpFunc_LI_gok N)) (fun R k x ks => slices_insertionSortCmpFunc_LI_l0_again N ks k x) (fun _ _ _ => rfl) (fun R k x ks => slices_insertionSortCmpFunc_LI_l0_step N R k x ks) (fun R x ks r h => ⟨N, h⟩) (lsOk_at (L := [slices_insertionSortCmpFunc_LI_l0_0_s N]) ⟨slices_insertionSortCmpFunc_LI_l0_0_ok N, trivial⟩) (by kernel_rfl) (by kernel_rfl)
noncomputable def slices_insertionSortCmpFunc_LI (N : Nat) (data : (List (List Int))) (a : Int) (b : Int) (cmp : ((List Int) → (List Int) → Option Int)) : Option ((Unit) × (Unit)) :=
  slices_insertionSortCmpFunc_LI_l0 N (fun (_ : Unit) => some ((), ())) N data a b cmp (IntKind.i64.wrap (a + 1))
noncomputable def slices_insertionSortCmpFunc_LI_S (N : Nat) : FSum := ⟨slices_insertionSortCmpFunc_LI_ps, slices_insertionSortCmpFunc_LI_rs, fun x => slices_insertionSortCmpFunc_LI N x.1 x.2.1 x.2.2.1 x.2.2.2.1⟩
theorem slices_insertionSortCmpFunc_LI_run (N : Nat) (x : argsT slices_insertionSortCmpFunc_LI_ps) : slices_insertionSortCmpFunc_LI N x.1 x.2.1 x.2.2.1 x.2.2.2.1 = funF (slices_insertionSortCmpFunc_LI_G N) tab [slices_insertionSortCmpFunc_LI_l0_s N] Try.f242 slices_insertionSortCmpFunc_LI_ps slices_insertionSortCmpFunc_LI_rs x := by kernel_rfl
theorem slices_insertionSortCmpFunc_LI_pc (N : Nat) : PC Try.prog 242 (slices_insertionSortCmpFunc_LI_S N) := by
  have e : slices_insertionSortCmpFunc_LI_S N = ⟨slices_insertionSortCmpFunc_LI_ps, slices_insertionSortCmpFunc_LI_rs, funF (slices_insertionSortCmpFunc_LI_G N) tab [slices_insertionSortCmpFunc_LI_l0_s N] Try.f242 slices_insertionSortCmpFunc_LI_ps slices_insertionSortCmpFunc_LI_rs⟩ := congrArg (FSum.mk slices_insertionSortCmpFunc_LI_ps slices_insertionSortCmpFunc_LI_rs) (funext (slices_insertionSortCmpFunc_LI_run N))
  rw [e]
  exact fun_ok (c := slices_insertionSortCmpFunc_LI_code) progOk (slices_insertionSortCmpFunc_LI_gok N) (draw_ok progOk (slices_insertionSortCmpFunc_LI_gok N)) Try.call242 Try.func242 (by kernel_rfl) (lsOk_at (L := [slices_insertionSortCmpFunc_LI_l0_s N]) ⟨slices_insertionSortCmpFunc_LI_l0_ok N, trivial⟩) (by kernel_rfl) (by kernel_rfl) (by kernel_rfl) (by kernel_rfl) (by kernel_rfl)

/-! ### slices_order2CmpFunc_LI -/
abbrev slices_order2CmpFunc_LI_ps : List (PV.Mode × Ty) := [(.ro, LLI), (.ro, I), (.ro, I), (.mut, BI), (.ro, GLILII)]
abbrev slices_order2CmpFunc_LI_rs : List (Bool × Ty) := [(true, I), (true, I)]
noncomputable def slices_order2CmpFunc_LI_G (N : Nat) : GTab := gOf []
theorem slices_order2CmpFunc_LI_gok (N : Nat) : GOk Try.prog (slices_order2CmpFunc_LI_G N) := gOf_ok trivial
noncomputable def slices_order2CmpFunc_LI_code : Code := (Try.f274.body).getD .skip
noncomputable def slices_order2CmpFunc_LI (N : Nat) (data : (List (List Int))) (a : Int) (b : Int) (swaps : Int) (cmp : ((List Int) → (List Int) → Option Int)) : Option ((Int × Int × Unit) × (Int × Unit)) :=
  (chk (inb data b)
    (chk (inb data a)
    ((cmp (rdL data b) (rdL data a)).bind fun v =>
    (br (ilt v 0)
    (some ((b, a, ()), ((IntKind.i64.wrap (swaps + 1)), ())))
    (some ((a, b, ()), (swaps, ())))))))
noncomputable def slices_order2CmpFunc_LI_S (N : Nat) : FSum := ⟨slices_order2CmpFunc_LI_ps, slices_order2CmpFunc_LI_rs, fun x => slices_order2CmpFunc_LI N x.1 x.2.1 x.2.2.1 x.2.2.2.1 x.2.2.2.2.1⟩
theorem slices_order2CmpFunc_LI_run (N : Nat) (x : argsT slices_order2CmpFunc_LI_ps) : slices_order2CmpFunc_LI N x.1 x.2.1 x.2.2.1 x.2.2.2.1 x.2.2.2.2.1 = funF (slices_order2CmpFunc_LI_G N) tab [] Try.f274 slices_order2CmpFunc_LI_ps slices_order2CmpFunc_LI_rs x := by kernel_rfl
theorem slices_order2CmpFunc_LI_pc (N : Nat) : PC Try.prog 274 (slices_order2CmpFunc_LI_S N) := by
  have e : slices_order2CmpFunc_LI_S N = ⟨slices_order2CmpFunc_LI_ps, slices_order2CmpFunc_LI_rs, funF (slices_order2CmpFunc_LI_G N) tab [] Try.f274 slices_order2CmpFunc_LI_ps slices_order2CmpFunc_LI_rs⟩ := congrArg (FSum.mk slices_order2CmpFunc_LI_ps slices_order2CmpFunc_LI_rs) (funext (slices_order2CmpFunc_LI_run N))
  rw [e]
  exact fun_ok (c := slices_order2CmpFunc_LI_code) progOk (slices_order2CmpFunc_LI_gok N) (draw_ok progOk (slices_order2CmpFunc_LI_gok N)) Try.call274 Try.func274 (by kernel_rfl) (lsOk_at (L := []) trivial) (by kernel_rfl) (by kernel_rfl) (by kernel_rfl) (by kernel_rfl) (by kernel_rfl)

/-! ### slices_medianCmpFunc_LI -/
abbrev slices_medianCmpFunc_LI_ps : List (PV.Mode × Ty) := [(.ro, LLI), (.ro, I), (.ro, I), (.ro, I), (.mut, BI), (.ro, GLILII)]
abbrev slices_medianCmpFunc_LI_rs : List (Bool × Ty) := [(true, I)]
noncomputable def slices_medianCmpFunc_LI_G (N : Nat) : GTab := gOf [(274, slices_order2CmpFunc_LI_S N)]
theorem slices_medianCmpFunc_LI_gok (N : Nat) : GOk Try.prog (slices_medianCmpFunc_LI_G N) := gOf_ok ⟨slices_order2CmpFunc_LI_pc N, trivial⟩
noncomputable def slices_medianCmpFunc_LI_code : Code := (Try.f269.body).getD .skip
noncomputable def slices_medianCmpFunc_LI (N : Nat) (data : (List (List Int))) (a : Int) (b : Int) (c : Int) (swaps : Int) (cmp : ((List Int) → (List Int) → Option Int)) : Option ((Int × Unit) × (Int × Unit)) :=
  ((slices_order2CmpFunc_LI N data a b swaps cmp).bind fun r =>
    ((slices_order2CmpFunc_LI N data r.1.2.1 c r.2.1 cmp).bind fun r1 =>
      ((slices_order2CmpFunc_LI N data r.1.1 r1.1.1 r1.2.1 cmp).bind fun r2 =>
        some ((r2.1.2.1, ()), (r2.2.1, ())))))
noncomputable def slices_medianCmpFunc_LI_S (N : Nat) : FSum := ⟨slices_medianCmpFunc_LI_ps, slices_medianCmpFunc_LI_rs, fun x => slices_medianCmpFunc_LI N x.1 x.2.1 x.2.2.1 x.2.2.2.1 x.2.2.2.2.1 x.2.2.2.2.2.1⟩
theorem slices_medianCmpFunc_LI_run (N : Nat) (x : argsT slices_medianCmpFunc_LI_ps) : slices_medianCmpFunc_LI N x.1 x.2.1 x.2.2.1 x.2.2.2.1 x.2.2.2.2.1 x.2.2.2.2.2.1 = funF (slices_medianCmpFunc_LI_G N) tab [] Try.f269 slices_medianCmpFunc_LI_ps slices_medianCmpFunc_LI_rs x := by kernel_rfl
theorem slices_medianCmpFunc_LI_pc (N : Nat) : PC Try.prog 269 (slices_medianCmpFunc_LI_S N) := by
  have e : slices_medianCmpFunc_LI_S N = ⟨slices_medianCmpFunc_LI_ps, slices_medianCmpFunc_LI_rs, funF (slices_medianCmpFunc_LI_G N) tab [] Try.f269 slices_medianCmpFunc_LI_ps slices_medianCmpFunc_LI_rs⟩ := congrArg (FSum.mk slices_medianCmpFunc_LI_ps slices_medianCmpFunc_LI_rs) (funext (slices_medianCmpFunc_LI_run N))
  rw [e]
  exact fun_ok (c := slices_medianCmpFunc_LI_code) progOk (slices_medianCmpFunc_LI_gok N) (draw_ok progOk (slices_medianCmpFunc_LI_gok N)) Try.call269 Try.func269 (by kernel_rfl) (lsOk_at (L := []) trivial) (by kernel_rfl) (by kernel_rfl) (by kernel_rfl) (by kernel_rfl) (by kernel_rfl)

/-! ### slices_medianAdjacentCmpFunc_LI -/
abbrev slices_medianAdjacentCmpFunc_LI_ps : List (PV.Mode × Ty) := [(.ro, LLI), (.ro, I), (.mut, BI), (.ro, GLILII)]
abbrev slices_medianAdjacentCmpFunc_LI_rs : List (Bool × Ty) := [(true, I)]
noncomputable def slices_medianAdjacentCmpFunc_LI_G (N : Nat) : GTab := gOf [(269, slices_medianCmpFunc_LI_S N)]
theorem slices_medianAdjacentCmpFunc_LI_gok (N : Nat) : GOk Try.prog (slices_medianAdjacentCmpFunc_LI_G N) := gOf_ok ⟨slices_medianCmpFunc_LI_pc N, trivial⟩
noncomputable def slices_medianAdjacentCmpFunc_LI_code : Code := (Try.f268.body).getD .skip
noncomputable def slices_medianAdjacentCmpFunc_LI (N : Nat) (data : (List (List Int))) (a : Int) (swaps : Int) (cmp : ((List Int) → (List Int) → Option Int)) : Option ((Int × Unit) × (Int × Unit)) :=
  ((slices_medianCmpFunc_LI N data (IntKind.i64.wrap (a - 1)) a (IntKind.i64.wrap (a + 1)) swaps cmp).bind fun r =>
    some ((r.1.1, ()), (r.2.1, ())))
noncomputable def slices_medianAdjacentCmpFunc_LI_S (N : Nat) : FSum := ⟨slices_medianAdjacentCmpFunc_LI_ps, slices_medianAdjacentCmpFunc_LI_rs, fun x => slices_medianAdjacentCmpFunc_LI N x.1 x.2.1 x.2.2.1 x.2.2.2.1⟩
theorem slices_medianAdjacentCmpFunc_LI_run (N : Nat) (x : argsT slices_medianAdjacentCmpFunc_LI_ps) : slices_medianAdjacentCmpFunc_LI N x.1 x.2.1 x.2.2.1 x.2.2.2.1 = funF (slices_medianAdjacentCmpFunc_LI_G N) tab [] Try.f268 slices_medianAdjacentCmpFunc_LI_ps slices_medianAdjacentCmpFunc_LI_rs x := by kernel_rfl
theorem slices_medianAdjacentCmpFunc_LI_pc (N : Nat) : PC Try.prog 268 (slices_medianAdjacentCmpFunc_LI_S N) := by
  have e : slices_medianAdjacentCmpFunc_LI_S N = ⟨slices_medianAdjacentCmpFunc_LI_ps, slices_medianAdjacentCmpFunc_LI_rs, funF (slices_medianAdjacentCmpFunc_LI_G N) tab [] Try.f268 slices_medianAdjacentCmpFunc_LI_ps slices_medianAdjacentCmpFunc_LI_rs⟩ := congrArg (FSum.mk slices_medianAdjacentCmpFunc_LI_ps slices_medianAdjacentCmpFunc_LI_rs) (funext (slices_medianAdjacentCmpFunc_LI_run N))
  rw [e]
  exact fun_ok (c := slices_medianAdjacentCmpFunc_LI_code) progOk (slices_medianAdjacentCmpFunc_LI_gok N) (draw_ok progOk (slices_medianAdjacentCmpFunc_LI_gok N)) Try.call268 Try.func268 (by kernel_rfl) (lsOk_at (L := []) trivial) (by kernel_rfl) (by kernel_rfl) (by kernel_rfl) (by kernel_rfl) (by kernel_rfl)

/-! ### slices_choosePivotCmpFunc_LI -/
abbrev slices_choosePivotCmpFunc_LI_ps : List (PV.Mode × Ty) := [(.ro, LLI), (.ro, I), (.ro, I), (.ro, GLILII)]
abbrev slices_choosePivotCmpFunc_LI_rs : List (Bool × Ty) := [(true, I), (true, I)]
noncomputable def slices_choosePivotCmpFunc_LI_G (N : Nat) : GTab := gOf [(268, slices_medianAdjacentCmpFunc_LI_S N), (269, slices_medianCmpFunc_LI_S N)]
theorem slices_choosePivotCmpFunc_LI_gok (N : Nat) : GOk Try.prog (slices_choosePivotCmpFunc_LI_G N) := gOf_ok ⟨slices_medianAdjacentCmpFunc_LI_pc N, slices_medianCmpFunc_LI_pc N, trivial⟩
noncomputable def slices_choosePivotCmpFunc_LI_code : Code := (Try.f245.body).getD .skip
noncomputable def slices_choosePivotCmpFunc_LI (N : Nat) (data : (List (List Int))) (a : Int) (b : Int) (cmp : ((List Int) → (List Int) → Option Int)) : Option ((Int × Int × Unit) × (Unit)) :=
  (br (ile 8 (IntKind.i64.wrap (b - a)))
    ((br (ile 50 (IntKind.i64.wrap (b - a)))
      (((slices_medianAdjacentCmpFunc_LI N data (IntKind.i64.wrap (a + (IntKind.i64.wrap ((IntKind.i64.wrap ((IntKind.i64.wrap (b - a)).tdiv 4)) * 1)))) 0 cmp).bind fun r =>
        ((slices_medianAdjacentCmpFunc_LI N data (IntKind.i64.wrap (a + (IntKind.i64.wrap ((IntKind.i64.wrap ((IntKind.i64.wrap (b - a)).tdiv 4)) * 2)))) r.2.1 cmp).bind fun r1 =>
          ((slices_medianAdjacentCmpFunc_LI N data (IntKind.i64.wrap (a + (IntKind.i64.wrap ((IntKind.i64.wrap ((IntKind.i64.wrap (b - a)).tdiv 4)) * 3)))) r1.2.1 cmp).bind fun r2 =>
            ((slices_medianCmpFunc_LI N data r.1.1 r1.1.1 r2.1.1 r2.2.1 cmp).bind fun r3 =>
              (br (ieq r3.2.1 0)
                (some ((r3.1.1, 1, ()), ()))
                ((br (ieq r3.2.1 12)
                  (some ((r3.1.1, 2, ()), ()))
                  (some ((r3.1.1, 0, ()), ()))))))))))
      (((slices_medianCmpFunc_LI N data (IntKind.i64.wrap (a + (IntKind.i64.wrap ((IntKind.i64.wrap ((IntKind.i64.wrap (b - a)).tdiv 4)) * 1)))) (IntKind.i64.wrap (a + (IntKind.i64.wrap ((IntKind.i64.wrap ((IntKind.i64.wrap (b - a)).tdiv 4)) * 2)))) (IntKind.i64.wrap (a + (IntKind.i64.wrap ((IntKind.i64.wrap ((IntKind.i64.wrap (b - a)).tdiv 4)) * 3)))) 0 cmp).bind fun r4 =>
        (br (ieq r4.2.1 0)
          (some ((r4.1.1, 1, ()), ()))
          ((br (ieq r4.2.1 12)
            (some ((r4.1.1, 2, ()), ()))
            (some ((r4.1.1, 0, ()), ())))))))))
    (some (((IntKind.i64.wrap (a + (IntKind.i64.wrap ((IntKind.i64.wrap ((IntKind.i64.wrap (b - a)).tdiv 4)) * 2)))), 1, ()), ())))
noncomputable def slices_choosePivotCmpFunc_LI_S (N : Nat) : FSum := ⟨slices_choosePivotCmpFunc_LI_ps, slices_choosePivotCmpFunc_LI_rs, fun x => slices_choosePivotCmpFunc_LI N x.1 x.2.1 x.2.2.1 x.2.2.2.1⟩
theorem slices_choosePivotCmpFunc_LI_run (N : Nat) (x : argsT slices_choosePivotCmpFunc_LI_ps) : slices_choosePivotCmpFunc_LI N x.1 x.2.1 x.2.2.1 x.2.2.2.1 = funF (slices_choosePivotCmpFunc_LI_G N) tab [] Try.f245 slices_choosePivotCmpFunc_LI_ps slices_choosePivotCmpFunc_LI_rs x := by kernel_rfl
theorem slices_choosePivotCmpFunc_LI_pc (N : Nat) : PC Try.prog 245 (slices_choosePivotCmpFunc_LI_S N) := by
  have e : slices_choosePivotCmpFunc_LI_S N = ⟨slices_choosePivotCmpFunc_LI_ps, slices_choosePivotCmpFunc_LI_rs, funF (slices_choosePivotCmpFunc_LI_G N) tab [] Try.f245 slices_choosePivotCmpFunc_LI_ps slices_choosePivotCmpFunc_LI_rs⟩ := congrArg (FSum.mk slices_choosePivotCmpFunc_LI_ps slices_choosePivotCmpFunc_LI_rs) (funext (slices_choosePivotCmpFunc_LI_run N))
  rw [e]
  exact fun_ok (c := slices_choosePivotCmpFunc_LI_code) progOk (slices_choosePivotCmpFunc_LI_gok N) (draw_ok progOk (slices_choosePivotCmpFunc_LI_gok N)) Try.call245 Try.func245 (by kernel_rfl) (lsOk_at (L := []) trivial) (by kernel_rfl) (by kernel_rfl) (by kernel_rfl) (by kernel_rfl) (by kernel_rfl)

/-! ### slices_partialInsertionSortCmpFunc_LI -/
abbrev slices_partialInsertionSortCmpFunc_LI_ps : List (PV.Mode × Ty) := [(.ro, LLI), (.ro, I), (.ro, I), (.ro, GLILII)]
abbrev slices_partialInsertionSortCmpFunc_LI_rs : List (Bool × Ty) := [(true, .bool)]
noncomputable def slices_partialInsertionSortCmpFunc_LI_G (N : Nat) : GTab := gOf []
theorem slices_partialInsertionSortCmpFunc_LI_gok (N : Nat) : GOk Try.prog (slices_partialInsertionSortCmpFunc_LI_G N) := gOf_ok trivial
noncomputable def slices_partialInsertionSortCmpFunc_LI_code : Code := (Try.f247.body).getD .skip
noncomputable def slices_partialInsertionSortCmpFunc_LI_l0_0_sh : Sh := ⟨[(0, .one (.ro LLI)), (1, .one (.ro I)), (2, .one (.ro I)), (3, .one (.ro GLILII)), (9, .one (.ro I)), (10, .one (.ro I))], []⟩
noncomputable def slices_partialInsertionSortCmpFunc_LI_l0_0_ex : List (Ex × Sh) := [(.exit 2, ⟨[(0, .one (.ro LLI)), (1, .one (.ro I)), (2, .one (.ro I)), (3, .one (.ro GLILII)), (9, .one (.ro I)), (10, .one (.ro I))], []⟩)]
noncomputable def slices_partialInsertionSortCmpFunc_LI_l0_0 {R : Type} (N : Nat) (k0 : (List (List Int)) → Int → Int → ((List Int) → (List Int) → Option Int) → Int → Int → Option R) : Nat → (List (List Int)) → Int → Int → ((List Int) → (List Int) → Option Int) → Int → Int → Option R
  | 0, _, _, _, _, _, _ => none
  | K + 1, x6, x7, x8, x9, x10, x11 =>
    (br (ilt x10 x8)
      ((chk (inb x6 x10)
        (chk (inb x6 (IntKind.i64.wrap (x10 - 1)))
        ((x9 (rdL x6 x10) (rdL x6 (IntKind.i64.wrap (x10 - 1)))).bind fun v =>
        (br (!(ilt v 0))
        (slices_partialInsertionSortCmpFunc_LI_l0_0 N k0 K x6 x7 x8 x9 (IntKind.i64.wrap (x10 + 1)) x11)
        (k0 x6 x7 x8 x9 x10 x11))))))
      (k0 x6 x7 x8 x9 x10 x11))
noncomputable def slices_partialInsertionSortCmpFunc_LI_l0_0_again {R : Type} (N : Nat) (ks : (j : Nat) → ((slices_partialInsertionSortCmpFunc_LI_l0_0_ex.getD j (.ret, Sh.none)).2).T → Option R) (k : Nat) (x : slices_partialInsertionSortCmpFunc_LI_l0_0_sh.T) : Option R :=
  slices_partialInsertionSortCmpFunc_LI_l0_0 N (fun y0 y1 y2 y3 y4 y5 => ks 0 ((y0, y1, y2, y3, y4, y5, ()), ())) k x.1.1 x.1.2.1 x.1.2.2.1 x.1.2.2.2.1 x.1.2.2.2.2.1 x.1.2.2.2.2.2.1
noncomputable def slices_partialInsertionSortCmpFunc_LI_l0_0_s (N : Nat) : LSum := ⟨slices_partialInsertionSortCmpFunc_LI_l0_0_sh, slices_partialInsertionSortCmpFunc_LI_l0_0_ex, fun x ks => slices_partialInsertionSortCmpFunc_LI_l0_0_again N ks N x⟩
theorem slices_partialInsertionSortCmpFunc_LI_l0_0_step (N : Nat) (R : Type) (k : Nat) (x : slices_partialInsertionSortCmpFunc_LI_l0_0_sh.T) (ks : (j : Nat) → ((slices_partialInsertionSortCmpFunc_LI_l0_0_ex.getD j (.ret, Sh.none)).2).T → Option R) : slices_partialInsertionSortCmpFunc_LI_l0_0_again N ks (k + 1) x = roundF (slices_partialInsertionSortCmpFunc_LI_G N) tab [] (loopAt (loopAt slices_partialInsertionSortCmpFunc_LI_code 0) 0) slices_partialInsertionSortCmpFunc_LI_l0_0_sh slices_partialInsertionSortCmpFunc_LI_l0_0_ex (fun y => slices_partialInsertionSortCmpFunc_LI_l0_0_again N ks k y) ks x := by kernel_rfl
theorem slices_partialInsertionSortCmpFunc_LI_l0_0_ok (N : Nat) : LoopOk Try.prog Try.f247.ntmps (slices_partialInsertionSortCmpFunc_LI_l0_0_s N) (loopAt (loopAt slices_partialInsertionSortCmpFunc_LI_code 0) 0) :=
  loop_ok (l := slices_partialInsertionSortCmpFunc_LI_l0_0_s N) progOk (slices_partialInsertionSortCmpFunc_LI_gok N) (draw_ok progOk (slices_partialInsertionSortCmpFunc_LI_gok N)) (fun R k x ks => slices_partialInsertionSortCmpFunc_LI_l0_0_again N ks k x) (fun _ _ _ => rfl) (fun R k x ks => slices_partialInsertionSortCmpFunc_LI_l0_0_step N R k x ks) (fun R x ks r h => ⟨N, h⟩) (lsOk_at (L := []) trivial) (by kernel_rfl) (by kernel_rfl)
noncomputable def slices_partialInsertionSortCmpFunc_LI_l0_sh : Sh := ⟨[(0, .one (.ro LLI)), (1, .one (.ro I)), (2, .one (.ro I)), (3, .one (.ro GLILII)), (9, .one (.ro I)), (10, .one (.ro I))], []⟩
noncomputable def slices_partialInsertionSortCmpFunc_LI_l0_ex : List (Ex × Sh) := [(.ret, ⟨[(8, .one (.ro .bool))], []⟩), (.exit 0, ⟨[], []⟩)]
noncomputable def slices_partialInsertionSortCmpFunc_LI_l0 {R : Type} (N : Nat) (k0 : Bool → Option R) (k1 : Unit → Option R) : Nat → (List (List Int)) → Int → Int → ((List Int) → (List Int) → Option Int) → Int → Int → Option R
  | 0, _, _, _, _, _, _ => none
  | K + 1, x, x1, x2, x3, x4, x5 =>
    (br (ilt x5 5)
      (slices_partialInsertionSortCmpFunc_LI_l0_0 N (fun x6 x7 x8 x9 x10 x11 => (br (ieq x10 x8)
        (k0 true)
        ((br (ilt (IntKind.i64.wrap (x8 - x7)) 50)
          (k0 false)
          ((chk (inb x6 (IntKind.i64.wrap (x10 - 1)))
            (chk (inb x6 x10)
            (chk (inb x6 x10)
            none)))))))) N x x1 x2 x3 x4 x5)
      (k1 ()))
noncomputable def slices_partialInsertionSortCmpFunc_LI_l0_again {R : Type} (N : Nat) (ks : (j : Nat) → ((slices_partialInsertionSortCmpFunc_LI_l0_ex.getD j (.ret, Sh.none)).2).T → Option R) (k : Nat) (x : slices_partialInsertionSortCmpFunc_LI_l0_sh.T) : Option R :=
  slices_partialInsertionSortCmpFunc_LI_l0 N (fun y0 => ks 0 ((y0, ()), ())) (fun (_ : Unit) => ks 1 ((), ())) k x.1.1 x.1.2.1 x.1.2.2.1 x.1.2.2.2.1 x.1.2.2.2.2.1 x.1.2.2.2.2.2.1
noncomputable def slices_partialInsertionSortCmpFunc_LI_l0_s (N : Nat) : LSum := ⟨slices_partialInsertionSortCmpFunc_LI_l0_sh, slices_partialInsertionSortCmpFunc_LI_l0_ex, fun x ks => slices_partialInsertionSortCmpFunc_LI_l0_again N ks N x⟩
theorem slices_partialInsertionSortCmpFunc_LI_l0_step (N : Nat) (R : Type) (k : Nat) (x : slices_partialInsertionSortCmpFunc_LI_l0_sh.T) (ks : (j : Nat) → ((slices_partialInsertionSortCmpFunc_LI_l0_ex.getD j (.ret, Sh.none)).2).T → Option R) : slices_partialInsertionSortCmpFunc_LI_l0_again N ks (k + 1) x = roundF (slices_partialInsertionSortCmpFunc_LI_G N) tab [slices_partialInsertionSortCmpFunc_LI_l0_0_s N] (loopAt slices_partialInsertionSortCmpFunc_LI_code 0) slices_partialInsertionSortCmpFunc_LI_l0_sh slices_partialInsertionSortCmpFunc_LI_l0_ex (fun y => slices_partialInsertionSortCmpFunc_LI_l0_again N ks k y) ks x := by kernel_rfl
theorem slices_partialInsertionSortCmpFunc_LI_l0_ok (N : Nat) : LoopOk Try.prog Try.f247.ntmps (slices_partialInsertionSortCmpFunc_LI_l0_s N) (loopAt slices_partialInsertionSortCmpFunc_LI_code 0) :=
  loop_ok (l := slices_partialInsertionSortCmpFunc_LI_l0_s N) progOk (slices_partialInsertionSortCmpFunc_LI_gok N) (draw_ok progOk (slices_partialInsertionSortCmpFunc_LI_gok N)) (fun R k x ks => slices_partialInsertionSortCmpFunc_LI_l0_again N ks k x) (fun _ _ _ => rfl) (fun R k x ks => slices_partialInsertionSortCmpFunc_LI_l0_step N R k x ks) (fun R x ks r h => ⟨N, h⟩) (lsOk_at (L := [slices_partialInsertionSortCmpFunc_LI_l0_0_s N]) ⟨slices_partialInsertionSortCmpFunc_LI_l0_0_ok N, trivial⟩) (by kernel_rfl) (by kernel_rfl)
noncomputable def slices_partialInsertionSortCmpFunc_LI (N : Nat) (c : (List (List Int))) (c1 : Int) (c2 : Int) (c3 : ((List Int) → (List Int) → Option Int)) : Option ((Bool × Unit) × (Unit)) :=
  slices_partialInsertionSortCmpFunc_LI_l0 N (fun x => some ((x, ()), ())) (fun (_ : Unit) => some ((false, ()), ())) N c c1 c2 c3 (IntKind.i64.wrap (c1 + 1)) 0
noncomputable def slices_partialInsertionSortCmpFunc_LI_S (N : Nat) : FSum := ⟨slices_partialInsertionSortCmpFunc_LI_ps, slices_partialInsertionSortCmpFunc_LI_rs, fun x => slices_partialInsertionSortCmpFunc_LI N x.1 x.2.1 x.2.2.1 x.2.2.2.1⟩
theorem slices_partialInsertionSortCmpFunc_LI_run (N : Nat) (x : argsT slices_partialInsertionSortCmpFunc_LI_ps) : slices_partialInsertionSortCmpFunc_LI N x.1 x.2.1 x.2.2.1 x.2.2.2.1 = funF (slices_partialInsertionSortCmpFunc_LI_G N) tab [slices_partialInsertionSortCmpFunc_LI_l0_s N] Try.f247 slices_partialInsertionSortCmpFunc_LI_ps slices_partialInsertionSortCmpFunc_LI_rs x := by kernel_rfl
theorem slices_partialInsertionSortCmpFunc_LI_pc (N : Nat) : PC Try.prog 247 (slices_partialInsertionSortCmpFunc_LI_S N) := by
  have e : slices_partialInsertionSortCmpFunc_LI_S N = ⟨slices_partialInsertionSortCmpFunc_LI_ps, slices_partialInsertionSortCmpFunc_LI_rs, funF (slices_partialInsertionSortCmpFunc_LI_G N) tab [slices_partialInsertionSortCmpFunc_LI_l0_s N] Try.f247 slices_partialInsertionSortCmpFunc_LI_ps slices_partialInsertionSortCmpFunc_LI_rs⟩ := congrArg (FSum.mk slices_partialInsertionSortCmpFunc_LI_ps slices_partialInsertionSortCmpFunc_LI_rs) (funext (slices_partialInsertionSortCmpFunc_LI_run N))
  rw [e]
  exact fun_ok (c := slices_partialInsertionSortCmpFunc_LI_code) progOk (slices_partialInsertionSortCmpFunc_LI_gok N) (draw_ok progOk (slices_partialInsertionSortCmpFunc_LI_gok N)) Try.call247 Try.func247 (by kernel_rfl) (lsOk_at (L := [slices_partialInsertionSortCmpFunc_LI_l0_s N]) ⟨slices_partialInsertionSortCmpFunc_LI_l0_ok N, trivial⟩) (by kernel_rfl) (by kernel_rfl) (by kernel_rfl) (by kernel_rfl) (by kernel_rfl)

/-! ### slices_pdqsortCmpFunc_LI -/
abbrev slices_pdqsortCmpFunc_LI_ps : List (PV.Mode × Ty) := [(.ro, LLI), (.ro, I), (.ro, I), (.ro, I), (.ro, GLILII)]
abbrev slices_pdqsortCmpFunc_LI_rs : List (Bool × Ty) := []
noncomputable def slices_pdqsortCmpFunc_LI_G (N : Nat) : GTab := gOf [(242, slices_insertionSortCmpFunc_LI_S N), (245, slices_choosePivotCmpFunc_LI_S N), (247, slices_partialInsertionSortCmpFunc_LI_S N)]
theorem slices_pdqsortCmpFunc_LI_gok (N : Nat) : GOk Try.prog (slices_pdqsortCmpFunc_LI_G N) := gOf_ok ⟨slices_insertionSortCmpFunc_LI_pc N, slices_choosePivotCmpFunc_LI_pc N, slices_partialInsertionSortCmpFunc_LI_pc N, trivial⟩
noncomputable def slices_pdqsortCmpFunc_LI_code : Code := (Try.f218.body).getD .skip
noncomputable def slices_pdqsortCmpFunc_LI_l0_sh : Sh := ⟨[(0, .one (.ro LLI)), (1, .one (.ro I)), (2, .one (.ro I)), (3, .one (.ro I)), (4, .one (.ro GLILII)), (10, .one (.ro .bool)), (11, .one (.ro .bool))], []⟩
noncomputable def slices_pdqsortCmpFunc_LI_l0_ex : List (Ex × Sh) := [(.ret, ⟨[], []⟩)]
noncomputable def slices_pdqsortCmpFunc_LI_l0 {R : Type} (N : Nat) (k0 : Unit → Option R) : Nat → (List (List Int)) → Int → Int → Int → ((List Int) → (List Int) → Option Int) → Bool → Bool → Option R
  | 0, _, _, _, _, _, _, _ => none
  | K + 1, x, x1, x2, x3, x4, x5, x6 =>
    (br (ile (IntKind.i64.wrap (x2 - x1)) 12)
      (((slices_insertionSortCmpFunc_LI N x x1 x2 x4).bind fun r =>
        k0 ()))
      ((br (ieq x3 0)
        (none)
        ((br (!x5)
          (none)
          (((slices_choosePivotCmpFunc_LI N x x1 x2 x4).bind fun r1 =>
            (br (ieq r1.1.2.1 2)
              (none)
              ((br x5
                ((br x6
                  ((br (ieq r1.1.2.1 1)
                    (((slices_partialInsertionSortCmpFunc_LI N x x1 x2 x4).bind fun r2 =>
                      (br r2.1.1
                        (k0 ())
                        ((br (ilt 0 x1)
                          ((chk (inb x (IntKind.i64.wrap (x1 - 1)))
                            (chk (inb x r1.1.1)
                            ((x4 (rdL x (IntKind.i64.wrap (x1 - 1))) (rdL x r1.1.1)).bind fun v =>
                            (br (!(ilt v 0))
                            (none)
                            (none))))))
                          (none))))))
                    ((br (ilt 0 x1)
                      ((chk (inb x (IntKind.i64.wrap (x1 - 1)))
                        (chk (inb x r1.1.1)
                        ((x4 (rdL x (IntKind.i64.wrap (x1 - 1))) (rdL x r1.1.1)).bind fun v1 =>
                        (br (!(ilt v1 0))
                        (none)
                        (none))))))
                      (none)))))
                  ((br (ilt 0 x1)
                    ((chk (inb x (IntKind.i64.wrap (x1 - 1)))
                      (chk (inb x r1.1.1)
                      ((x4 (rdL x (IntKind.i64.wrap (x1 - 1))) (rdL x r1.1.1)).bind fun v2 =>
                      (br (!(ilt v2 0))
                      (none)
                      (none))))))
                    (none)))))
                ((br (ilt 0 x1)
                  ((chk (inb x (IntKind.i64.wrap (x1 - 1)))
                    (chk (inb x r1.1.1)
                    ((x4 (rdL x (IntKind.i64.wrap (x1 - 1))) (rdL x r1.1.1)).bind fun v3 =>
                    (br (!(ilt v3 0))
                    (none)
                    (none))))))
                  (none)))))))))))))
noncomputable def slices_pdqsortCmpFunc_LI_l0_again {R : Type} (N : Nat) (ks : (j : Nat) → ((slices_pdqsortCmpFunc_LI_l0_ex.getD j (.ret, Sh.none)).2).T → Option R) (k : Nat) (x : slices_pdqsortCmpFunc_LI_l0_sh.T) : Option R :=
  slices_pdqsortCmpFunc_LI_l0 N (fun (_ : Unit) => ks 0 ((), ())) k x.1.1 x.1.2.1 x.1.2.2.1 x.1.2.2.2.1 x.1.2.2.2.2.1 x.1.2.2.2.2.2.1 x.1.2.2.2.2.2.2.1
noncomputable def slices_pdqsortCmpFunc_LI_l0_s (N : Nat) : LSum := ⟨slices_pdqsortCmpFunc_LI_l0_sh, slices_pdqsortCmpFunc_LI_l0_ex, fun x ks => slices_pdqsortCmpFunc_LI_l0_again N ks N x⟩
theorem slices_pdqsortCmpFunc_LI_l0_step (N : Nat) (R : Type) (k : Nat) (x : slices_pdqsortCmpFunc_LI_l0_sh.T) (ks : (j : Nat) → ((slices_pdqsortCmpFunc_LI_l0_ex.getD j (.ret, Sh.none)).2).T → Option R) : slices_pdqsortCmpFunc_LI_l0_again N ks (k + 1) x = roundF (slices_pdqsortCmpFunc_LI_G N) tab [] (loopAt slices_pdqsortCmpFunc_LI_code 0) slices_pdqsortCmpFunc_LI_l0_sh slices_pdqsortCmpFunc_LI_l0_ex (fun y => slices_pdqsortCmpFunc_LI_l0_again N ks k y) ks x := by kernel_rfl
theorem slices_pdqsortCmpFunc_LI_l0_ok (N : Nat) : LoopOk Try.prog Try.f218.ntmps (slices_pdqsortCmpFunc_LI_l0_s N) (loopAt slices_pdqsortCmpFunc_LI_code 0) :=
  loop_ok (l := slices_pdqsortCmpFunc_LI_l0_s N) progOk (slices_pdqsortCmpFunc_LI_gok N) (draw_ok progOk (slices_pdqsortCmpFunc_LI_gok N)) (fun R k x ks => slices_pdqsortCmpFunc_LI_l0_again N ks k x) (fun _ _ _ => rfl) (fun R k x ks => slices_pdqsortCmpFunc_LI_l0_step N R k x ks) (fun R x ks r h => ⟨N, h⟩) (lsOk_at (L := []) trivial) (by kernel_rfl) (by kernel_rfl)
noncomputable def slices_pdqsortCmpFunc_LI (N : Nat) (c : (List (List Int))) (c1 : Int) (c2 : Int) (c3 : Int) (c4 : ((List Int) → (List Int) → Option Int)) : Option ((Unit) × (Unit)) :=
  slices_pdqsortCmpFunc_LI_l0 N (fun (_ : Unit) => some ((), ())) N c c1 c2 c3 c4 true true
noncomputable def slices_pdqsortCmpFunc_LI_S (N : Nat) : FSum := ⟨slices_pdqsortCmpFunc_LI_ps, slices_pdqsortCmpFunc_LI_rs, fun x => slices_pdqsortCmpFunc_LI N x.1 x.2.1 x.2.2.1 x.2.2.2.1 x.2.2.2.2.1⟩
theorem slices_pdqsortCmpFunc_LI_run (N : Nat) (x : argsT slices_pdqsortCmpFunc_LI_ps) : slices_pdqsortCmpFunc_LI N x.1 x.2.1 x.2.2.1 x.2.2.2.1 x.2.2.2.2.1 = funF (slices_pdqsortCmpFunc_LI_G N) tab [slices_pdqsortCmpFunc_LI_l0_s N] Try.f218 slices_pdqsortCmpFunc_LI_ps slices_pdqsortCmpFunc_LI_rs x := by kernel_rfl
theorem slices_pdqsortCmpFunc_LI_pc (N : Nat) : PC Try.prog 218 (slices_pdqsortCmpFunc_LI_S N) := by
  have e : slices_pdqsortCmpFunc_LI_S N = ⟨slices_pdqsortCmpFunc_LI_ps, slices_pdqsortCmpFunc_LI_rs, funF (slices_pdqsortCmpFunc_LI_G N) tab [slices_pdqsortCmpFunc_LI_l0_s N] Try.f218 slices_pdqsortCmpFunc_LI_ps slices_pdqsortCmpFunc_LI_rs⟩ := congrArg (FSum.mk slices_pdqsortCmpFunc_LI_ps slices_pdqsortCmpFunc_LI_rs) (funext (slices_pdqsortCmpFunc_LI_run N))
  rw [e]
  exact fun_ok (c := slices_pdqsortCmpFunc_LI_code) progOk (slices_pdqsortCmpFunc_LI_gok N) (draw_ok progOk (slices_pdqsortCmpFunc_LI_gok N)) Try.call218 Try.func218 (by kernel_rfl) (lsOk_at (L := [slices_pdqsortCmpFunc_LI_l0_s N]) ⟨slices_pdqsortCmpFunc_LI_l0_ok N, trivial⟩) (by kernel_rfl) (by kernel_rfl) (by kernel_rfl) (by kernel_rfl) (by kernel_rfl)

/-! ### slices_SortFunc_LLI_LI -/
abbrev slices_SortFunc_LLI_LI_ps : List (PV.Mode × Ty) := [(.ro, LLI), (.ro, GLILII)]
abbrev slices_SortFunc_LLI_LI_rs : List (Bool × Ty) := []
noncomputable def slices_SortFunc_LLI_LI_G (N : Nat) : GTab := gOf [(219, math_bits_Len_S N), (218, slices_pdqsortCmpFunc_LI_S N)]
theorem slices_SortFunc_LLI_LI_gok (N : Nat) : GOk Try.prog (slices_SortFunc_LLI_LI_G N) := gOf_ok ⟨math_bits_Len_pc N, slices_pdqsortCmpFunc_LI_pc N, trivial⟩
noncomputable def slices_SortFunc_LLI_LI_code : Code := (Try.f176.body).getD .skip
noncomputable def slices_SortFunc_LLI_LI (N : Nat) (x : (List (List Int))) (cmp : ((List Int) → (List Int) → Option Int)) : Option ((Unit) × (Unit)) :=
  ((math_bits_Len N (IntKind.u64.wrap ((tLen x)))).bind fun r =>
    ((slices_pdqsortCmpFunc_LI N x 0 (tLen x) r.1.1 cmp).bind fun r1 =>
      some ((), ())))
noncomputable def slices_SortFunc_LLI_LI_S (N : Nat) : FSum := ⟨slices_SortFunc_LLI_LI_ps, slices_SortFunc_LLI_LI_rs, fun x => slices_SortFunc_LLI_LI N x.1 x.2.1⟩
theorem slices_SortFunc_LLI_LI_run (N : Nat) (x : argsT slices_SortFunc_LLI_LI_ps) : slices_SortFunc_LLI_LI N x.1 x.2.1 = funF (slices_SortFunc_LLI_LI_G N) tab [] Try.f176 slices_SortFunc_LLI_LI_ps slices_SortFunc_LLI_LI_rs x := by kernel_rfl
theorem slices_SortFunc_LLI_LI_pc (N : Nat) : PC Try.prog 176 (slices_SortFunc_LLI_LI_S N) := by
  have e : slices_SortFunc_LLI_LI_S N = ⟨slices_SortFunc_LLI_LI_ps, slices_SortFunc_LLI_LI_rs, funF (slices_SortFunc_LLI_LI_G N) tab [] Try.f176 slices_SortFunc_LLI_LI_ps slices_SortFunc_LLI_LI_rs⟩ := congrArg (FSum.mk slices_SortFunc_LLI_LI_ps slices_SortFunc_LLI_LI_rs) (funext (slices_SortFunc_LLI_LI_run N))
  rw [e]
  exact fun_ok (c := slices_SortFunc_LLI_LI_code) progOk (slices_SortFunc_LLI_LI_gok N) (draw_ok progOk (slices_SortFunc_LLI_LI_gok N)) Try.call176 Try.func176 (by kernel_rfl) (lsOk_at (L := []) trivial) (by kernel_rfl) (by kernel_rfl) (by kernel_rfl) (by kernel_rfl) (by kernel_rfl)

/-! ### cmp_isNaN_int -/
abbrev cmp_isNaN_int_ps : List (PV.Mode × Ty) := [(.ro, I)]
abbrev cmp_isNaN_int_rs : List (Bool × Ty) := [(true, .bool)]
noncomputable def cmp_isNaN_int_G (N : Nat) : GTab := gOf []
theorem cmp_isNaN_int_gok (N : Nat) : GOk Try.prog (cmp_isNaN_int_G N) := gOf_ok trivial
noncomputable def cmp_isNaN_int_code : Code := (Try.f252.body).getD .skip
noncomputable def cmp_isNaN_int (N : Nat) (x : Int) : Option ((Bool × Unit) × (Unit)) :=
  some (((ine x x), ()), ())
noncomputable def cmp_isNaN_int_S (N : Nat) : FSum := ⟨cmp_isNaN_int_ps, cmp_isNaN_int_rs, fun x => cmp_isNaN_int N x.1⟩
theorem cmp_isNaN_int_run (N : Nat) (x : argsT cmp_isNaN_int_ps) : cmp_isNaN_int N x.1 = funF (cmp_isNaN_int_G N) tab [] Try.f252 cmp_isNaN_int_ps cmp_isNaN_int_rs x := by kernel_rfl
theorem cmp_isNaN_int_pc (N : Nat) : PC Try.prog 252 (cmp_isNaN_int_S N) := by
  have e : cmp_isNaN_int_S N = ⟨cmp_isNaN_int_ps, cmp_isNaN_int_rs, funF (cmp_isNaN_int_G N) tab [] Try.f252 cmp_isNaN_int_ps cmp_isNaN_int_rs⟩ := congrArg (FSum.mk cmp_isNaN_int_ps cmp_isNaN_int_rs) (funext (cmp_isNaN_int_run N))
  rw [e]
  exact fun_ok (c := cmp_isNaN_int_code) progOk (cmp_isNaN_int_gok N) (draw_ok progOk (cmp_isNaN_int_gok N)) Try.call252 Try.func252 (by kernel_rfl) (lsOk_at (L := []) trivial) (by kernel_rfl) (by kernel_rfl) (by kernel_rfl) (by kernel_rfl) (by kernel_rfl)

/-! ### cmp_Compare_int -/
abbrev cmp_Compare_int_ps : List (PV.Mode × Ty) := [(.ro, I), (.ro, I)]
abbrev cmp_Compare_int_rs : List (Bool × Ty) := [(true, I)]
noncomputable def cmp_Compare_int_G (N : Nat) : GTab := gOf [(252, cmp_isNaN_int_S N)]
theorem cmp_Compare_int_gok (N : Nat) : GOk Try.prog (cmp_Compare_int_G N) := gOf_ok ⟨cmp_isNaN_int_pc N, trivial⟩
noncomputable def cmp_Compare_int_code : Code := (Try.f220.body).getD .skip
noncomputable def cmp_Compare_int (N : Nat) (x : Int) (y : Int) : Option ((Int × Unit) × (Unit)) :=
  ((cmp_isNaN_int N x).bind fun r =>
    ((cmp_isNaN_int N y).bind fun r1 =>
      (br r.1.1
        ((br r1.1.1
          (some ((0, ()), ()))
          (some (((-1), ()), ()))))
        ((br r1.1.1
          (some ((1, ()), ()))
          ((br (ilt x y)
            (some (((-1), ()), ()))
            ((br (ilt y x)
              (some ((1, ()), ()))
              (some ((0, ()), ())))))))))))
noncomputable def cmp_Compare_int_S (N : Nat) : FSum := ⟨cmp_Compare_int_ps, cmp_Compare_int_rs, fun x => cmp_Compare_int N x.1 x.2.1⟩
theorem cmp_Compare_int_run (N : Nat) (x : argsT cmp_Compare_int_ps) : cmp_Compare_int N x.1 x.2.1 = funF (cmp_Compare_int_G N) tab [] Try.f220 cmp_Compare_int_ps cmp_Compare_int_rs x := by kernel_rfl
theorem cmp_Compare_int_pc (N : Nat) : PC Try.prog 220 (cmp_Compare_int_S N) := by
  have e : cmp_Compare_int_S N = ⟨cmp_Compare_int_ps, cmp_Compare_int_rs, funF (cmp_Compare_int_G N) tab [] Try.f220 cmp_Compare_int_ps cmp_Compare_int_rs⟩ := congrArg (FSum.mk cmp_Compare_int_ps cmp_Compare_int_rs) (funext (cmp_Compare_int_run N))
  rw [e]
  exact fun_ok (c := cmp_Compare_int_code) progOk (cmp_Compare_int_gok N) (draw_ok progOk (cmp_Compare_int_gok N)) Try.call220 Try.func220 (by kernel_rfl) (lsOk_at (L := []) trivial) (by kernel_rfl) (by kernel_rfl) (by kernel_rfl) (by kernel_rfl) (by kernel_rfl)

/-! ### slices_Compare_LI_int -/
abbrev slices_Compare_LI_int_ps : List (PV.Mode × Ty) := [(.ro, LI), (.ro, LI)]
abbrev slices_Compare_LI_int_rs : List (Bool × Ty) := [(true, I)]
noncomputable def slices_Compare_LI_int_G (N : Nat) : GTab := gOf [(220, cmp_Compare_int_S N)]
theorem slices_Compare_LI_int_gok (N : Nat) : GOk Try.prog (slices_Compare_LI_int_G N) := gOf_ok ⟨cmp_Compare_int_pc N, trivial⟩
noncomputable def slices_Compare_LI_int_code : Code := (Try.f177.body).getD .skip
noncomputable def slices_Compare_LI_int_l0_sh : Sh := ⟨[(0, .one (.ro LI)), (1, .one (.ro LI)), (9, .one (.ro LI)), (10, .one (.ro I)), (11, .one (.ro I))], []⟩
noncomputable def slices_Compare_LI_int_l0_ex : List (Ex × Sh) := [(.ret, ⟨[(4, .one (.ro I))], []⟩), (.exit 0, ⟨[(0, .one (.ro LI)), (1, .one (.ro LI))], []⟩)]
noncomputable def slices_Compare_LI_int_l0 {R : Type} (N : Nat) (k0 : Int → Option R) (k1 : (List Int) → (List Int) → Option R) : Nat → (List Int) → (List Int) → (List Int) → Int → Int → Option R
  | 0, _, _, _, _, _ => none
  | K + 1, s11, s21, x, x1, x2 =>
    (br (ilt x2 x1)
      ((chk (inb x x2)
        (br (ile (tLen s21) x2)
        (k0 1)
        ((chk (inb s21 x2)
          ((cmp_Compare_int N (rdI x x2) (rdI s21 x2)).bind fun r =>
          (br (ine r.1.1 0)
            (k0 r.1.1)
            (slices_Compare_LI_int_l0 N k0 k1 K s11 s21 x x1 (IntKind.i64.wrap (x2 + 1))))))))))
      (k1 s11 s21))
noncomputable def slices_Compare_LI_int_l0_again {R : Type} (N : Nat) (ks : (j : Nat) → ((slices_Compare_LI_int_l0_ex.getD j (.ret, Sh.none)).2).T → Option R) (k : Nat) (x : slices_Compare_LI_int_l0_sh.T) : Option R :=
  slices_Compare_LI_int_l0 N (fun y0 => ks 0 ((y0, ()), ())) (fun y0 y1 => ks 1 ((y0, y1, ()), ())) k x.1.1 x.1.2.1 x.1.2.2.1 x.1.2.2.2.1 x.1.2.2.2.2.1
noncomputable def slices_Compare_LI_int_l0_s (N : Nat) : LSum := ⟨slices_Compare_LI_int_l0_sh, slices_Compare_LI_int_l0_ex, fun x ks => slices_Compare_LI_int_l0_again N ks N x⟩
theorem slices_Compare_LI_int_l0_step (N : Nat) (R : Type) (k : Nat) (x : slices_Compare_LI_int_l0_sh.T) (ks : (j : Nat) → ((slices_Compare_LI_int_l0_ex.getD j (.ret, Sh.none)).2).T → Option R) : slices_Compare_LI_int_l0_again N ks (k + 1) x = roundF (slices_Compare_LI_int_G N) tab [] (loopAt slices_Compare_LI_int_code 0) slices_Compare_LI_int_l0_sh slices_Compare_LI_int_l0_ex (fun y => slices_Compare_LI_int_l0_again N ks k y) ks x := by kernel_rfl
theorem slices_Compare_LI_int_l0_ok (N : Nat) : LoopOk Try.prog Try.f177.ntmps (slices_Compare_LI_int_l0_s N) (loopAt slices_Compare_LI_int_code 0) :=
  loop_ok (l := slices_Compare_LI_int_l0_s N) progOk (slices_Compare_LI_int_gok N) (draw_ok progOk (slices_Compare_LI_int_gok N)) (fun R k x ks => slices_Compare_LI_int_l0_again N ks k x) (fun _ _ _ => rfl) (fun R k x ks => slices_Compare_LI_int_l0_step N R k x ks) (fun R x ks r h => ⟨N, h⟩) (lsOk_at (L := []) trivial) (by kernel_rfl) (by kernel_rfl)
noncomputable def slices_Compare_LI_int (N : Nat) (s1 : (List Int)) (s2 : (List Int)) : Option ((Int × Unit) × (Unit)) :=
  slices_Compare_LI_int_l0 N (fun x => some ((x, ()), ())) (fun s11 s21 => (br (ilt (tLen s11) (tLen s21))
    (some (((-1), ()), ()))
    (some ((0, ()), ())))) N s1 s2 s1 (tLen s1) 0
noncomputable def slices_Compare_LI_int_S (N : Nat) : FSum := ⟨slices_Compare_LI_int_ps, slices_Compare_LI_int_rs, fun x => slices_Compare_LI_int N x.1 x.2.1⟩
theorem slices_Compare_LI_int_run (N : Nat) (x : argsT slices_Compare_LI_int_ps) : slices_Compare_LI_int N x.1 x.2.1 = funF (slices_Compare_LI_int_G N) tab [slices_Compare_LI_int_l0_s N] Try.f177 slices_Compare_LI_int_ps slices_Compare_LI_int_rs x := by kernel_rfl
theorem slices_Compare_LI_int_pc (N : Nat) : PC Try.prog 177 (slices_Compare_LI_int_S N) := by
  have e : slices_Compare_LI_int_S N = ⟨slices_Compare_LI_int_ps, slices_Compare_LI_int_rs, funF (slices_Compare_LI_int_G N) tab [slices_Compare_LI_int_l0_s N] Try.f177 slices_Compare_LI_int_ps slices_Compare_LI_int_rs⟩ := congrArg (FSum.mk slices_Compare_LI_int_ps slices_Compare_LI_int_rs) (funext (slices_Compare_LI_int_run N))
  rw [e]
  exact fun_ok (c := slices_Compare_LI_int_code) progOk (slices_Compare_LI_int_gok N) (draw_ok progOk (slices_Compare_LI_int_gok N)) Try.call177 Try.func177 (by kernel_rfl) (lsOk_at (L := [slices_Compare_LI_int_l0_s N]) ⟨slices_Compare_LI_int_l0_ok N, trivial⟩) (by kernel_rfl) (by kernel_rfl) (by kernel_rfl) (by kernel_rfl) (by kernel_rfl)

/-! ### impl_spaceOf -/
abbrev impl_spaceOf_ps : List (PV.Mode × Ty) := [(.own, LLI), (.ro, GLILIBo)]
abbrev impl_spaceOf_rs : List (Bool × Ty) := [(true, QLLILQII)]
noncomputable def impl_spaceOf_G (N : Nat) : GTab := gOf [(176, slices_SortFunc_LLI_LI_S N), (177, slices_Compare_LI_int_S N)]
theorem impl_spaceOf_gok (N : Nat) : GOk Try.prog (impl_spaceOf_G N) := gOf_ok ⟨slices_SortFunc_LLI_LI_pc N, slices_Compare_LI_int_pc N, trivial⟩
noncomputable def impl_spaceOf_code : Code := (Try.f114.body).getD .skip
noncomputable def impl_spaceOf_l0_0_sh : Sh := ⟨[(1, .one (.ro GLILIBo)), (4, .one (.adr 0 0)), (5, .one (.adr 1 0)), (6, .one (.ro I)), (7, .one (.el 2)), (16, .one (.ref 2)), (17, .one (.ro I)), (18, .one (.ro I)), (27, .one (.sub 2 1)), (28, .one (.ro I)), (29, .one (.ro I))], [.box [.nilsl, .nilsl], .box [.ref 2, .ref 3], .sl 42 LI .deep, .sl 137 QII .own]⟩
noncomputable def impl_spaceOf_l0_0_ex : List (Ex × Sh) := [(.exit 2, ⟨[(1, .one (.ro GLILIBo)), (4, .one (.adr 0 0)), (5, .one (.adr 1 0)), (16, .one (.ref 2)), (17, .one (.ro I)), (18, .one (.ro I))], [.box [.nilsl, .nilsl], .box [.ref 2, .ref 3], .sl 42 LI .deep, .sl 137 QII .own]⟩)]
noncomputable def impl_spaceOf_l0_0 {R : Type} (N : Nat) (k0 : ((List Int) → (List Int) → Option Bool) → Int → Int → (List (List Int)) → (List (Int × Int)) → Option R) : Nat → ((List Int) → (List Int) → Option Bool) → Int → Int → Int → Int → Int → Int → Int → Int → (List (List Int)) → (List (Int × Int)) → Option R
  | 0, _, _, _, _, _, _, _, _, _, _, _ => none
  | K + 1, isStep2, i, a, x2, x3, x4, x5, x6, x7, o2, o3 =>
    (br (ilt x7 x6)
      ((chk (ile 0 x7 && ilt x7 (x5 - x4))
        ((isStep2 (rdL o2 a) (rdL o2 (x4 + x7))).bind fun v =>
        (br v
        ((chk (room o3 [(i, (IntKind.i64.wrap ((IntKind.i64.wrap (i + 1)) + x7)))])
          (impl_spaceOf_l0_0 N k0 K isStep2 i a x2 x3 x4 x5 x6 (IntKind.i64.wrap (x7 + 1)) o2 (tApp o3 [(i, (IntKind.i64.wrap ((IntKind.i64.wrap (i + 1)) + x7)))]))))
        (impl_spaceOf_l0_0 N k0 K isStep2 i a x2 x3 x4 x5 x6 (IntKind.i64.wrap (x7 + 1)) o2 o3)))))
      (k0 isStep2 x2 x3 o2 o3))
noncomputable def impl_spaceOf_l0_0_again {R : Type} (N : Nat) (ks : (j : Nat) → ((impl_spaceOf_l0_0_ex.getD j (.ret, Sh.none)).2).T → Option R) (k : Nat) (x : impl_spaceOf_l0_0_sh.T) : Option R :=
  impl_spaceOf_l0_0 N (fun y0 y1 y2 y3 y4 => ks 0 ((y0, (), (), (), y1, y2, ()), (((), (), ()), ((), (), ()), y3, y4, ()))) k x.1.1 x.1.2.2.2.1 x.1.2.2.2.2.1 x.1.2.2.2.2.2.2.1 x.1.2.2.2.2.2.2.2.1 x.1.2.2.2.2.2.2.2.2.1.1 x.1.2.2.2.2.2.2.2.2.1.2 x.1.2.2.2.2.2.2.2.2.2.1 x.1.2.2.2.2.2.2.2.2.2.2.1 x.2.2.2.1 x.2.2.2.2.1
noncomputable def impl_spaceOf_l0_0_s (N : Nat) : LSum := ⟨impl_spaceOf_l0_0_sh, impl_spaceOf_l0_0_ex, fun x ks => impl_spaceOf_l0_0_again N ks N x⟩
theorem impl_spaceOf_l0_0_step (N : Nat) (R : Type) (k : Nat) (x : impl_spaceOf_l0_0_sh.T) (ks : (j : Nat) → ((impl_spaceOf_l0_0_ex.getD j (.ret, Sh.none)).2).T → Option R) : impl_spaceOf_l0_0_again N ks (k + 1) x = roundF (impl_spaceOf_G N) tab [] (loopAt (loopAt impl_spaceOf_code 0) 0) impl_spaceOf_l0_0_sh impl_spaceOf_l0_0_ex (fun y => impl_spaceOf_l0_0_again N ks k y) ks x := by kernel_rfl
theorem impl_spaceOf_l0_0_ok (N : Nat) : LoopOk Try.prog Try.f114.ntmps (impl_spaceOf_l0_0_s N) (loopAt (loopAt impl_spaceOf_code 0) 0) :=
  loop_ok (l := impl_spaceOf_l0_0_s N) progOk (impl_spaceOf_gok N) (draw_ok progOk (impl_spaceOf_gok N)) (fun R k x ks => impl_spaceOf_l0_0_again N ks k x) (fun _ _ _ => rfl) (fun R k x ks => impl_spaceOf_l0_0_step N R k x ks) (fun R x ks r h => ⟨N, h⟩) (lsOk_at (L := []) trivial) (by kernel_rfl) (by kernel_rfl)
noncomputable def impl_spaceOf_l0_sh : Sh := ⟨[(1, .one (.ro GLILIBo)), (4, .one (.adr 0 0)), (5, .one (.adr 1 0)), (16, .one (.ref 2)), (17, .one (.ro I)), (18, .one (.ro I))], [.box [.nilsl, .nilsl], .box [.ref 2, .ref 3], .sl 42 LI .deep, .sl 137 QII .own]⟩
noncomputable def impl_spaceOf_l0_ex : List (Ex × Sh) := [(.exit 0, ⟨[(4, .one (.adr 0 0)), (5, .one (.adr 1 0))], [.box [.nilsl, .nilsl], .box [.ref 2, .ref 3], .sl 42 LI .deep, .sl 137 QII .own]⟩)]
noncomputable def impl_spaceOf_l0 {R : Type} (N : Nat) (k0 : (List (List Int)) → (List (Int × Int)) → Option R) : Nat → ((List Int) → (List Int) → Option Bool) → Int → Int → (List (List Int)) → (List (Int × Int)) → Option R
  | 0, _, _, _, _, _ => none
  | K + 1, isStep1, x, x1, o, o1 =>
    (br (ilt x1 x)
      ((chk (inb o x1)
        (chk (ile 0 (IntKind.i64.wrap (x1 + 1)) && ile (IntKind.i64.wrap (x1 + 1)) (tLen o) && ile (tLen o) (tLen o))
        (impl_spaceOf_l0_0 N (fun isStep2 x2 x3 o2 o3 => impl_spaceOf_l0 N k0 K isStep2 x2 (IntKind.i64.wrap (x3 + 1)) o2 o3) N isStep1 x1 x1 x x1 (IntKind.i64.wrap (x1 + 1)) (tLen o) ((tLen o) - (IntKind.i64.wrap (x1 + 1))) 0 o o1))))
      (k0 o o1))
noncomputable def impl_spaceOf_l0_again {R : Type} (N : Nat) (ks : (j : Nat) → ((impl_spaceOf_l0_ex.getD j (.ret, Sh.none)).2).T → Option R) (k : Nat) (x : impl_spaceOf_l0_sh.T) : Option R :=
  impl_spaceOf_l0 N (fun y0 y1 => ks 0 (((), (), ()), (((), (), ()), ((), (), ()), y0, y1, ()))) k x.1.1 x.1.2.2.2.2.1 x.1.2.2.2.2.2.1 x.2.2.2.1 x.2.2.2.2.1
noncomputable def impl_spaceOf_l0_s (N : Nat) : LSum := ⟨impl_spaceOf_l0_sh, impl_spaceOf_l0_ex, fun x ks => impl_spaceOf_l0_again N ks N x⟩
theorem impl_spaceOf_l0_step (N : Nat) (R : Type) (k : Nat) (x : impl_spaceOf_l0_sh.T) (ks : (j : Nat) → ((impl_spaceOf_l0_ex.getD j (.ret, Sh.none)).2).T → Option R) : impl_spaceOf_l0_again N ks (k + 1) x = roundF (impl_spaceOf_G N) tab [impl_spaceOf_l0_0_s N] (loopAt impl_spaceOf_code 0) impl_spaceOf_l0_sh impl_spaceOf_l0_ex (fun y => impl_spaceOf_l0_again N ks k y) ks x := by kernel_rfl
theorem impl_spaceOf_l0_ok (N : Nat) : LoopOk Try.prog Try.f114.ntmps (impl_spaceOf_l0_s N) (loopAt impl_spaceOf_code 0) :=
  loop_ok (l := impl_spaceOf_l0_s N) progOk (impl_spaceOf_gok N) (draw_ok progOk (impl_spaceOf_gok N)) (fun R k x ks => impl_spaceOf_l0_again N ks k x) (fun _ _ _ => rfl) (fun R k x ks => impl_spaceOf_l0_step N R k x ks) (fun R x ks r h => ⟨N, h⟩) (lsOk_at (L := [impl_spaceOf_l0_0_s N]) ⟨impl_spaceOf_l0_0_ok N, trivial⟩) (by kernel_rfl) (by kernel_rfl)
noncomputable def impl_spaceOf (N : Nat) (states : (List (List Int))) (isStep : ((List Int) → (List Int) → Option Bool)) : Option ((((List (List Int)) × (List (Int × Int))) × Unit) × (Unit)) :=
  ((slices_SortFunc_LLI_LI N states (fun y0 y1 => (slices_Compare_LI_int N y0 y1).bind fun z => some z.1.1)).bind fun r =>
    impl_spaceOf_l0 N (fun o o1 => some (((o, o1), ()), ())) N isStep (tLen states) 0 states [])
noncomputable def impl_spaceOf_S (N : Nat) : FSum := ⟨impl_spaceOf_ps, impl_spaceOf_rs, fun x => impl_spaceOf N x.1 x.2.1⟩
theorem impl_spaceOf_run (N : Nat) (x : argsT impl_spaceOf_ps) : impl_spaceOf N x.1 x.2.1 = funF (impl_spaceOf_G N) tab [impl_spaceOf_l0_s N] Try.f114 impl_spaceOf_ps impl_spaceOf_rs x := by kernel_rfl
theorem impl_spaceOf_pc (N : Nat) : PC Try.prog 114 (impl_spaceOf_S N) := by
  have e : impl_spaceOf_S N = ⟨impl_spaceOf_ps, impl_spaceOf_rs, funF (impl_spaceOf_G N) tab [impl_spaceOf_l0_s N] Try.f114 impl_spaceOf_ps impl_spaceOf_rs⟩ := congrArg (FSum.mk impl_spaceOf_ps impl_spaceOf_rs) (funext (impl_spaceOf_run N))
  rw [e]
  exact fun_ok (c := impl_spaceOf_code) progOk (impl_spaceOf_gok N) (draw_ok progOk (impl_spaceOf_gok N)) Try.call114 Try.func114 (by kernel_rfl) (lsOk_at (L := [impl_spaceOf_l0_s N]) ⟨impl_spaceOf_l0_ok N, trivial⟩) (by kernel_rfl) (by kernel_rfl) (by kernel_rfl) (by kernel_rfl) (by kernel_rfl)

/-! ### impl_places -/
abbrev impl_places_ps : List (PV.Mode × Ty) := [(.ro, LI), (.ro, LI)]
abbrev impl_places_rs : List (Bool × Ty) := [(true, LI)]
noncomputable def impl_places_G (N : Nat) : GTab := gOf []
theorem impl_places_gok (N : Nat) : GOk Try.prog (impl_places_G N) := gOf_ok trivial
noncomputable def impl_places_code : Code := (Try.f180.body).getD .skip
noncomputable def impl_places_l0_sh : Sh := ⟨[(1, .one (.ro LI)), (5, .one (.ref 0)), (9, .one (.ro LI)), (10, .one (.ro I)), (11, .one (.ro I))], [.sl 3 I .own]⟩
noncomputable def impl_places_l0_ex : List (Ex × Sh) := [(.exit 0, ⟨[(5, .one (.ref 0))], [.sl 3 I .own]⟩)]
noncomputable def impl_places_l0 {R : Type} (N : Nat) (k0 : (List Int) → Option R) : Nat → (List Int) → (List Int) → Int → Int → (List Int) → Option R
  | 0, _, _, _, _, _ => none
  | K + 1, b1, x, x1, x2, o =>
    (br (ilt x2 x1)
      ((chk (inb x x2)
        (chk (inb b1 x2)
        (br (ine (rdI b1 x2) (rdI x x2))
        ((chk (room o [x2])
          (impl_places_l0 N k0 K b1 x x1 (IntKind.i64.wrap (x2 + 1)) (tApp o [x2]))))
        (impl_places_l0 N k0 K b1 x x1 (IntKind.i64.wrap (x2 + 1)) o)))))
      (k0 o))
noncomputable def impl_places_l0_again {R : Type} (N : Nat) (ks : (j : Nat) → ((impl_places_l0_ex.getD j (.ret, Sh.none)).2).T → Option R) (k : Nat) (x : impl_places_l0_sh.T) : Option R :=
  impl_places_l0 N (fun y0 => ks 0 (((), ()), (y0, ()))) k x.1.1 x.1.2.2.1 x.1.2.2.2.1 x.1.2.2.2.2.1 x.2.1
noncomputable def impl_places_l0_s (N : Nat) : LSum := ⟨impl_places_l0_sh, impl_places_l0_ex, fun x ks => impl_places_l0_again N ks N x⟩
theorem impl_places_l0_step (N : Nat) (R : Type) (k : Nat) (x : impl_places_l0_sh.T) (ks : (j : Nat) → ((impl_places_l0_ex.getD j (.ret, Sh.none)).2).T → Option R) : impl_places_l0_again N ks (k + 1) x = roundF (impl_places_G N) tab [] (loopAt impl_places_code 0) impl_places_l0_sh impl_places_l0_ex (fun y => impl_places_l0_again N ks k y) ks x := by kernel_rfl
theorem impl_places_l0_ok (N : Nat) : LoopOk Try.prog Try.f180.ntmps (impl_places_l0_s N) (loopAt impl_places_code 0) :=
  loop_ok (l := impl_places_l0_s N) progOk (impl_places_gok N) (draw_ok progOk (impl_places_gok N)) (fun R k x ks => impl_places_l0_again N ks k x) (fun _ _ _ => rfl) (fun R k x ks => impl_places_l0_step N R k x ks) (fun R x ks r h => ⟨N, h⟩) (lsOk_at (L := []) trivial) (by kernel_rfl) (by kernel_rfl)
noncomputable def impl_places (N : Nat) (a : (List Int)) (b : (List Int)) : Option (((List Int) × Unit) × (Unit)) :=
  impl_places_l0 N (fun o => some ((o, ()), ())) N b a (tLen a) 0 []
noncomputable def impl_places_S (N : Nat) : FSum := ⟨impl_places_ps, impl_places_rs, fun x => impl_places N x.1 x.2.1⟩
theorem impl_places_run (N : Nat) (x : argsT impl_places_ps) : impl_places N x.1 x.2.1 = funF (impl_places_G N) tab [impl_places_l0_s N] Try.f180 impl_places_ps impl_places_rs x := by kernel_rfl
theorem impl_places_pc (N : Nat) : PC Try.prog 180 (impl_places_S N) := by
  have e : impl_places_S N = ⟨impl_places_ps, impl_places_rs, funF (impl_places_G N) tab [impl_places_l0_s N] Try.f180 impl_places_ps impl_places_rs⟩ := congrArg (FSum.mk impl_places_ps impl_places_rs) (funext (impl_places_run N))
  rw [e]
  exact fun_ok (c := impl_places_code) progOk (impl_places_gok N) (draw_ok progOk (impl_places_gok N)) Try.call180 Try.func180 (by kernel_rfl) (lsOk_at (L := [impl_places_l0_s N]) ⟨impl_places_l0_ok N, trivial⟩) (by kernel_rfl) (by kernel_rfl) (by kernel_rfl) (by kernel_rfl) (by kernel_rfl)

/-! ### impl_isChange -/
abbrev impl_isChange_ps : List (PV.Mode × Ty) := [(.ro, LI), (.ro, LI)]
abbrev impl_isChange_rs : List (Bool × Ty) := [(true, .bool)]
noncomputable def impl_isChange_G (N : Nat) : GTab := gOf [(180, impl_places_S N)]
theorem impl_isChange_gok (N : Nat) : GOk Try.prog (impl_isChange_G N) := gOf_ok ⟨impl_places_pc N, trivial⟩
noncomputable def impl_isChange_code : Code := (Try.f116.body).getD .skip
noncomputable def impl_isChange (N : Nat) (a : (List Int)) (b : (List Int)) : Option ((Bool × Unit) × (Unit)) :=
  ((impl_places N a b).bind fun r =>
    some (((ieq (tLen r.1.1) 1), ()), ()))
noncomputable def impl_isChange_S (N : Nat) : FSum := ⟨impl_isChange_ps, impl_isChange_rs, fun x => impl_isChange N x.1 x.2.1⟩
theorem impl_isChange_run (N : Nat) (x : argsT impl_isChange_ps) : impl_isChange N x.1 x.2.1 = funF (impl_isChange_G N) tab [] Try.f116 impl_isChange_ps impl_isChange_rs x := by kernel_rfl
theorem impl_isChange_pc (N : Nat) : PC Try.prog 116 (impl_isChange_S N) := by
  have e : impl_isChange_S N = ⟨impl_isChange_ps, impl_isChange_rs, funF (impl_isChange_G N) tab [] Try.f116 impl_isChange_ps impl_isChange_rs⟩ := congrArg (FSum.mk impl_isChange_ps impl_isChange_rs) (funext (impl_isChange_run N))
  rw [e]
  exact fun_ok (c := impl_isChange_code) progOk (impl_isChange_gok N) (draw_ok progOk (impl_isChange_gok N)) Try.call116 Try.func116 (by kernel_rfl) (lsOk_at (L := []) trivial) (by kernel_rfl) (by kernel_rfl) (by kernel_rfl) (by kernel_rfl) (by kernel_rfl)

/-! ### impl_ParitySpace -/
abbrev impl_ParitySpace_ps : List (PV.Mode × Ty) := [(.ro, QIQLLILI)]
abbrev impl_ParitySpace_rs : List (Bool × Ty) := [(true, QLLILQII), (true, .bool)]
noncomputable def impl_ParitySpace_G (N : Nat) : GTab := gOf [(113, impl_IsParity_S N), (115, impl_Parity_solutions_S N), (114, impl_spaceOf_S N), (116, impl_isChange_S N)]
theorem impl_ParitySpace_gok (N : Nat) : GOk Try.prog (impl_ParitySpace_G N) := gOf_ok ⟨impl_IsParity_pc N, impl_Parity_solutions_pc N, impl_spaceOf_pc N, impl_isChange_pc N, trivial⟩
noncomputable def impl_ParitySpace_code : Code := (Try.f52.body).getD .skip
noncomputable def impl_ParitySpace (N : Nat) (p : (Int × ((List (List Int)) × (List Int)))) : Option ((((List (List Int)) × (List (Int × Int))) × Bool × Unit) × (Unit)) :=
  ((impl_IsParity N (p.1, (p.2.1, p.2.2))).bind fun r =>
    (br (!r.1.1)
      (some ((([], []), false, ()), ()))
      (((impl_Parity_solutions N (p.1, (p.2.1, p.2.2))).bind fun r1 =>
        ((impl_spaceOf N r1.1.1 (fun y0 y1 => (impl_isChange N y0 y1).bind fun z => some z.1.1)).bind fun r2 =>
          some (((r2.1.1.1, r2.1.1.2), true, ()), ()))))))
noncomputable def impl_ParitySpace_S (N : Nat) : FSum := ⟨impl_ParitySpace_ps, impl_ParitySpace_rs, fun x => impl_ParitySpace N x.1⟩
theorem impl_ParitySpace_run (N : Nat) (x : argsT impl_ParitySpace_ps) : impl_ParitySpace N x.1 = funF (impl_ParitySpace_G N) tab [] Try.f52 impl_ParitySpace_ps impl_ParitySpace_rs x := by kernel_rfl
theorem impl_ParitySpace_pc (N : Nat) : PC Try.prog 52 (impl_ParitySpace_S N) := by
  have e : impl_ParitySpace_S N = ⟨impl_ParitySpace_ps, impl_ParitySpace_rs, funF (impl_ParitySpace_G N) tab [] Try.f52 impl_ParitySpace_ps impl_ParitySpace_rs⟩ := congrArg (FSum.mk impl_ParitySpace_ps impl_ParitySpace_rs) (funext (impl_ParitySpace_run N))
  rw [e]
  exact fun_ok (c := impl_ParitySpace_code) progOk (impl_ParitySpace_gok N) (draw_ok progOk (impl_ParitySpace_gok N)) Try.call52 Try.func52 (by kernel_rfl) (lsOk_at (L := []) trivial) (by kernel_rfl) (by kernel_rfl) (by kernel_rfl) (by kernel_rfl) (by kernel_rfl)

/-! ### laws_eqIntS -/
abbrev laws_eqIntS_ps : List (PV.Mode × Ty) := [(.ro, LI), (.ro, LI)]
abbrev laws_eqIntS_rs : List (Bool × Ty) := [(true, .bool)]
noncomputable def laws_eqIntS_G (N : Nat) : GTab := gOf []
theorem laws_eqIntS_gok (N : Nat) : GOk Try.prog (laws_eqIntS_G N) := gOf_ok trivial
noncomputable def laws_eqIntS_code : Code := (Try.f35.body).getD .skip
noncomputable def laws_eqIntS_l0_sh : Sh := ⟨[(0, .one (.ro LI)), (1, .one (.ro LI)), (5, .one (.ro I))], []⟩
noncomputable def laws_eqIntS_l0_ex : List (Ex × Sh) := [(.ret, ⟨[(4, .one (.ro .bool))], []⟩), (.exit 0, ⟨[], []⟩)]
noncomputable def laws_eqIntS_l0 {R : Type} (N : Nat) (k0 : Bool → Option R) (k1 : Unit → Option R) : Nat → (List Int) → (List Int) → Int → Option R
  | 0, _, _, _ => none
  | K + 1, a1, b1, i =>
    (br (ilt i (tLen a1))
      ((chk (inb a1 i)
        (chk (inb b1 i)
        (br (ine (rdI a1 i) (rdI b1 i))
        (k0 false)
        (laws_eqIntS_l0 N k0 k1 K a1 b1 (IntKind.i64.wrap (i + 1)))))))
      (k1 ()))
noncomputable def laws_eqIntS_l0_again {R : Type} (N : Nat) (ks : (j : Nat) → ((laws_eqIntS_l0_ex.getD j (.ret, Sh.none)).2).T → Option R) (k : Nat) (x : laws_eqIntS_l0_sh.T) : Option R :=
  laws_eqIntS_l0 N (fun y0 => ks 0 ((y0, ()), ())) (fun (_ : Unit) => ks 1 ((), ())) k x.1.1 x.1.2.1 x.1.2.2.1
noncomputable def laws_eqIntS_l0_s (N : Nat) : LSum := ⟨laws_eqIntS_l0_sh, laws_eqIntS_l0_ex, fun x ks => laws_eqIntS_l0_again N ks N x⟩
theorem laws_eqIntS_l0_step (N : Nat) (R : Type) (k : Nat) (x : laws_eqIntS_l0_sh.T) (ks : (j : Nat) → ((laws_eqIntS_l0_ex.getD j (.ret, Sh.none)).2).T → Option R) : laws_eqIntS_l0_again N ks (k + 1) x = roundF (laws_eqIntS_G N) tab [] (loopAt laws_eqIntS_code 0) laws_eqIntS_l0_sh laws_eqIntS_l0_ex (fun y => laws_eqIntS_l0_again N ks k y) ks x := by kernel_rfl
theorem laws_eqIntS_l0_ok (N : Nat) : LoopOk Try.prog Try.f35.ntmps (laws_eqIntS_l0_s N) (loopAt laws_eqIntS_code 0) :=
  loop_ok (l := laws_eqIntS_l0_s N) progOk (laws_eqIntS_gok N) (draw_ok progOk (laws_eqIntS_gok N)) (fun R k x ks => laws_eqIntS_l0_again N ks k x) (fun _ _ _ => rfl) (fun R k x ks => laws_eqIntS_l0_step N R k x ks) (fun R x ks r h => ⟨N, h⟩) (lsOk_at (L := []) trivial) (by kernel_rfl) (by kernel_rfl)
noncomputable def laws_eqIntS (N : Nat) (a : (List Int)) (b : (List Int)) : Option ((Bool × Unit) × (Unit)) :=
  (br (ine (tLen a) (tLen b))
    (some ((false, ()), ()))
    (laws_eqIntS_l0 N (fun x => some ((x, ()), ())) (fun (_ : Unit) => some ((true, ()), ())) N a b 0))
noncomputable def laws_eqIntS_S (N : Nat) : FSum := ⟨laws_eqIntS_ps, laws_eqIntS_rs, fun x => laws_eqIntS N x.1 x.2.1⟩
theorem laws_eqIntS_run (N : Nat) (x : argsT laws_eqIntS_ps) : laws_eqIntS N x.1 x.2.1 = funF (laws_eqIntS_G N) tab [laws_eqIntS_l0_s N] Try.f35 laws_eqIntS_ps laws_eqIntS_rs x := by kernel_rfl
theorem laws_eqIntS_pc (N : Nat) : PC Try.prog 35 (laws_eqIntS_S N) := by
  have e : laws_eqIntS_S N = ⟨laws_eqIntS_ps, laws_eqIntS_rs, funF (laws_eqIntS_G N) tab [laws_eqIntS_l0_s N] Try.f35 laws_eqIntS_ps laws_eqIntS_rs⟩ := congrArg (FSum.mk laws_eqIntS_ps laws_eqIntS_rs) (funext (laws_eqIntS_run N))
  rw [e]
  exact fun_ok (c := laws_eqIntS_code) progOk (laws_eqIntS_gok N) (draw_ok progOk (laws_eqIntS_gok N)) Try.call35 Try.func35 (by kernel_rfl) (lsOk_at (L := [laws_eqIntS_l0_s N]) ⟨laws_eqIntS_l0_ok N, trivial⟩) (by kernel_rfl) (by kernel_rfl) (by kernel_rfl) (by kernel_rfl) (by kernel_rfl)

/-! ### laws_eqIntSS -/
abbrev laws_eqIntSS_ps : List (PV.Mode × Ty) := [(.ro, LLI), (.ro, LLI)]
abbrev laws_eqIntSS_rs : List (Bool × Ty) := [(true, .bool)]
noncomputable def laws_eqIntSS_G (N : Nat) : GTab := gOf [(35, laws_eqIntS_S N)]
theorem laws_eqIntSS_gok (N : Nat) : GOk Try.prog (laws_eqIntSS_G N) := gOf_ok ⟨laws_eqIntS_pc N, trivial⟩
noncomputable def laws_eqIntSS_code : Code := (Try.f19.body).getD .skip
noncomputable def laws_eqIntSS_l0_sh : Sh := ⟨[(0, .one (.ro LLI)), (1, .one (.ro LLI)), (5, .one (.ro I))], []⟩
noncomputable def laws_eqIntSS_l0_ex : List (Ex × Sh) := [(.ret, ⟨[(4, .one (.ro .bool))], []⟩), (.exit 0, ⟨[], []⟩)]
noncomputable def laws_eqIntSS_l0 {R : Type} (N : Nat) (k0 : Bool → Option R) (k1 : Unit → Option R) : Nat → (List (List Int)) → (List (List Int)) → Int → Option R
  | 0, _, _, _ => none
  | K + 1, a1, b1, i =>
    (br (ilt i (tLen a1))
      ((chk (inb a1 i)
        (chk (inb b1 i)
        ((laws_eqIntS N (rdL a1 i) (rdL b1 i)).bind fun r =>
        (br (!r.1.1)
          (k0 false)
          (laws_eqIntSS_l0 N k0 k1 K a1 b1 (IntKind.i64.wrap (i + 1))))))))
      (k1 ()))
noncomputable def laws_eqIntSS_l0_again {R : Type} (N : Nat) (ks : (j : Nat) → ((laws_eqIntSS_l0_ex.getD j (.ret, Sh.none)).2).T → Option R) (k : Nat) (x : laws_eqIntSS_l0_sh.T) : Option R :=
  laws_eqIntSS_l0 N (fun y0 => ks 0 ((y0, ()), ())) (fun (_ : Unit) => ks 1 ((), ())) k x.1.1 x.1.2.1 x.1.2.2.1
noncomputable def laws_eqIntSS_l0_s (N : Nat) : LSum := ⟨laws_eqIntSS_l0_sh, laws_eqIntSS_l0_ex, fun x ks => laws_eqIntSS_l0_again N ks N x⟩
theorem laws_eqIntSS_l0_step (N : Nat) (R : Type) (k : Nat) (x : laws_eqIntSS_l0_sh.T) (ks : (j : Nat) → ((laws_eqIntSS_l0_ex.getD j (.ret, Sh.none)).2).T → Option R) : laws_eqIntSS_l0_again N ks (k + 1) x = roundF (laws_eqIntSS_G N) tab [] (loopAt laws_eqIntSS_code 0) laws_eqIntSS_l0_sh laws_eqIntSS_l0_ex (fun y => laws_eqIntSS_l0_again N ks k y) ks x := by kernel_rfl
theorem laws_eqIntSS_l0_ok (N : Nat) : LoopOk Try.prog Try.f19.ntmps (laws_eqIntSS_l0_s N) (loopAt laws_eqIntSS_code 0) :=
  loop_ok (l := laws_eqIntSS_l0_s N) progOk (laws_eqIntSS_gok N) (draw_ok progOk (laws_eqIntSS_gok N)) (fun R k x ks => laws_eqIntSS_l0_again N ks k x) (fun _ _ _ => rfl) (fun R k x ks => laws_eqIntSS_l0_step N R k x ks) (fun R x ks r h => ⟨N, h⟩) (lsOk_at (L := []) trivial) (by kernel_rfl) (by kernel_rfl)
noncomputable def laws_eqIntSS (N : Nat) (a : (List (List Int))) (b : (List (List Int))) : Option ((Bool × Unit) × (Unit)) :=
  (br (ine (tLen a) (tLen b))
    (some ((false, ()), ()))
    (laws_eqIntSS_l0 N (fun x => some ((x, ()), ())) (fun (_ : Unit) => some ((true, ()), ())) N a b 0))
noncomputable def laws_eqIntSS_S (N : Nat) : FSum := ⟨laws_eqIntSS_ps, laws_eqIntSS_rs, fun x => laws_eqIntSS N x.1 x.2.1⟩
theorem laws_eqIntSS_run (N : Nat) (x : argsT laws_eqIntSS_ps) : laws_eqIntSS N x.1 x.2.1 = funF (laws_eqIntSS_G N) tab [laws_eqIntSS_l0_s N] Try.f19 laws_eqIntSS_ps laws_eqIntSS_rs x := by kernel_rfl
theorem laws_eqIntSS_pc (N : Nat) : PC Try.prog 19 (laws_eqIntSS_S N) := by
  have e : laws_eqIntSS_S N = ⟨laws_eqIntSS_ps, laws_eqIntSS_rs, funF (laws_eqIntSS_G N) tab [laws_eqIntSS_l0_s N] Try.f19 laws_eqIntSS_ps laws_eqIntSS_rs⟩ := congrArg (FSum.mk laws_eqIntSS_ps laws_eqIntSS_rs) (funext (laws_eqIntSS_run N))
  rw [e]
  exact fun_ok (c := laws_eqIntSS_code) progOk (laws_eqIntSS_gok N) (draw_ok progOk (laws_eqIntSS_gok N)) Try.call19 Try.func19 (by kernel_rfl) (lsOk_at (L := [laws_eqIntSS_l0_s N]) ⟨laws_eqIntSS_l0_ok N, trivial⟩) (by kernel_rfl) (by kernel_rfl) (by kernel_rfl) (by kernel_rfl) (by kernel_rfl)

/-! ### laws_eqIntA2 -/
abbrev laws_eqIntA2_ps : List (PV.Mode × Ty) := [(.ro, QII), (.ro, QII)]
abbrev laws_eqIntA2_rs : List (Bool × Ty) := [(true, .bool)]
noncomputable def laws_eqIntA2_G (N : Nat) : GTab := gOf []
theorem laws_eqIntA2_gok (N : Nat) : GOk Try.prog (laws_eqIntA2_G N) := gOf_ok trivial
noncomputable def laws_eqIntA2_code : Code := (Try.f144.body).getD .skip
noncomputable def laws_eqIntA2_l0_sh : Sh := ⟨[(2, .one (.adr 0 0)), (3, .one (.adr 1 0)), (5, .one (.num .i64 0))], [.box [.ro I, .ro I], .box [.ro I, .ro I]]⟩
noncomputable def laws_eqIntA2_l0_ex : List (Ex × Sh) := [(.ret, ⟨[(4, .one (.ro .bool))], []⟩), (.exit 0, ⟨[], []⟩)]
noncomputable def laws_eqIntA2_l0 {R : Type} (N : Nat) (k0 : Bool → Option R) (k1 : Unit → Option R) (_ : Nat) (o4 : Int) (o5 : Int) (o6 : Int) (o7 : Int) : Option R :=
  (br (ine o4 o6)
    (k0 false)
    ((br (ine o5 o7)
      (k0 false)
      (k1 ()))))
noncomputable def laws_eqIntA2_l0_again {R : Type} (N : Nat) (ks : (j : Nat) → ((laws_eqIntA2_l0_ex.getD j (.ret, Sh.none)).2).T → Option R) (x : laws_eqIntA2_l0_sh.T) : Option R :=
  laws_eqIntA2_l0 N (fun y0 => ks 0 ((y0, ()), ())) (fun (_ : Unit) => ks 1 ((), ())) N x.2.1.1 x.2.1.2.1 x.2.2.1.1 x.2.2.1.2.1
noncomputable def laws_eqIntA2_l0_s (N : Nat) : LSum := ⟨laws_eqIntA2_l0_sh, laws_eqIntA2_l0_ex, fun x ks => laws_eqIntA2_l0_again N ks x⟩
theorem laws_eqIntA2_l0_unr (N : Nat) (R : Type) (x : laws_eqIntA2_l0_sh.T) (ks : (j : Nat) → ((laws_eqIntA2_l0_ex.getD j (.ret, Sh.none)).2).T → Option R) : laws_eqIntA2_l0_again N ks x = unrF (laws_eqIntA2_G N) tab (loopAt laws_eqIntA2_code 0) laws_eqIntA2_l0_ex ks 3 (fill laws_eqIntA2_l0_sh x) := by kernel_rfl
theorem laws_eqIntA2_l0_ok (N : Nat) : LoopOk Try.prog Try.f144.ntmps (laws_eqIntA2_l0_s N) (loopAt laws_eqIntA2_code 0) :=
  unroll_ok (l := laws_eqIntA2_l0_s N) progOk (laws_eqIntA2_gok N) (draw_ok progOk (laws_eqIntA2_gok N)) (fun R x ks r h => ⟨3, (laws_eqIntA2_l0_unr N R x ks).symm.trans h⟩) (by kernel_rfl) (by kernel_rfl)
noncomputable def laws_eqIntA2 (N : Nat) (a : (Int × Int)) (b : (Int × Int)) : Option ((Bool × Unit) × (Unit)) :=
  laws_eqIntA2_l0 N (fun x => some ((x, ()), ())) (fun (_ : Unit) => some ((true, ()), ())) N a.1 a.2 b.1 b.2
noncomputable def laws_eqIntA2_S (N : Nat) : FSum := ⟨laws_eqIntA2_ps, laws_eqIntA2_rs, fun x => laws_eqIntA2 N x.1 x.2.1⟩
theorem laws_eqIntA2_run (N : Nat) (x : argsT laws_eqIntA2_ps) : laws_eqIntA2 N x.1 x.2.1 = funF (laws_eqIntA2_G N) tab [laws_eqIntA2_l0_s N] Try.f144 laws_eqIntA2_ps laws_eqIntA2_rs x := by kernel_rfl
theorem laws_eqIntA2_pc (N : Nat) : PC Try.prog 144 (laws_eqIntA2_S N) := by
  have e : laws_eqIntA2_S N = ⟨laws_eqIntA2_ps, laws_eqIntA2_rs, funF (laws_eqIntA2_G N) tab [laws_eqIntA2_l0_s N] Try.f144 laws_eqIntA2_ps laws_eqIntA2_rs⟩ := congrArg (FSum.mk laws_eqIntA2_ps laws_eqIntA2_rs) (funext (laws_eqIntA2_run N))
  rw [e]
  exact fun_ok (c := laws_eqIntA2_code) progOk (laws_eqIntA2_gok N) (draw_ok progOk (laws_eqIntA2_gok N)) Try.call144 Try.func144 (by kernel_rfl) (lsOk_at (L := [laws_eqIntA2_l0_s N]) ⟨laws_eqIntA2_l0_ok N, trivial⟩) (by kernel_rfl) (by kernel_rfl) (by kernel_rfl) (by kernel_rfl) (by kernel_rfl)

/-! ### laws_eqIntA2S -/
abbrev laws_eqIntA2S_ps : List (PV.Mode × Ty) := [(.ro, LQII), (.ro, LQII)]
abbrev laws_eqIntA2S_rs : List (Bool × Ty) := [(true, .bool)]
noncomputable def laws_eqIntA2S_G (N : Nat) : GTab := gOf [(144, laws_eqIntA2_S N)]
theorem laws_eqIntA2S_gok (N : Nat) : GOk Try.prog (laws_eqIntA2S_G N) := gOf_ok ⟨laws_eqIntA2_pc N, trivial⟩
noncomputable def laws_eqIntA2S_code : Code := (Try.f76.body).getD .skip
noncomputable def laws_eqIntA2S_l0_sh : Sh := ⟨[(0, .one (.ro LQII)), (1, .one (.ro LQII)), (5, .one (.ro I))], []⟩
noncomputable def laws_eqIntA2S_l0_ex : List (Ex × Sh) := [(.ret, ⟨[(4, .one (.ro .bool))], []⟩), (.exit 0, ⟨[], []⟩)]
noncomputable def laws_eqIntA2S_l0 {R : Type} (N : Nat) (k0 : Bool → Option R) (k1 : Unit → Option R) : Nat → (List (Int × Int)) → (List (Int × Int)) → Int → Option R
  | 0, _, _, _ => none
  | K + 1, a1, b1, i =>
    (br (ilt i (tLen a1))
      ((chk (inb a1 i)
        (chk (inb b1 i)
        ((laws_eqIntA2 N (rdP a1 i) (rdP b1 i)).bind fun r =>
        (br (!r.1.1)
          (k0 false)
          (laws_eqIntA2S_l0 N k0 k1 K a1 b1 (IntKind.i64.wrap (i + 1))))))))
      (k1 ()))
noncomputable def laws_eqIntA2S_l0_again {R : Type} (N : Nat) (ks : (j : Nat) → ((laws_eqIntA2S_l0_ex.getD j (.ret, Sh.none)).2).T → Option R) (k : Nat) (x : laws_eqIntA2S_l0_sh.T) : Option R :=
  laws_eqIntA2S_l0 N (fun y0 => ks 0 ((y0, ()), ())) (fun (_ : Unit) => ks 1 ((), ())) k x.1.1 x.1.2.1 x.1.2.2.1
noncomputable def laws_eqIntA2S_l0_s (N : Nat) : LSum := ⟨laws_eqIntA2S_l0_sh, laws_eqIntA2S_l0_ex, fun x ks => laws_eqIntA2S_l0_again N ks N x⟩
theorem laws_eqIntA2S_l0_step (N : Nat) (R : Type) (k : Nat) (x : laws_eqIntA2S_l0_sh.T) (ks : (j : Nat) → ((laws_eqIntA2S_l0_ex.getD j (.ret, Sh.none)).2).T → Option R) : laws_eqIntA2S_l0_again N ks (k + 1) x = roundF (laws_eqIntA2S_G N) tab [] (loopAt laws_eqIntA2S_code 0) laws_eqIntA2S_l0_sh laws_eqIntA2S_l0_ex (fun y => laws_eqIntA2S_l0_again N ks k y) ks x := by kernel_rfl
theorem laws_eqIntA2S_l0_ok (N : Nat) : LoopOk Try.prog Try.f76.ntmps (laws_eqIntA2S_l0_s N) (loopAt laws_eqIntA2S_code 0) :=
  loop_ok (l := laws_eqIntA2S_l0_s N) progOk (laws_eqIntA2S_gok N) (draw_ok progOk (laws_eqIntA2S_gok N)) (fun R k x ks => laws_eqIntA2S_l0_again N ks k x) (fun _ _ _ => rfl) (fun R k x ks => laws_eqIntA2S_l0_step N R k x ks) (fun R x ks r h => ⟨N, h⟩) (lsOk_at (L := []) trivial) (by kernel_rfl) (by kernel_rfl)
noncomputable def laws_eqIntA2S (N : Nat) (a : (List (Int × Int))) (b : (List (Int × Int))) : Option ((Bool × Unit) × (Unit)) :=
  (br (ine (tLen a) (tLen b))
    (some ((false, ()), ()))
    (laws_eqIntA2S_l0 N (fun x => some ((x, ()), ())) (fun (_ : Unit) => some ((true, ()), ())) N a b 0))
noncomputable def laws_eqIntA2S_S (N : Nat) : FSum := ⟨laws_eqIntA2S_ps, laws_eqIntA2S_rs, fun x => laws_eqIntA2S N x.1 x.2.1⟩
theorem laws_eqIntA2S_run (N : Nat) (x : argsT laws_eqIntA2S_ps) : laws_eqIntA2S N x.1 x.2.1 = funF (laws_eqIntA2S_G N) tab [laws_eqIntA2S_l0_s N] Try.f76 laws_eqIntA2S_ps laws_eqIntA2S_rs x := by kernel_rfl
theorem laws_eqIntA2S_pc (N : Nat) : PC Try.prog 76 (laws_eqIntA2S_S N) := by
  have e : laws_eqIntA2S_S N = ⟨laws_eqIntA2S_ps, laws_eqIntA2S_rs, funF (laws_eqIntA2S_G N) tab [laws_eqIntA2S_l0_s N] Try.f76 laws_eqIntA2S_ps laws_eqIntA2S_rs⟩ := congrArg (FSum.mk laws_eqIntA2S_ps laws_eqIntA2S_rs) (funext (laws_eqIntA2S_run N))
  rw [e]
  exact fun_ok (c := laws_eqIntA2S_code) progOk (laws_eqIntA2S_gok N) (draw_ok progOk (laws_eqIntA2S_gok N)) Try.call76 Try.func76 (by kernel_rfl) (lsOk_at (L := [laws_eqIntA2S_l0_s N]) ⟨laws_eqIntA2S_l0_ok N, trivial⟩) (by kernel_rfl) (by kernel_rfl) (by kernel_rfl) (by kernel_rfl) (by kernel_rfl)

/-! ### laws_eqSpace -/
abbrev laws_eqSpace_ps : List (PV.Mode × Ty) := [(.ro, QLLILQII), (.ro, QLLILQII)]
abbrev laws_eqSpace_rs : List (Bool × Ty) := [(true, .bool)]
noncomputable def laws_eqSpace_G (N : Nat) : GTab := gOf [(19, laws_eqIntSS_S N), (76, laws_eqIntA2S_S N)]
theorem laws_eqSpace_gok (N : Nat) : GOk Try.prog (laws_eqSpace_G N) := gOf_ok ⟨laws_eqIntSS_pc N, laws_eqIntA2S_pc N, trivial⟩
noncomputable def laws_eqSpace_code : Code := (Try.f44.body).getD .skip
noncomputable def laws_eqSpace (N : Nat) (a : ((List (List Int)) × (List (Int × Int)))) (b : ((List (List Int)) × (List (Int × Int)))) : Option ((Bool × Unit) × (Unit)) :=
  ((laws_eqIntSS N a.1 b.1).bind fun r =>
    (br (!r.1.1)
      (some ((false, ()), ()))
      (((laws_eqIntA2S N a.2 b.2).bind fun r1 =>
        (br (!r1.1.1)
          (some ((false, ()), ()))
          (some ((true, ()), ())))))))
noncomputable def laws_eqSpace_S (N : Nat) : FSum := ⟨laws_eqSpace_ps, laws_eqSpace_rs, fun x => laws_eqSpace N x.1 x.2.1⟩
theorem laws_eqSpace_run (N : Nat) (x : argsT laws_eqSpace_ps) : laws_eqSpace N x.1 x.2.1 = funF (laws_eqSpace_G N) tab [] Try.f44 laws_eqSpace_ps laws_eqSpace_rs x := by kernel_rfl
theorem laws_eqSpace_pc (N : Nat) : PC Try.prog 44 (laws_eqSpace_S N) := by
  have e : laws_eqSpace_S N = ⟨laws_eqSpace_ps, laws_eqSpace_rs, funF (laws_eqSpace_G N) tab [] Try.f44 laws_eqSpace_ps laws_eqSpace_rs⟩ := congrArg (FSum.mk laws_eqSpace_ps laws_eqSpace_rs) (funext (laws_eqSpace_run N))
  rw [e]
  exact fun_ok (c := laws_eqSpace_code) progOk (laws_eqSpace_gok N) (draw_ok progOk (laws_eqSpace_gok N)) Try.call44 Try.func44 (by kernel_rfl) (lsOk_at (L := []) trivial) (by kernel_rfl) (by kernel_rfl) (by kernel_rfl) (by kernel_rfl) (by kernel_rfl)
end Go.Proofs.Ytfbkjgeaoafejaa
