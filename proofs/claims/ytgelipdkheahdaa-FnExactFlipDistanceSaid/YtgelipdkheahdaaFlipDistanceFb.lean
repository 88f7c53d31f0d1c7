/- Functions of the program as functions on data. -/
import Derived.Test.YtgelipdkheahdaaFlipDistanceFa
set_option linter.all false
namespace Go.Proofs.Ytgelipdkheahdaa
open Go Go.PV
/-! ### spec_FlipDistance -/
abbrev spec_FlipDistance_ps : List (PV.Mode × Ty) := [(.ro, QILLI), (.ro, LI), (.ro, LI)]
abbrev spec_FlipDistance_rs : List (Bool × Ty) := [(true, I), (true, .bool)]
noncomputable def spec_FlipDistance_G (N : Nat) : GTab := gOf [(63, spec_l6Two_S N), (64, spec_l6Way_S N)]
theorem spec_FlipDistance_gok (N : Nat) : GOk Try.prog (spec_FlipDistance_G N) := gOf_ok ⟨spec_l6Two_pc N, spec_l6Way_pc N, trivial⟩
noncomputable def spec_FlipDistance_code : Code := (Try.f27.body).getD .skip
noncomputable def spec_FlipDistance (N : Nat) (f : (Int × (List (List Int)))) (a : (List Int)) (b : (List Int)) : Option ((Int × Bool × Unit) × (Unit)) :=
  ((spec_l6Two N (f.1, f.2) a b).bind fun r =>
    (br (!r.1.1)
      (some ((0, false, ()), ()))
      (((spec_l6Way N (f.1, f.2) a b).bind fun r1 =>
        (br (ieq (tLen r1.1.1) 0)
          (some ((0, false, ()), ()))
          (some (((IntKind.i64.wrap ((tLen r1.1.1) - 1)), true, ()), ())))))))
noncomputable def spec_FlipDistance_S (N : Nat) : FSum := ⟨spec_FlipDistance_ps, spec_FlipDistance_rs, fun x => spec_FlipDistance N x.1 x.2.1 x.2.2.1⟩
theorem spec_FlipDistance_run (N : Nat) (x : argsT spec_FlipDistance_ps) : spec_FlipDistance N x.1 x.2.1 x.2.2.1 = funF (spec_FlipDistance_G N) tab [] Try.f27 spec_FlipDistance_ps spec_FlipDistance_rs x := by kernel_rfl
theorem spec_FlipDistance_pc (N : Nat) : PC Try.prog 27 (spec_FlipDistance_S N) := by
  have e : spec_FlipDistance_S N = ⟨spec_FlipDistance_ps, spec_FlipDistance_rs, funF (spec_FlipDistance_G N) tab [] Try.f27 spec_FlipDistance_ps spec_FlipDistance_rs⟩ := congrArg (FSum.mk spec_FlipDistance_ps spec_FlipDistance_rs) (funext (spec_FlipDistance_run N))
  rw [e]
  exact fun_ok (c := spec_FlipDistance_code) progOk (spec_FlipDistance_gok N) (draw_ok progOk (spec_FlipDistance_gok N)) Try.call27 Try.func27 (by kernel_rfl) (lsOk_at (L := []) trivial) (by kernel_rfl) (by kernel_rfl) (by kernel_rfl) (by kernel_rfl) (by kernel_rfl)

/-! ### impl_between -/
abbrev impl_between_ps : List (PV.Mode × Ty) := [(.ro, I), (.ro, I), (.ro, I)]
abbrev impl_between_rs : List (Bool × Ty) := [(true, .bool)]
noncomputable def impl_between_G (N : Nat) : GTab := gOf []
theorem impl_between_gok (N : Nat) : GOk Try.prog (impl_between_G N) := gOf_ok trivial
noncomputable def impl_between_code : Code := (Try.f69.body).getD .skip
noncomputable def impl_between (N : Nat) (n : Int) (low : Int) (high : Int) : Option ((Bool × Unit) × (Unit)) :=
  (br (ile low n)
    (some (((ile n high), ()), ()))
    (some ((false, ()), ())))
noncomputable def impl_between_S (N : Nat) : FSum := ⟨impl_between_ps, impl_between_rs, fun x => impl_between N x.1 x.2.1 x.2.2.1⟩
theorem impl_between_run (N : Nat) (x : argsT impl_between_ps) : impl_between N x.1 x.2.1 x.2.2.1 = funF (impl_between_G N) tab [] Try.f69 impl_between_ps impl_between_rs x := by kernel_rfl
theorem impl_between_pc (N : Nat) : PC Try.prog 69 (impl_between_S N) := by
  have e : impl_between_S N = ⟨impl_between_ps, impl_between_rs, funF (impl_between_G N) tab [] Try.f69 impl_between_ps impl_between_rs⟩ := congrArg (FSum.mk impl_between_ps impl_between_rs) (funext (impl_between_run N))
  rw [e]
  exact fun_ok (c := impl_between_code) progOk (impl_between_gok N) (draw_ok progOk (impl_between_gok N)) Try.call69 Try.func69 (by kernel_rfl) (lsOk_at (L := []) trivial) (by kernel_rfl) (by kernel_rfl) (by kernel_rfl) (by kernel_rfl) (by kernel_rfl)

/-! ### impl_IsFormula -/
abbrev impl_IsFormula_ps : List (PV.Mode × Ty) := [(.ro, QILLI)]
abbrev impl_IsFormula_rs : List (Bool × Ty) := [(true, .bool)]
noncomputable def impl_IsFormula_G (N : Nat) : GTab := gOf [(69, impl_between_S N)]
theorem impl_IsFormula_gok (N : Nat) : GOk Try.prog (impl_IsFormula_G N) := gOf_ok ⟨impl_between_pc N, trivial⟩
noncomputable def impl_IsFormula_code : Code := (Try.f182.body).getD .skip
noncomputable def impl_IsFormula_l0_0_sh : Sh := ⟨[(1, .one (.adr 0 0)), (4, .one (.ro LI)), (18, .one (.ro LLI)), (19, .one (.ro I)), (20, .one (.ro I)), (24, .one (.ro LI)), (25, .one (.ro I)), (26, .one (.ro I))], [.box [.ro I, .ro LLI]]⟩
noncomputable def impl_IsFormula_l0_0_ex : List (Ex × Sh) := [(.ret, ⟨[(2, .one (.ro .bool))], []⟩), (.exit 2, ⟨[(1, .one (.adr 0 0)), (18, .one (.ro LLI)), (19, .one (.ro I)), (20, .one (.ro I))], [.box [.ro I, .ro LLI]]⟩)]
noncomputable def impl_IsFormula_l0_0 {R : Type} (N : Nat) (k0 : Bool → Option R) (k1 : (List (List Int)) → Int → Int → Int → (List (List Int)) → Option R) : Nat → (List Int) → (List (List Int)) → Int → Int → (List Int) → Int → Int → Int → (List (List Int)) → Option R
  | 0, _, _, _, _, _, _, _, _, _ => none
  | K + 1, clause, x3, x4, x5, x6, x7, x8, o2, o3 =>
    (br (ilt x8 x7)
      ((chk (inb x6 x8)
        (br (ieq (rdI x6 x8) 0)
        (k0 false)
        (((impl_between N (rdI x6 x8) (IntKind.i64.wrap (0 - o2)) o2).bind fun r1 =>
          (br (!r1.1.1)
            (k0 false)
            ((br (ilt 0 x8)
              ((chk (inb clause (IntKind.i64.wrap (x8 - 1)))
                (br (ile (rdI x6 x8) (rdI clause (IntKind.i64.wrap (x8 - 1))))
                (k0 false)
                (impl_IsFormula_l0_0 N k0 k1 K clause x3 x4 x5 x6 x7 (IntKind.i64.wrap (x8 + 1)) o2 o3))))
              (impl_IsFormula_l0_0 N k0 k1 K clause x3 x4 x5 x6 x7 (IntKind.i64.wrap (x8 + 1)) o2 o3)))))))))
      (k1 x3 x4 x5 o2 o3))
noncomputable def impl_IsFormula_l0_0_again {R : Type} (N : Nat) (ks : (j : Nat) → ((impl_IsFormula_l0_0_ex.getD j (.ret, Sh.none)).2).T → Option R) (k : Nat) (x : impl_IsFormula_l0_0_sh.T) : Option R :=
  impl_IsFormula_l0_0 N (fun y0 => ks 0 ((y0, ()), ())) (fun y0 y1 y2 y3 y4 => ks 1 (((), y0, y1, y2, ()), ((y3, y4, ()), ()))) k x.1.2.1 x.1.2.2.1 x.1.2.2.2.1 x.1.2.2.2.2.1 x.1.2.2.2.2.2.1 x.1.2.2.2.2.2.2.1 x.1.2.2.2.2.2.2.2.1 x.2.1.1 x.2.1.2.1
noncomputable def impl_IsFormula_l0_0_s (N : Nat) : LSum := ⟨impl_IsFormula_l0_0_sh, impl_IsFormula_l0_0_ex, fun x ks => impl_IsFormula_l0_0_again N ks N x⟩
theorem impl_IsFormula_l0_0_step (N : Nat) (R : Type) (k : Nat) (x : impl_IsFormula_l0_0_sh.T) (ks : (j : Nat) → ((impl_IsFormula_l0_0_ex.getD j (.ret, Sh.none)).2).T → Option R) : impl_IsFormula_l0_0_again N ks (k + 1) x = roundF (impl_IsFormula_G N) tab [] (loopAt (loopAt impl_IsFormula_code 0) 0) impl_IsFormula_l0_0_sh impl_IsFormula_l0_0_ex (fun y => impl_IsFormula_l0_0_again N ks k y) ks x := by kernel_rfl
theorem impl_IsFormula_l0_0_ok (N : Nat) : LoopOk Try.prog Try.f182.ntmps (impl_IsFormula_l0_0_s N) (loopAt (loopAt impl_IsFormula_code 0) 0) :=
  loop_ok (l := impl_IsFormula_l0_0_s N) progOk (impl_IsFormula_gok N) (draw_ok progOk (impl_IsFormula_gok N)) (fun R k x ks => impl_IsFormula_l0_0_again N ks k x) (fun _ _ _ => rfl) (fun R k x ks => impl_IsFormula_l0_0_step N R k x ks) (fun R x ks r h => ⟨N, h⟩) (lsOk_at (L := []) trivial) (by kernel_rfl) (by kernel_rfl)
noncomputable def impl_IsFormula_l0_sh : Sh := ⟨[(1, .one (.adr 0 0)), (18, .one (.ro LLI)), (19, .one (.ro I)), (20, .one (.ro I))], [.box [.ro I, .ro LLI]]⟩
noncomputable def impl_IsFormula_l0_ex : List (Ex × Sh) := [(.ret, ⟨[(2, .one (.ro .bool))], []⟩), (.exit 0, ⟨[], []⟩)]
noncomputable def impl_IsFormula_l0 {R : Type} (N : Nat) (k0 : Bool → Option R) (k1 : Unit → Option R) : Nat → (List (List Int)) → Int → Int → Int → (List (List Int)) → Option R
  | 0, _, _, _, _, _ => none
  | K + 1, x, x1, x2, o, o1 =>
    (br (ilt x2 x1)
      ((chk (inb x x2)
        (impl_IsFormula_l0_0 N (fun x3 => k0 x3) (fun x4 x5 x6 o2 o3 => impl_IsFormula_l0 N k0 k1 K x4 x5 (IntKind.i64.wrap (x6 + 1)) o2 o3) N (rdL x x2) x x1 x2 (rdL x x2) (tLen (rdL x x2)) 0 o o1)))
      (k1 ()))
noncomputable def impl_IsFormula_l0_again {R : Type} (N : Nat) (ks : (j : Nat) → ((impl_IsFormula_l0_ex.getD j (.ret, Sh.none)).2).T → Option R) (k : Nat) (x : impl_IsFormula_l0_sh.T) : Option R :=
  impl_IsFormula_l0 N (fun y0 => ks 0 ((y0, ()), ())) (fun (_ : Unit) => ks 1 ((), ())) k x.1.2.1 x.1.2.2.1 x.1.2.2.2.1 x.2.1.1 x.2.1.2.1
noncomputable def impl_IsFormula_l0_s (N : Nat) : LSum := ⟨impl_IsFormula_l0_sh, impl_IsFormula_l0_ex, fun x ks => impl_IsFormula_l0_again N ks N x⟩
theorem impl_IsFormula_l0_step (N : Nat) (R : Type) (k : Nat) (x : impl_IsFormula_l0_sh.T) (ks : (j : Nat) → ((impl_IsFormula_l0_ex.getD j (.ret, Sh.none)).2).T → Option R) : impl_IsFormula_l0_again N ks (k + 1) x = roundF (impl_IsFormula_G N) tab [impl_IsFormula_l0_0_s N] (loopAt impl_IsFormula_code 0) impl_IsFormula_l0_sh impl_IsFormula_l0_ex (fun y => impl_IsFormula_l0_again N ks k y) ks x := by kernel_rfl
theorem impl_IsFormula_l0_ok (N : Nat) : LoopOk Try.prog Try.f182.ntmps (impl_IsFormula_l0_s N) (loopAt impl_IsFormula_code 0) :=
  loop_ok (l := impl_IsFormula_l0_s N) progOk (impl_IsFormula_gok N) (draw_ok progOk (impl_IsFormula_gok N)) (fun R k x ks => impl_IsFormula_l0_again N ks k x) (fun _ _ _ => rfl) (fun R k x ks => impl_IsFormula_l0_step N R k x ks) (fun R x ks r h => ⟨N, h⟩) (lsOk_at (L := [impl_IsFormula_l0_0_s N]) ⟨impl_IsFormula_l0_0_ok N, trivial⟩) (by kernel_rfl) (by kernel_rfl)
noncomputable def impl_IsFormula (N : Nat) (f : (Int × (List (List Int)))) : Option ((Bool × Unit) × (Unit)) :=
  ((impl_between N f.1 0 6).bind fun r =>
    (br (!r.1.1)
      (some ((false, ()), ()))
      ((br (ilt 64 (tLen f.2))
        (some ((false, ()), ()))
        (impl_IsFormula_l0 N (fun x => some ((x, ()), ())) (fun (_ : Unit) => some ((true, ()), ())) N f.2 (tLen f.2) 0 f.1 f.2)))))
noncomputable def impl_IsFormula_S (N : Nat) : FSum := ⟨impl_IsFormula_ps, impl_IsFormula_rs, fun x => impl_IsFormula N x.1⟩
theorem impl_IsFormula_run (N : Nat) (x : argsT impl_IsFormula_ps) : impl_IsFormula N x.1 = funF (impl_IsFormula_G N) tab [impl_IsFormula_l0_s N] Try.f182 impl_IsFormula_ps impl_IsFormula_rs x := by kernel_rfl
theorem impl_IsFormula_pc (N : Nat) : PC Try.prog 182 (impl_IsFormula_S N) := by
  have e : impl_IsFormula_S N = ⟨impl_IsFormula_ps, impl_IsFormula_rs, funF (impl_IsFormula_G N) tab [impl_IsFormula_l0_s N] Try.f182 impl_IsFormula_ps impl_IsFormula_rs⟩ := congrArg (FSum.mk impl_IsFormula_ps impl_IsFormula_rs) (funext (impl_IsFormula_run N))
  rw [e]
  exact fun_ok (c := impl_IsFormula_code) progOk (impl_IsFormula_gok N) (draw_ok progOk (impl_IsFormula_gok N)) Try.call182 Try.func182 (by kernel_rfl) (lsOk_at (L := [impl_IsFormula_l0_s N]) ⟨impl_IsFormula_l0_ok N, trivial⟩) (by kernel_rfl) (by kernel_rfl) (by kernel_rfl) (by kernel_rfl) (by kernel_rfl)

/-! ### slices_IndexFunc_LI_int -/
abbrev slices_IndexFunc_LI_int_ps : List (PV.Mode × Ty) := [(.ro, LI), (.ro, FIBo)]
abbrev slices_IndexFunc_LI_int_rs : List (Bool × Ty) := [(true, I)]
noncomputable def slices_IndexFunc_LI_int_G (N : Nat) : GTab := gOf []
theorem slices_IndexFunc_LI_int_gok (N : Nat) : GOk Try.prog (slices_IndexFunc_LI_int_G N) := gOf_ok trivial
noncomputable def slices_IndexFunc_LI_int_code : Code := (Try.f195.body).getD .skip
noncomputable def slices_IndexFunc_LI_int_l0_sh : Sh := ⟨[(0, .one (.ro LI)), (1, .one (.ro FIBo)), (7, .one (.ro I)), (8, .one (.ro I))], []⟩
noncomputable def slices_IndexFunc_LI_int_l0_ex : List (Ex × Sh) := [(.ret, ⟨[(4, .one (.ro I))], []⟩), (.exit 0, ⟨[], []⟩)]
noncomputable def slices_IndexFunc_LI_int_l0 {R : Type} (N : Nat) (k0 : Int → Option R) (k1 : Unit → Option R) : Nat → (List Int) → (Int → Option Bool) → Int → Int → Option R
  | 0, _, _, _, _ => none
  | K + 1, s1, f1, x, x1 =>
    (br (ilt x1 x)
      ((chk (inb s1 x1)
        ((f1 (rdI s1 x1)).bind fun v =>
        (br v
        (k0 x1)
        (slices_IndexFunc_LI_int_l0 N k0 k1 K s1 f1 x (IntKind.i64.wrap (x1 + 1)))))))
      (k1 ()))
noncomputable def slices_IndexFunc_LI_int_l0_again {R : Type} (N : Nat) (ks : (j : Nat) → ((slices_IndexFunc_LI_int_l0_ex.getD j (.ret, Sh.none)).2).T → Option R) (k : Nat) (x : slices_IndexFunc_LI_int_l0_sh.T) : Option R :=
  slices_IndexFunc_LI_int_l0 N (fun y0 => ks 0 ((y0, ()), ())) (fun (_ : Unit) => ks 1 ((), ())) k x.1.1 x.1.2.1 x.1.2.2.1 x.1.2.2.2.1
noncomputable def slices_IndexFunc_LI_int_l0_s (N : Nat) : LSum := ⟨slices_IndexFunc_LI_int_l0_sh, slices_IndexFunc_LI_int_l0_ex, fun x ks => slices_IndexFunc_LI_int_l0_again N ks N x⟩
theorem slices_IndexFunc_LI_int_l0_step (N : Nat) (R : Type) (k : Nat) (x : slices_IndexFunc_LI_int_l0_sh.T) (ks : (j : Nat) → ((slices_IndexFunc_LI_int_l0_ex.getD j (.ret, Sh.none)).2).T → Option R) : slices_IndexFunc_LI_int_l0_again N ks (k + 1) x = roundF (slices_IndexFunc_LI_int_G N) tab [] (loopAt slices_IndexFunc_LI_int_code 0) slices_IndexFunc_LI_int_l0_sh slices_IndexFunc_LI_int_l0_ex (fun y => slices_IndexFunc_LI_int_l0_again N ks k y) ks x := by kernel_rfl
theorem slices_IndexFunc_LI_int_l0_ok (N : Nat) : LoopOk Try.prog Try.f195.ntmps (slices_IndexFunc_LI_int_l0_s N) (loopAt slices_IndexFunc_LI_int_code 0) :=
  loop_ok (l := slices_IndexFunc_LI_int_l0_s N) progOk (slices_IndexFunc_LI_int_gok N) (draw_ok progOk (slices_IndexFunc_LI_int_gok N)) (fun R k x ks => slices_IndexFunc_LI_int_l0_again N ks k x) (fun _ _ _ => rfl) (fun R k x ks => slices_IndexFunc_LI_int_l0_step N R k x ks) (fun R x ks r h => ⟨N, h⟩) (lsOk_at (L := []) trivial) (by kernel_rfl) (by kernel_rfl)
noncomputable def slices_IndexFunc_LI_int (N : Nat) (s : (List Int)) (f : (Int → Option Bool)) : Option ((Int × Unit) × (Unit)) :=
  slices_IndexFunc_LI_int_l0 N (fun x => some ((x, ()), ())) (fun (_ : Unit) => some (((-1), ()), ())) N s f (tLen s) 0
noncomputable def slices_IndexFunc_LI_int_S (N : Nat) : FSum := ⟨slices_IndexFunc_LI_int_ps, slices_IndexFunc_LI_int_rs, fun x => slices_IndexFunc_LI_int N x.1 x.2.1⟩
theorem slices_IndexFunc_LI_int_run (N : Nat) (x : argsT slices_IndexFunc_LI_int_ps) : slices_IndexFunc_LI_int N x.1 x.2.1 = funF (slices_IndexFunc_LI_int_G N) tab [slices_IndexFunc_LI_int_l0_s N] Try.f195 slices_IndexFunc_LI_int_ps slices_IndexFunc_LI_int_rs x := by kernel_rfl
theorem slices_IndexFunc_LI_int_pc (N : Nat) : PC Try.prog 195 (slices_IndexFunc_LI_int_S N) := by
  have e : slices_IndexFunc_LI_int_S N = ⟨slices_IndexFunc_LI_int_ps, slices_IndexFunc_LI_int_rs, funF (slices_IndexFunc_LI_int_G N) tab [slices_IndexFunc_LI_int_l0_s N] Try.f195 slices_IndexFunc_LI_int_ps slices_IndexFunc_LI_int_rs⟩ := congrArg (FSum.mk slices_IndexFunc_LI_int_ps slices_IndexFunc_LI_int_rs) (funext (slices_IndexFunc_LI_int_run N))
  rw [e]
  exact fun_ok (c := slices_IndexFunc_LI_int_code) progOk (slices_IndexFunc_LI_int_gok N) (draw_ok progOk (slices_IndexFunc_LI_int_gok N)) Try.call195 Try.func195 (by kernel_rfl) (lsOk_at (L := [slices_IndexFunc_LI_int_l0_s N]) ⟨slices_IndexFunc_LI_int_l0_ok N, trivial⟩) (by kernel_rfl) (by kernel_rfl) (by kernel_rfl) (by kernel_rfl) (by kernel_rfl)

/-! ### slices_ContainsFunc_LI_int -/
abbrev slices_ContainsFunc_LI_int_ps : List (PV.Mode × Ty) := [(.ro, LI), (.ro, FIBo)]
abbrev slices_ContainsFunc_LI_int_rs : List (Bool × Ty) := [(true, .bool)]
noncomputable def slices_ContainsFunc_LI_int_G (N : Nat) : GTab := gOf [(195, slices_IndexFunc_LI_int_S N)]
theorem slices_ContainsFunc_LI_int_gok (N : Nat) : GOk Try.prog (slices_ContainsFunc_LI_int_G N) := gOf_ok ⟨slices_IndexFunc_LI_int_pc N, trivial⟩
noncomputable def slices_ContainsFunc_LI_int_code : Code := (Try.f171.body).getD .skip
noncomputable def slices_ContainsFunc_LI_int (N : Nat) (s : (List Int)) (f : (Int → Option Bool)) : Option ((Bool × Unit) × (Unit)) :=
  ((slices_IndexFunc_LI_int N s f).bind fun r =>
    some (((ile 0 r.1.1), ()), ()))
noncomputable def slices_ContainsFunc_LI_int_S (N : Nat) : FSum := ⟨slices_ContainsFunc_LI_int_ps, slices_ContainsFunc_LI_int_rs, fun x => slices_ContainsFunc_LI_int N x.1 x.2.1⟩
theorem slices_ContainsFunc_LI_int_run (N : Nat) (x : argsT slices_ContainsFunc_LI_int_ps) : slices_ContainsFunc_LI_int N x.1 x.2.1 = funF (slices_ContainsFunc_LI_int_G N) tab [] Try.f171 slices_ContainsFunc_LI_int_ps slices_ContainsFunc_LI_int_rs x := by kernel_rfl
theorem slices_ContainsFunc_LI_int_pc (N : Nat) : PC Try.prog 171 (slices_ContainsFunc_LI_int_S N) := by
  have e : slices_ContainsFunc_LI_int_S N = ⟨slices_ContainsFunc_LI_int_ps, slices_ContainsFunc_LI_int_rs, funF (slices_ContainsFunc_LI_int_G N) tab [] Try.f171 slices_ContainsFunc_LI_int_ps slices_ContainsFunc_LI_int_rs⟩ := congrArg (FSum.mk slices_ContainsFunc_LI_int_ps slices_ContainsFunc_LI_int_rs) (funext (slices_ContainsFunc_LI_int_run N))
  rw [e]
  exact fun_ok (c := slices_ContainsFunc_LI_int_code) progOk (slices_ContainsFunc_LI_int_gok N) (draw_ok progOk (slices_ContainsFunc_LI_int_gok N)) Try.call171 Try.func171 (by kernel_rfl) (lsOk_at (L := []) trivial) (by kernel_rfl) (by kernel_rfl) (by kernel_rfl) (by kernel_rfl) (by kernel_rfl)

/-! ### impl_isAssignment_c1 -/
abbrev impl_isAssignment_c1_ps : List (PV.Mode × Ty) := [(.ro, I)]
abbrev impl_isAssignment_c1_rs : List (Bool × Ty) := [(true, .bool)]
noncomputable def impl_isAssignment_c1_G (N : Nat) : GTab := gOf [(69, impl_between_S N)]
theorem impl_isAssignment_c1_gok (N : Nat) : GOk Try.prog (impl_isAssignment_c1_G N) := gOf_ok ⟨impl_between_pc N, trivial⟩
noncomputable def impl_isAssignment_c1_code : Code := (Try.f199.body).getD .skip
noncomputable def impl_isAssignment_c1 (N : Nat) (n : Int) : Option ((Bool × Unit) × (Unit)) :=
  ((impl_between N n 0 1).bind fun r =>
    some (((!r.1.1), ()), ()))
noncomputable def impl_isAssignment_c1_S (N : Nat) : FSum := ⟨impl_isAssignment_c1_ps, impl_isAssignment_c1_rs, fun x => impl_isAssignment_c1 N x.1⟩
theorem impl_isAssignment_c1_run (N : Nat) (x : argsT impl_isAssignment_c1_ps) : impl_isAssignment_c1 N x.1 = funF (impl_isAssignment_c1_G N) tab [] Try.f199 impl_isAssignment_c1_ps impl_isAssignment_c1_rs x := by kernel_rfl
theorem impl_isAssignment_c1_pc (N : Nat) : PC Try.prog 199 (impl_isAssignment_c1_S N) := by
  have e : impl_isAssignment_c1_S N = ⟨impl_isAssignment_c1_ps, impl_isAssignment_c1_rs, funF (impl_isAssignment_c1_G N) tab [] Try.f199 impl_isAssignment_c1_ps impl_isAssignment_c1_rs⟩ := congrArg (FSum.mk impl_isAssignment_c1_ps impl_isAssignment_c1_rs) (funext (impl_isAssignment_c1_run N))
  rw [e]
  exact fun_ok (c := impl_isAssignment_c1_code) progOk (impl_isAssignment_c1_gok N) (draw_ok progOk (impl_isAssignment_c1_gok N)) Try.call199 Try.func199 (by kernel_rfl) (lsOk_at (L := []) trivial) (by kernel_rfl) (by kernel_rfl) (by kernel_rfl) (by kernel_rfl) (by kernel_rfl)

/-! ### impl_isAssignment -/
abbrev impl_isAssignment_ps : List (PV.Mode × Ty) := [(.ro, I), (.ro, LI)]
abbrev impl_isAssignment_rs : List (Bool × Ty) := [(true, .bool)]
noncomputable def impl_isAssignment_G (N : Nat) : GTab := gOf [(171, slices_ContainsFunc_LI_int_S N), (199, impl_isAssignment_c1_S N)]
theorem impl_isAssignment_gok (N : Nat) : GOk Try.prog (impl_isAssignment_G N) := gOf_ok ⟨slices_ContainsFunc_LI_int_pc N, impl_isAssignment_c1_pc N, trivial⟩
noncomputable def impl_isAssignment_code : Code := (Try.f183.body).getD .skip
noncomputable def impl_isAssignment (N : Nat) (vars : Int) (list : (List Int)) : Option ((Bool × Unit) × (Unit)) :=
  (br (ieq (tLen list) vars)
    (((slices_ContainsFunc_LI_int N list (fun y0 => (impl_isAssignment_c1 N y0).bind fun z => some z.1.1)).bind fun r =>
      some (((!r.1.1), ()), ())))
    (some ((false, ()), ())))
noncomputable def impl_isAssignment_S (N : Nat) : FSum := ⟨impl_isAssignment_ps, impl_isAssignment_rs, fun x => impl_isAssignment N x.1 x.2.1⟩
theorem impl_isAssignment_run (N : Nat) (x : argsT impl_isAssignment_ps) : impl_isAssignment N x.1 x.2.1 = funF (impl_isAssignment_G N) tab [] Try.f183 impl_isAssignment_ps impl_isAssignment_rs x := by kernel_rfl
theorem impl_isAssignment_pc (N : Nat) : PC Try.prog 183 (impl_isAssignment_S N) := by
  have e : impl_isAssignment_S N = ⟨impl_isAssignment_ps, impl_isAssignment_rs, funF (impl_isAssignment_G N) tab [] Try.f183 impl_isAssignment_ps impl_isAssignment_rs⟩ := congrArg (FSum.mk impl_isAssignment_ps impl_isAssignment_rs) (funext (impl_isAssignment_run N))
  rw [e]
  exact fun_ok (c := impl_isAssignment_code) progOk (impl_isAssignment_gok N) (draw_ok progOk (impl_isAssignment_gok N)) Try.call183 Try.func183 (by kernel_rfl) (lsOk_at (L := []) trivial) (by kernel_rfl) (by kernel_rfl) (by kernel_rfl) (by kernel_rfl) (by kernel_rfl)

/-! ### slices_IndexFunc_LLI_LI -/
abbrev slices_IndexFunc_LLI_LI_ps : List (PV.Mode × Ty) := [(.ro, LLI), (.ro, FLIBo)]
abbrev slices_IndexFunc_LLI_LI_rs : List (Bool × Ty) := [(true, I)]
noncomputable def slices_IndexFunc_LLI_LI_G (N : Nat) : GTab := gOf []
theorem slices_IndexFunc_LLI_LI_gok (N : Nat) : GOk Try.prog (slices_IndexFunc_LLI_LI_G N) := gOf_ok trivial
noncomputable def slices_IndexFunc_LLI_LI_code : Code := (Try.f207.body).getD .skip
noncomputable def slices_IndexFunc_LLI_LI_l0_sh : Sh := ⟨[(0, .one (.ro LLI)), (1, .one (.ro FLIBo)), (7, .one (.ro I)), (8, .one (.ro I))], []⟩
noncomputable def slices_IndexFunc_LLI_LI_l0_ex : List (Ex × Sh) := [(.ret, ⟨[(4, .one (.ro I))], []⟩), (.exit 0, ⟨[], []⟩)]
noncomputable def slices_IndexFunc_LLI_LI_l0 {R : Type} (N : Nat) (k0 : Int → Option R) (k1 : Unit → Option R) : Nat → (List (List Int)) → ((List Int) → Option Bool) → Int → Int → Option R
  | 0, _, _, _, _ => none
  | K + 1, s1, f1, x, x1 =>
    (br (ilt x1 x)
      ((chk (inb s1 x1)
        ((f1 (rdL s1 x1)).bind fun v =>
        (br v
        (k0 x1)
        (slices_IndexFunc_LLI_LI_l0 N k0 k1 K s1 f1 x (IntKind.i64.wrap (x1 + 1)))))))
      (k1 ()))
noncomputable def slices_IndexFunc_LLI_LI_l0_again {R : Type} (N : Nat) (ks : (j : Nat) → ((slices_IndexFunc_LLI_LI_l0_ex.getD j (.ret, Sh.none)).2).T → Option R) (k : Nat) (x : slices_IndexFunc_LLI_LI_l0_sh.T) : Option R :=
  slices_IndexFunc_LLI_LI_l0 N (fun y0 => ks 0 ((y0, ()), ())) (fun (_ : Unit) => ks 1 ((), ())) k x.1.1 x.1.2.1 x.1.2.2.1 x.1.2.2.2.1
noncomputable def slices_IndexFunc_LLI_LI_l0_s (N : Nat) : LSum := ⟨slices_IndexFunc_LLI_LI_l0_sh, slices_IndexFunc_LLI_LI_l0_ex, fun x ks => slices_IndexFunc_LLI_LI_l0_again N ks N x⟩
theorem slices_IndexFunc_LLI_LI_l0_step (N : Nat) (R : Type) (k : Nat) (x : slices_IndexFunc_LLI_LI_l0_sh.T) (ks : (j : Nat) → ((slices_IndexFunc_LLI_LI_l0_ex.getD j (.ret, Sh.none)).2).T → Option R) : slices_IndexFunc_LLI_LI_l0_again N ks (k + 1) x = roundF (slices_IndexFunc_LLI_LI_G N) tab [] (loopAt slices_IndexFunc_LLI_LI_code 0) slices_IndexFunc_LLI_LI_l0_sh slices_IndexFunc_LLI_LI_l0_ex (fun y => slices_IndexFunc_LLI_LI_l0_again N ks k y) ks x := by kernel_rfl
theorem slices_IndexFunc_LLI_LI_l0_ok (N : Nat) : LoopOk Try.prog Try.f207.ntmps (slices_IndexFunc_LLI_LI_l0_s N) (loopAt slices_IndexFunc_LLI_LI_code 0) :=
  loop_ok (l := slices_IndexFunc_LLI_LI_l0_s N) progOk (slices_IndexFunc_LLI_LI_gok N) (draw_ok progOk (slices_IndexFunc_LLI_LI_gok N)) (fun R k x ks => slices_IndexFunc_LLI_LI_l0_again N ks k x) (fun _ _ _ => rfl) (fun R k x ks => slices_IndexFunc_LLI_LI_l0_step N R k x ks) (fun R x ks r h => ⟨N, h⟩) (lsOk_at (L := []) trivial) (by kernel_rfl) (by kernel_rfl)
noncomputable def slices_IndexFunc_LLI_LI (N : Nat) (s : (List (List Int))) (f : ((List Int) → Option Bool)) : Option ((Int × Unit) × (Unit)) :=
  slices_IndexFunc_LLI_LI_l0 N (fun x => some ((x, ()), ())) (fun (_ : Unit) => some (((-1), ()), ())) N s f (tLen s) 0
noncomputable def slices_IndexFunc_LLI_LI_S (N : Nat) : FSum := ⟨slices_IndexFunc_LLI_LI_ps, slices_IndexFunc_LLI_LI_rs, fun x => slices_IndexFunc_LLI_LI N x.1 x.2.1⟩
theorem slices_IndexFunc_LLI_LI_run (N : Nat) (x : argsT slices_IndexFunc_LLI_LI_ps) : slices_IndexFunc_LLI_LI N x.1 x.2.1 = funF (slices_IndexFunc_LLI_LI_G N) tab [slices_IndexFunc_LLI_LI_l0_s N] Try.f207 slices_IndexFunc_LLI_LI_ps slices_IndexFunc_LLI_LI_rs x := by kernel_rfl
theorem slices_IndexFunc_LLI_LI_pc (N : Nat) : PC Try.prog 207 (slices_IndexFunc_LLI_LI_S N) := by
  have e : slices_IndexFunc_LLI_LI_S N = ⟨slices_IndexFunc_LLI_LI_ps, slices_IndexFunc_LLI_LI_rs, funF (slices_IndexFunc_LLI_LI_G N) tab [slices_IndexFunc_LLI_LI_l0_s N] Try.f207 slices_IndexFunc_LLI_LI_ps slices_IndexFunc_LLI_LI_rs⟩ := congrArg (FSum.mk slices_IndexFunc_LLI_LI_ps slices_IndexFunc_LLI_LI_rs) (funext (slices_IndexFunc_LLI_LI_run N))
  rw [e]
  exact fun_ok (c := slices_IndexFunc_LLI_LI_code) progOk (slices_IndexFunc_LLI_LI_gok N) (draw_ok progOk (slices_IndexFunc_LLI_LI_gok N)) Try.call207 Try.func207 (by kernel_rfl) (lsOk_at (L := [slices_IndexFunc_LLI_LI_l0_s N]) ⟨slices_IndexFunc_LLI_LI_l0_ok N, trivial⟩) (by kernel_rfl) (by kernel_rfl) (by kernel_rfl) (by kernel_rfl) (by kernel_rfl)

/-! ### slices_ContainsFunc_LLI_LI -/
abbrev slices_ContainsFunc_LLI_LI_ps : List (PV.Mode × Ty) := [(.ro, LLI), (.ro, FLIBo)]
abbrev slices_ContainsFunc_LLI_LI_rs : List (Bool × Ty) := [(true, .bool)]
noncomputable def slices_ContainsFunc_LLI_LI_G (N : Nat) : GTab := gOf [(207, slices_IndexFunc_LLI_LI_S N)]
theorem slices_ContainsFunc_LLI_LI_gok (N : Nat) : GOk Try.prog (slices_ContainsFunc_LLI_LI_G N) := gOf_ok ⟨slices_IndexFunc_LLI_LI_pc N, trivial⟩
noncomputable def slices_ContainsFunc_LLI_LI_code : Code := (Try.f200.body).getD .skip
noncomputable def slices_ContainsFunc_LLI_LI (N : Nat) (s : (List (List Int))) (f : ((List Int) → Option Bool)) : Option ((Bool × Unit) × (Unit)) :=
  ((slices_IndexFunc_LLI_LI N s f).bind fun r =>
    some (((ile 0 r.1.1), ()), ()))
noncomputable def slices_ContainsFunc_LLI_LI_S (N : Nat) : FSum := ⟨slices_ContainsFunc_LLI_LI_ps, slices_ContainsFunc_LLI_LI_rs, fun x => slices_ContainsFunc_LLI_LI N x.1 x.2.1⟩
theorem slices_ContainsFunc_LLI_LI_run (N : Nat) (x : argsT slices_ContainsFunc_LLI_LI_ps) : slices_ContainsFunc_LLI_LI N x.1 x.2.1 = funF (slices_ContainsFunc_LLI_LI_G N) tab [] Try.f200 slices_ContainsFunc_LLI_LI_ps slices_ContainsFunc_LLI_LI_rs x := by kernel_rfl
theorem slices_ContainsFunc_LLI_LI_pc (N : Nat) : PC Try.prog 200 (slices_ContainsFunc_LLI_LI_S N) := by
  have e : slices_ContainsFunc_LLI_LI_S N = ⟨slices_ContainsFunc_LLI_LI_ps, slices_ContainsFunc_LLI_LI_rs, funF (slices_ContainsFunc_LLI_LI_G N) tab [] Try.f200 slices_ContainsFunc_LLI_LI_ps slices_ContainsFunc_LLI_LI_rs⟩ := congrArg (FSum.mk slices_ContainsFunc_LLI_LI_ps slices_ContainsFunc_LLI_LI_rs) (funext (slices_ContainsFunc_LLI_LI_run N))
  rw [e]
  exact fun_ok (c := slices_ContainsFunc_LLI_LI_code) progOk (slices_ContainsFunc_LLI_LI_gok N) (draw_ok progOk (slices_ContainsFunc_LLI_LI_gok N)) Try.call200 Try.func200 (by kernel_rfl) (lsOk_at (L := []) trivial) (by kernel_rfl) (by kernel_rfl) (by kernel_rfl) (by kernel_rfl) (by kernel_rfl)

/-! ### impl_meets -/
abbrev impl_meets_ps : List (PV.Mode × Ty) := [(.ro, LI), (.ro, I)]
abbrev impl_meets_rs : List (Bool × Ty) := [(true, .bool)]
noncomputable def impl_meets_G (N : Nat) : GTab := gOf []
theorem impl_meets_gok (N : Nat) : GOk Try.prog (impl_meets_G N) := gOf_ok trivial
noncomputable def impl_meets_code : Code := (Try.f203.body).getD .skip
noncomputable def impl_meets (N : Nat) (list : (List Int)) (literal : Int) : Option ((Bool × Unit) × (Unit)) :=
  (br (ilt 0 literal)
    ((chk (inb list (IntKind.i64.wrap (literal - 1)))
      (some (((ieq (rdI list (IntKind.i64.wrap (literal - 1))) 1), ()), ()))))
    ((chk (inb list (IntKind.i64.wrap ((-1) - literal)))
      (some (((ieq (rdI list (IntKind.i64.wrap ((-1) - literal))) 0), ()), ())))))
noncomputable def impl_meets_S (N : Nat) : FSum := ⟨impl_meets_ps, impl_meets_rs, fun x => impl_meets N x.1 x.2.1⟩
theorem impl_meets_run (N : Nat) (x : argsT impl_meets_ps) : impl_meets N x.1 x.2.1 = funF (impl_meets_G N) tab [] Try.f203 impl_meets_ps impl_meets_rs x := by kernel_rfl
theorem impl_meets_pc (N : Nat) : PC Try.prog 203 (impl_meets_S N) := by
  have e : impl_meets_S N = ⟨impl_meets_ps, impl_meets_rs, funF (impl_meets_G N) tab [] Try.f203 impl_meets_ps impl_meets_rs⟩ := congrArg (FSum.mk impl_meets_ps impl_meets_rs) (funext (impl_meets_run N))
  rw [e]
  exact fun_ok (c := impl_meets_code) progOk (impl_meets_gok N) (draw_ok progOk (impl_meets_gok N)) Try.call203 Try.func203 (by kernel_rfl) (lsOk_at (L := []) trivial) (by kernel_rfl) (by kernel_rfl) (by kernel_rfl) (by kernel_rfl) (by kernel_rfl)

/-! ### impl_Formula_solves_c1_c1 -/
abbrev impl_Formula_solves_c1_c1_ps : List (PV.Mode × Ty) := [(.ro, I), (.ro, ALI)]
abbrev impl_Formula_solves_c1_c1_rs : List (Bool × Ty) := [(true, .bool)]
noncomputable def impl_Formula_solves_c1_c1_G (N : Nat) : GTab := gOf [(203, impl_meets_S N)]
theorem impl_Formula_solves_c1_c1_gok (N : Nat) : GOk Try.prog (impl_Formula_solves_c1_c1_G N) := gOf_ok ⟨impl_meets_pc N, trivial⟩
noncomputable def impl_Formula_solves_c1_c1_code : Code := (Try.f202.body).getD .skip
noncomputable def impl_Formula_solves_c1_c1 (N : Nat) (literal : Int) (c : (List Int)) : Option ((Bool × Unit) × (Unit)) :=
  ((impl_meets N c literal).bind fun r =>
    some ((r.1.1, ()), ()))
noncomputable def impl_Formula_solves_c1_c1_S (N : Nat) : FSum := ⟨impl_Formula_solves_c1_c1_ps, impl_Formula_solves_c1_c1_rs, fun x => impl_Formula_solves_c1_c1 N x.1 x.2.1⟩
theorem impl_Formula_solves_c1_c1_run (N : Nat) (x : argsT impl_Formula_solves_c1_c1_ps) : impl_Formula_solves_c1_c1 N x.1 x.2.1 = funF (impl_Formula_solves_c1_c1_G N) tab [] Try.f202 impl_Formula_solves_c1_c1_ps impl_Formula_solves_c1_c1_rs x := by kernel_rfl
theorem impl_Formula_solves_c1_c1_pc (N : Nat) : PC Try.prog 202 (impl_Formula_solves_c1_c1_S N) := by
  have e : impl_Formula_solves_c1_c1_S N = ⟨impl_Formula_solves_c1_c1_ps, impl_Formula_solves_c1_c1_rs, funF (impl_Formula_solves_c1_c1_G N) tab [] Try.f202 impl_Formula_solves_c1_c1_ps impl_Formula_solves_c1_c1_rs⟩ := congrArg (FSum.mk impl_Formula_solves_c1_c1_ps impl_Formula_solves_c1_c1_rs) (funext (impl_Formula_solves_c1_c1_run N))
  rw [e]
  exact fun_ok (c := impl_Formula_solves_c1_c1_code) progOk (impl_Formula_solves_c1_c1_gok N) (draw_ok progOk (impl_Formula_solves_c1_c1_gok N)) Try.call202 Try.func202 (by kernel_rfl) (lsOk_at (L := []) trivial) (by kernel_rfl) (by kernel_rfl) (by kernel_rfl) (by kernel_rfl) (by kernel_rfl)

/-! ### impl_Formula_solves_c1 -/
abbrev impl_Formula_solves_c1_ps : List (PV.Mode × Ty) := [(.ro, LI), (.ro, ALI)]
abbrev impl_Formula_solves_c1_rs : List (Bool × Ty) := [(true, .bool)]
noncomputable def impl_Formula_solves_c1_G (N : Nat) : GTab := gOf [(202, impl_Formula_solves_c1_c1_S N), (171, slices_ContainsFunc_LI_int_S N)]
theorem impl_Formula_solves_c1_gok (N : Nat) : GOk Try.prog (impl_Formula_solves_c1_G N) := gOf_ok ⟨impl_Formula_solves_c1_c1_pc N, slices_ContainsFunc_LI_int_pc N, trivial⟩
noncomputable def impl_Formula_solves_c1_code : Code := (Try.f201.body).getD .skip
noncomputable def impl_Formula_solves_c1 (N : Nat) (clause : (List Int)) (c : (List Int)) : Option ((Bool × Unit) × (Unit)) :=
  ((slices_ContainsFunc_LI_int N clause (fun y0 => (impl_Formula_solves_c1_c1 N y0 c).bind fun z => some z.1.1)).bind fun r =>
    some (((!r.1.1), ()), ()))
noncomputable def impl_Formula_solves_c1_S (N : Nat) : FSum := ⟨impl_Formula_solves_c1_ps, impl_Formula_solves_c1_rs, fun x => impl_Formula_solves_c1 N x.1 x.2.1⟩
theorem impl_Formula_solves_c1_run (N : Nat) (x : argsT impl_Formula_solves_c1_ps) : impl_Formula_solves_c1 N x.1 x.2.1 = funF (impl_Formula_solves_c1_G N) tab [] Try.f201 impl_Formula_solves_c1_ps impl_Formula_solves_c1_rs x := by kernel_rfl
theorem impl_Formula_solves_c1_pc (N : Nat) : PC Try.prog 201 (impl_Formula_solves_c1_S N) := by
  have e : impl_Formula_solves_c1_S N = ⟨impl_Formula_solves_c1_ps, impl_Formula_solves_c1_rs, funF (impl_Formula_solves_c1_G N) tab [] Try.f201 impl_Formula_solves_c1_ps impl_Formula_solves_c1_rs⟩ := congrArg (FSum.mk impl_Formula_solves_c1_ps impl_Formula_solves_c1_rs) (funext (impl_Formula_solves_c1_run N))
  rw [e]
  exact fun_ok (c := impl_Formula_solves_c1_code) progOk (impl_Formula_solves_c1_gok N) (draw_ok progOk (impl_Formula_solves_c1_gok N)) Try.call201 Try.func201 (by kernel_rfl) (lsOk_at (L := []) trivial) (by kernel_rfl) (by kernel_rfl) (by kernel_rfl) (by kernel_rfl) (by kernel_rfl)

/-! ### impl_Formula_solves -/
abbrev impl_Formula_solves_ps : List (PV.Mode × Ty) := [(.ro, QILLI), (.ro, LI)]
abbrev impl_Formula_solves_rs : List (Bool × Ty) := [(true, .bool)]
noncomputable def impl_Formula_solves_G (N : Nat) : GTab := gOf [(200, slices_ContainsFunc_LLI_LI_S N), (201, impl_Formula_solves_c1_S N)]
theorem impl_Formula_solves_gok (N : Nat) : GOk Try.prog (impl_Formula_solves_G N) := gOf_ok ⟨slices_ContainsFunc_LLI_LI_pc N, impl_Formula_solves_c1_pc N, trivial⟩
noncomputable def impl_Formula_solves_code : Code := (Try.f184.body).getD .skip
noncomputable def impl_Formula_solves (N : Nat) (f : (Int × (List (List Int)))) (list : (List Int)) : Option ((Bool × Unit) × (Unit)) :=
  ((slices_ContainsFunc_LLI_LI N f.2 (fun y0 => (impl_Formula_solves_c1 N y0 list).bind fun z => some z.1.1)).bind fun r =>
    some (((!r.1.1), ()), ()))
noncomputable def impl_Formula_solves_S (N : Nat) : FSum := ⟨impl_Formula_solves_ps, impl_Formula_solves_rs, fun x => impl_Formula_solves N x.1 x.2.1⟩
theorem impl_Formula_solves_run (N : Nat) (x : argsT impl_Formula_solves_ps) : impl_Formula_solves N x.1 x.2.1 = funF (impl_Formula_solves_G N) tab [] Try.f184 impl_Formula_solves_ps impl_Formula_solves_rs x := by kernel_rfl
theorem impl_Formula_solves_pc (N : Nat) : PC Try.prog 184 (impl_Formula_solves_S N) := by
  have e : impl_Formula_solves_S N = ⟨impl_Formula_solves_ps, impl_Formula_solves_rs, funF (impl_Formula_solves_G N) tab [] Try.f184 impl_Formula_solves_ps impl_Formula_solves_rs⟩ := congrArg (FSum.mk impl_Formula_solves_ps impl_Formula_solves_rs) (funext (impl_Formula_solves_run N))
  rw [e]
  exact fun_ok (c := impl_Formula_solves_code) progOk (impl_Formula_solves_gok N) (draw_ok progOk (impl_Formula_solves_gok N)) Try.call184 Try.func184 (by kernel_rfl) (lsOk_at (L := []) trivial) (by kernel_rfl) (by kernel_rfl) (by kernel_rfl) (by kernel_rfl) (by kernel_rfl)

/-! ### impl_IsSolution -/
abbrev impl_IsSolution_ps : List (PV.Mode × Ty) := [(.ro, QILLI), (.ro, LI)]
abbrev impl_IsSolution_rs : List (Bool × Ty) := [(true, .bool), (true, .bool)]
noncomputable def impl_IsSolution_G (N : Nat) : GTab := gOf [(182, impl_IsFormula_S N), (183, impl_isAssignment_S N), (184, impl_Formula_solves_S N)]
theorem impl_IsSolution_gok (N : Nat) : GOk Try.prog (impl_IsSolution_G N) := gOf_ok ⟨impl_IsFormula_pc N, impl_isAssignment_pc N, impl_Formula_solves_pc N, trivial⟩
noncomputable def impl_IsSolution_code : Code := (Try.f148.body).getD .skip
noncomputable def impl_IsSolution (N : Nat) (f : (Int × (List (List Int)))) (bits : (List Int)) : Option ((Bool × Bool × Unit) × (Unit)) :=
  ((impl_IsFormula N (f.1, f.2)).bind fun r =>
    (br (!r.1.1)
      (some ((false, false, ()), ()))
      (((impl_isAssignment N f.1 bits).bind fun r1 =>
        (br (!r1.1.1)
          (some ((false, false, ()), ()))
          (((impl_Formula_solves N (f.1, f.2) bits).bind fun r2 =>
            some ((r2.1.1, true, ()), ()))))))))
noncomputable def impl_IsSolution_S (N : Nat) : FSum := ⟨impl_IsSolution_ps, impl_IsSolution_rs, fun x => impl_IsSolution N x.1 x.2.1⟩
theorem impl_IsSolution_run (N : Nat) (x : argsT impl_IsSolution_ps) : impl_IsSolution N x.1 x.2.1 = funF (impl_IsSolution_G N) tab [] Try.f148 impl_IsSolution_ps impl_IsSolution_rs x := by kernel_rfl
theorem impl_IsSolution_pc (N : Nat) : PC Try.prog 148 (impl_IsSolution_S N) := by
  have e : impl_IsSolution_S N = ⟨impl_IsSolution_ps, impl_IsSolution_rs, funF (impl_IsSolution_G N) tab [] Try.f148 impl_IsSolution_ps impl_IsSolution_rs⟩ := congrArg (FSum.mk impl_IsSolution_ps impl_IsSolution_rs) (funext (impl_IsSolution_run N))
  rw [e]
  exact fun_ok (c := impl_IsSolution_code) progOk (impl_IsSolution_gok N) (draw_ok progOk (impl_IsSolution_gok N)) Try.call148 Try.func148 (by kernel_rfl) (lsOk_at (L := []) trivial) (by kernel_rfl) (by kernel_rfl) (by kernel_rfl) (by kernel_rfl) (by kernel_rfl)

/-! ### impl_isSolution -/
abbrev impl_isSolution_ps : List (PV.Mode × Ty) := [(.ro, QILLI), (.ro, LI)]
abbrev impl_isSolution_rs : List (Bool × Ty) := [(true, .bool)]
noncomputable def impl_isSolution_G (N : Nat) : GTab := gOf [(148, impl_IsSolution_S N)]
theorem impl_isSolution_gok (N : Nat) : GOk Try.prog (impl_isSolution_G N) := gOf_ok ⟨impl_IsSolution_pc N, trivial⟩
noncomputable def impl_isSolution_code : Code := (Try.f112.body).getD .skip
noncomputable def impl_isSolution (N : Nat) (f : (Int × (List (List Int)))) (list : (List Int)) : Option ((Bool × Unit) × (Unit)) :=
  ((impl_IsSolution N (f.1, f.2) list).bind fun r =>
    some ((r.1.1, ()), ()))
noncomputable def impl_isSolution_S (N : Nat) : FSum := ⟨impl_isSolution_ps, impl_isSolution_rs, fun x => impl_isSolution N x.1 x.2.1⟩
theorem impl_isSolution_run (N : Nat) (x : argsT impl_isSolution_ps) : impl_isSolution N x.1 x.2.1 = funF (impl_isSolution_G N) tab [] Try.f112 impl_isSolution_ps impl_isSolution_rs x := by kernel_rfl
theorem impl_isSolution_pc (N : Nat) : PC Try.prog 112 (impl_isSolution_S N) := by
  have e : impl_isSolution_S N = ⟨impl_isSolution_ps, impl_isSolution_rs, funF (impl_isSolution_G N) tab [] Try.f112 impl_isSolution_ps impl_isSolution_rs⟩ := congrArg (FSum.mk impl_isSolution_ps impl_isSolution_rs) (funext (impl_isSolution_run N))
  rw [e]
  exact fun_ok (c := impl_isSolution_code) progOk (impl_isSolution_gok N) (draw_ok progOk (impl_isSolution_gok N)) Try.call112 Try.func112 (by kernel_rfl) (lsOk_at (L := []) trivial) (by kernel_rfl) (by kernel_rfl) (by kernel_rfl) (by kernel_rfl) (by kernel_rfl)

/-! ### impl_assignments_own -/
abbrev impl_assignments_own_ps : List (PV.Mode × Ty) := [(.ro, I), (.ro, FLIBo)]
abbrev impl_assignments_own_rs : List (Bool × Ty) := [(true, LLI)]
noncomputable def impl_assignments_own_G (N : Nat) : GTab := gOf []
theorem impl_assignments_own_gok (N : Nat) : GOk Try.prog (impl_assignments_own_G N) := gOf_ok trivial
noncomputable def impl_assignments_own_code : Code := (Try.f185.body).getD .skip
noncomputable def impl_assignments_own_l0_0_sh : Sh := ⟨[(0, .one (.ro I)), (1, .one (.ro FLIBo)), (5, .one (.ref 0)), (6, .one (.ro I)), (7, .one (.ref 1)), (11, .one (.ro I)), (12, .one (.ro I)), (16, .one (.ro I)), (17, .one (.ro I))], [.sl 43 LI .deep, .sl 3 I .own]⟩
noncomputable def impl_assignments_own_l0_0_ex : List (Ex × Sh) := [(.exit 2, ⟨[(0, .one (.ro I)), (1, .one (.ro FLIBo)), (5, .one (.ref 0)), (7, .one (.ref 1)), (11, .one (.ro I)), (12, .one (.ro I))], [.sl 43 LI .deep, .sl 3 I .own]⟩)]
noncomputable def impl_assignments_own_l0_0 {R : Type} (N : Nat) (k0 : Int → ((List Int) → Option Bool) → Int → Int → (List (List Int)) → (List Int) → Option R) : Nat → Int → ((List Int) → Option Bool) → Int → Int → Int → Int → Int → (List (List Int)) → (List Int) → Option R
  | 0, _, _, _, _, _, _, _, _, _ => none
  | K + 1, vars2, is2, n, x2, x3, x4, x5, o1, o2 =>
    (br (ilt x5 x4)
      ((chk (ile 0 (IntKind.i64.wrap ((IntKind.i64.wrap (vars2 - 1)) - x5)))
        (chk (room o2 [(bitop .and .i64 (shrI .i64 n (IntKind.i64.wrap ((IntKind.i64.wrap (vars2 - 1)) - x5))) 1)])
        (impl_assignments_own_l0_0 N k0 K vars2 is2 n x2 x3 x4 (IntKind.i64.wrap (x5 + 1)) o1 (tApp o2 [(bitop .and .i64 (shrI .i64 n (IntKind.i64.wrap ((IntKind.i64.wrap (vars2 - 1)) - x5))) 1)])))))
      (k0 vars2 is2 x2 x3 o1 o2))
noncomputable def impl_assignments_own_l0_0_again {R : Type} (N : Nat) (ks : (j : Nat) → ((impl_assignments_own_l0_0_ex.getD j (.ret, Sh.none)).2).T → Option R) (k : Nat) (x : impl_assignments_own_l0_0_sh.T) : Option R :=
  impl_assignments_own_l0_0 N (fun y0 y1 y2 y3 y4 y5 => ks 0 ((y0, y1, (), (), y2, y3, ()), (y4, y5, ()))) k x.1.1 x.1.2.1 x.1.2.2.2.1 x.1.2.2.2.2.2.1 x.1.2.2.2.2.2.2.1 x.1.2.2.2.2.2.2.2.1 x.1.2.2.2.2.2.2.2.2.1 x.2.1 x.2.2.1
noncomputable def impl_assignments_own_l0_0_s (N : Nat) : LSum := ⟨impl_assignments_own_l0_0_sh, impl_assignments_own_l0_0_ex, fun x ks => impl_assignments_own_l0_0_again N ks N x⟩
theorem impl_assignments_own_l0_0_step (N : Nat) (R : Type) (k : Nat) (x : impl_assignments_own_l0_0_sh.T) (ks : (j : Nat) → ((impl_assignments_own_l0_0_ex.getD j (.ret, Sh.none)).2).T → Option R) : impl_assignments_own_l0_0_again N ks (k + 1) x = roundF (impl_assignments_own_G N) tab [] (loopAt (loopAt impl_assignments_own_code 0) 0) impl_assignments_own_l0_0_sh impl_assignments_own_l0_0_ex (fun y => impl_assignments_own_l0_0_again N ks k y) ks x := by kernel_rfl
theorem impl_assignments_own_l0_0_ok (N : Nat) : LoopOk Try.prog Try.f185.ntmps (impl_assignments_own_l0_0_s N) (loopAt (loopAt impl_assignments_own_code 0) 0) :=
  loop_ok (l := impl_assignments_own_l0_0_s N) progOk (impl_assignments_own_gok N) (draw_ok progOk (impl_assignments_own_gok N)) (fun R k x ks => impl_assignments_own_l0_0_again N ks k x) (fun _ _ _ => rfl) (fun R k x ks => impl_assignments_own_l0_0_step N R k x ks) (fun R x ks r h => ⟨N, h⟩) (lsOk_at (L := []) trivial) (by kernel_rfl) (by kernel_rfl)
noncomputable def impl_assignments_own_l0_sh : Sh := ⟨[(0, .one (.ro I)), (1, .one (.ro FLIBo)), (5, .one (.ref 0)), (11, .one (.ro I)), (12, .one (.ro I))], [.sl 43 LI .deep]⟩
noncomputable def impl_assignments_own_l0_ex : List (Ex × Sh) := [(.exit 0, ⟨[(5, .one (.ref 0))], [.sl 43 LI .deep]⟩)]
noncomputable def impl_assignments_own_l0 {R : Type} (N : Nat) (k0 : (List (List Int)) → Option R) : Nat → Int → ((List Int) → Option Bool) → Int → Int → (List (List Int)) → Option R
  | 0, _, _, _, _, _ => none
  | K + 1, vars1, is1, x, x1, o =>
    (br (ilt x1 x)
      (impl_assignments_own_l0_0 N (fun vars2 is2 x2 x3 o1 o2 => ((is2 o2).bind fun v =>
        (br v
        ((chk (room o1 [o2])
          (impl_assignments_own_l0 N k0 K vars2 is2 x2 (IntKind.i64.wrap (x3 + 1)) (tApp o1 [o2]))))
        (impl_assignments_own_l0 N k0 K vars2 is2 x2 (IntKind.i64.wrap (x3 + 1)) o1)))) N vars1 is1 x1 x x1 vars1 0 o [])
      (k0 o))
noncomputable def impl_assignments_own_l0_again {R : Type} (N : Nat) (ks : (j : Nat) → ((impl_assignments_own_l0_ex.getD j (.ret, Sh.none)).2).T → Option R) (k : Nat) (x : impl_assignments_own_l0_sh.T) : Option R :=
  impl_assignments_own_l0 N (fun y0 => ks 0 (((), ()), (y0, ()))) k x.1.1 x.1.2.1 x.1.2.2.2.1 x.1.2.2.2.2.1 x.2.1
noncomputable def impl_assignments_own_l0_s (N : Nat) : LSum := ⟨impl_assignments_own_l0_sh, impl_assignments_own_l0_ex, fun x ks => impl_assignments_own_l0_again N ks N x⟩
theorem impl_assignments_own_l0_step (N : Nat) (R : Type) (k : Nat) (x : impl_assignments_own_l0_sh.T) (ks : (j : Nat) → ((impl_assignments_own_l0_ex.getD j (.ret, Sh.none)).2).T → Option R) : impl_assignments_own_l0_again N ks (k + 1) x = roundF (impl_assignments_own_G N) tab [impl_assignments_own_l0_0_s N] (loopAt impl_assignments_own_code 0) impl_assignments_own_l0_sh impl_assignments_own_l0_ex (fun y => impl_assignments_own_l0_again N ks k y) ks x := by kernel_rfl
theorem impl_assignments_own_l0_ok (N : Nat) : LoopOk Try.prog Try.f185.ntmps (impl_assignments_own_l0_s N) (loopAt impl_assignments_own_code 0) :=
  loop_ok (l := impl_assignments_own_l0_s N) progOk (impl_assignments_own_gok N) (draw_ok progOk (impl_assignments_own_gok N)) (fun R k x ks => impl_assignments_own_l0_again N ks k x) (fun _ _ _ => rfl) (fun R k x ks => impl_assignments_own_l0_step N R k x ks) (fun R x ks r h => ⟨N, h⟩) (lsOk_at (L := [impl_assignments_own_l0_0_s N]) ⟨impl_assignments_own_l0_0_ok N, trivial⟩) (by kernel_rfl) (by kernel_rfl)
noncomputable def impl_assignments_own (N : Nat) (vars : Int) (is : ((List Int) → Option Bool)) : Option (((List (List Int)) × Unit) × (Unit)) :=
  (chk (ile 0 vars)
    (impl_assignments_own_l0 N (fun o => some ((o, ()), ())) N vars is (shlI .i64 1 vars) 0 []))
noncomputable def impl_assignments_own_S (N : Nat) : FSum := ⟨impl_assignments_own_ps, impl_assignments_own_rs, fun x => impl_assignments_own N x.1 x.2.1⟩
theorem impl_assignments_own_run (N : Nat) (x : argsT impl_assignments_own_ps) : impl_assignments_own N x.1 x.2.1 = funF (impl_assignments_own_G N) tab [impl_assignments_own_l0_s N] Try.f185 impl_assignments_own_ps impl_assignments_own_rs x := by kernel_rfl
theorem impl_assignments_own_pc (N : Nat) : PC Try.prog 185 (impl_assignments_own_S N) := by
  have e : impl_assignments_own_S N = ⟨impl_assignments_own_ps, impl_assignments_own_rs, funF (impl_assignments_own_G N) tab [impl_assignments_own_l0_s N] Try.f185 impl_assignments_own_ps impl_assignments_own_rs⟩ := congrArg (FSum.mk impl_assignments_own_ps impl_assignments_own_rs) (funext (impl_assignments_own_run N))
  rw [e]
  exact fun_ok (c := impl_assignments_own_code) progOk (impl_assignments_own_gok N) (draw_ok progOk (impl_assignments_own_gok N)) Try.call185 Try.func185 (by kernel_rfl) (lsOk_at (L := [impl_assignments_own_l0_s N]) ⟨impl_assignments_own_l0_ok N, trivial⟩) (by kernel_rfl) (by kernel_rfl) (by kernel_rfl) (by kernel_rfl) (by kernel_rfl)

/-! ### impl_Formula_solutions -/
abbrev impl_Formula_solutions_ps : List (PV.Mode × Ty) := [(.ro, QILLI)]
abbrev impl_Formula_solutions_rs : List (Bool × Ty) := [(true, LLI)]
noncomputable def impl_Formula_solutions_G (N : Nat) : GTab := gOf [(184, impl_Formula_solves_S N), (185, impl_assignments_own_S N)]
theorem impl_Formula_solutions_gok (N : Nat) : GOk Try.prog (impl_Formula_solutions_G N) := gOf_ok ⟨impl_Formula_solves_pc N, impl_assignments_own_pc N, trivial⟩
noncomputable def impl_Formula_solutions_code : Code := (Try.f149.body).getD .skip
noncomputable def impl_Formula_solutions (N : Nat) (f : (Int × (List (List Int)))) : Option (((List (List Int)) × Unit) × (Unit)) :=
  ((impl_assignments_own N f.1 (fun y0 => (impl_Formula_solves N (f.1, f.2) y0).bind fun z => some z.1.1)).bind fun r =>
    some ((r.1.1, ()), ()))
noncomputable def impl_Formula_solutions_S (N : Nat) : FSum := ⟨impl_Formula_solutions_ps, impl_Formula_solutions_rs, fun x => impl_Formula_solutions N x.1⟩
theorem impl_Formula_solutions_run (N : Nat) (x : argsT impl_Formula_solutions_ps) : impl_Formula_solutions N x.1 = funF (impl_Formula_solutions_G N) tab [] Try.f149 impl_Formula_solutions_ps impl_Formula_solutions_rs x := by kernel_rfl
theorem impl_Formula_solutions_pc (N : Nat) : PC Try.prog 149 (impl_Formula_solutions_S N) := by
  have e : impl_Formula_solutions_S N = ⟨impl_Formula_solutions_ps, impl_Formula_solutions_rs, funF (impl_Formula_solutions_G N) tab [] Try.f149 impl_Formula_solutions_ps impl_Formula_solutions_rs⟩ := congrArg (FSum.mk impl_Formula_solutions_ps impl_Formula_solutions_rs) (funext (impl_Formula_solutions_run N))
  rw [e]
  exact fun_ok (c := impl_Formula_solutions_code) progOk (impl_Formula_solutions_gok N) (draw_ok progOk (impl_Formula_solutions_gok N)) Try.call149 Try.func149 (by kernel_rfl) (lsOk_at (L := []) trivial) (by kernel_rfl) (by kernel_rfl) (by kernel_rfl) (by kernel_rfl) (by kernel_rfl)

/-! ### math_bits_Len64 -/
abbrev math_bits_Len64_ps : List (PV.Mode × Ty) := [(.ro, U64)]
abbrev math_bits_Len64_rs : List (Bool × Ty) := [(true, I)]
noncomputable def math_bits_Len64_G (N : Nat) : GTab := gOf []
theorem math_bits_Len64_gok (N : Nat) : GOk Try.prog (math_bits_Len64_G N) := gOf_ok trivial
noncomputable def math_bits_Len64_code : Code := (Try.f163.body).getD .skip
noncomputable def math_bits_Len64 (N : Nat) (x : Int) : Option ((Int × Unit) × (Unit)) :=
  (br (ile 4294967296 x)
    ((br (ile 65536 (shrI .u64 x 32))
      ((br (ile 256 (shrI .u64 (shrI .u64 x 32) 16))
        ((chk (strIn str0 (IntKind.u8.wrap ((shrI .u64 (shrI .u64 (shrI .u64 x 32) 16) 8))))
          (some (((IntKind.i64.wrap (56 + (IntKind.i64.wrap ((strAt str0 (IntKind.u8.wrap ((shrI .u64 (shrI .u64 (shrI .u64 x 32) 16) 8)))))))), ()), ()))))
        ((chk (strIn str0 (IntKind.u8.wrap ((shrI .u64 (shrI .u64 x 32) 16))))
          (some (((IntKind.i64.wrap (48 + (IntKind.i64.wrap ((strAt str0 (IntKind.u8.wrap ((shrI .u64 (shrI .u64 x 32) 16)))))))), ()), ()))))))
      ((br (ile 256 (shrI .u64 x 32))
        ((chk (strIn str0 (IntKind.u8.wrap ((shrI .u64 (shrI .u64 x 32) 8))))
          (some (((IntKind.i64.wrap (40 + (IntKind.i64.wrap ((strAt str0 (IntKind.u8.wrap ((shrI .u64 (shrI .u64 x 32) 8)))))))), ()), ()))))
        ((chk (strIn str0 (IntKind.u8.wrap ((shrI .u64 x 32))))
          (some (((IntKind.i64.wrap (32 + (IntKind.i64.wrap ((strAt str0 (IntKind.u8.wrap ((shrI .u64 x 32)))))))), ()), ()))))))))
    ((br (ile 65536 x)
      ((br (ile 256 (shrI .u64 x 16))
        ((chk (strIn str0 (IntKind.u8.wrap ((shrI .u64 (shrI .u64 x 16) 8))))
          (some (((IntKind.i64.wrap (24 + (IntKind.i64.wrap ((strAt str0 (IntKind.u8.wrap ((shrI .u64 (shrI .u64 x 16) 8)))))))), ()), ()))))
        ((chk (strIn str0 (IntKind.u8.wrap ((shrI .u64 x 16))))
          (some (((IntKind.i64.wrap (16 + (IntKind.i64.wrap ((strAt str0 (IntKind.u8.wrap ((shrI .u64 x 16)))))))), ()), ()))))))
      ((br (ile 256 x)
        ((chk (strIn str0 (IntKind.u8.wrap ((shrI .u64 x 8))))
          (some (((IntKind.i64.wrap (8 + (IntKind.i64.wrap ((strAt str0 (IntKind.u8.wrap ((shrI .u64 x 8)))))))), ()), ()))))
        ((chk (strIn str0 (IntKind.u8.wrap (x)))
          (some (((IntKind.i64.wrap (0 + (IntKind.i64.wrap ((strAt str0 (IntKind.u8.wrap (x))))))), ()), ())))))))))
noncomputable def math_bits_Len64_S (N : Nat) : FSum := ⟨math_bits_Len64_ps, math_bits_Len64_rs, fun x => math_bits_Len64 N x.1⟩
theorem math_bits_Len64_run (N : Nat) (x : argsT math_bits_Len64_ps) : math_bits_Len64 N x.1 = funF (math_bits_Len64_G N) tab [] Try.f163 math_bits_Len64_ps math_bits_Len64_rs x := by kernel_rfl
theorem math_bits_Len64_pc (N : Nat) : PC Try.prog 163 (math_bits_Len64_S N) := by
  have e : math_bits_Len64_S N = ⟨math_bits_Len64_ps, math_bits_Len64_rs, funF (math_bits_Len64_G N) tab [] Try.f163 math_bits_Len64_ps math_bits_Len64_rs⟩ := congrArg (FSum.mk math_bits_Len64_ps math_bits_Len64_rs) (funext (math_bits_Len64_run N))
  rw [e]
  exact fun_ok (c := math_bits_Len64_code) progOk (math_bits_Len64_gok N) (draw_ok progOk (math_bits_Len64_gok N)) Try.call163 Try.func163 (by kernel_rfl) (lsOk_at (L := []) trivial) (by kernel_rfl) (by kernel_rfl) (by kernel_rfl) (by kernel_rfl) (by kernel_rfl)

/-! ### math_bits_Len -/
abbrev math_bits_Len_ps : List (PV.Mode × Ty) := [(.ro, U64)]
abbrev math_bits_Len_rs : List (Bool × Ty) := [(true, I)]
noncomputable def math_bits_Len_G (N : Nat) : GTab := gOf [(163, math_bits_Len64_S N)]
theorem math_bits_Len_gok (N : Nat) : GOk Try.prog (math_bits_Len_G N) := gOf_ok ⟨math_bits_Len64_pc N, trivial⟩
noncomputable def math_bits_Len_code : Code := (Try.f127.body).getD .skip
noncomputable def math_bits_Len (N : Nat) (x : Int) : Option ((Int × Unit) × (Unit)) :=
  ((math_bits_Len64 N x).bind fun r =>
    some ((r.1.1, ()), ()))
noncomputable def math_bits_Len_S (N : Nat) : FSum := ⟨math_bits_Len_ps, math_bits_Len_rs, fun x => math_bits_Len N x.1⟩
theorem math_bits_Len_run (N : Nat) (x : argsT math_bits_Len_ps) : math_bits_Len N x.1 = funF (math_bits_Len_G N) tab [] Try.f127 math_bits_Len_ps math_bits_Len_rs x := by kernel_rfl
theorem math_bits_Len_pc (N : Nat) : PC Try.prog 127 (math_bits_Len_S N) := by
  have e : math_bits_Len_S N = ⟨math_bits_Len_ps, math_bits_Len_rs, funF (math_bits_Len_G N) tab [] Try.f127 math_bits_Len_ps math_bits_Len_rs⟩ := congrArg (FSum.mk math_bits_Len_ps math_bits_Len_rs) (funext (math_bits_Len_run N))
  rw [e]
  exact fun_ok (c := math_bits_Len_code) progOk (math_bits_Len_gok N) (draw_ok progOk (math_bits_Len_gok N)) Try.call127 Try.func127 (by kernel_rfl) (lsOk_at (L := []) trivial) (by kernel_rfl) (by kernel_rfl) (by kernel_rfl) (by kernel_rfl) (by kernel_rfl)

/-! ### slices_insertionSortCmpFunc_LI -/
abbrev slices_insertionSortCmpFunc_LI_ps : List (PV.Mode × Ty) := [(.ro, LLI), (.ro, I), (.ro, I), (.ro, GLILII)]
abbrev slices_insertionSortCmpFunc_LI_rs : List (Bool × Ty) := []
noncomputable def slices_insertionSortCmpFunc_LI_G (N : Nat) : GTab := gOf []
theorem slices_insertionSortCmpFunc_LI_gok (N : Nat) : GOk Try.prog (slices_insertionSortCmpFunc_LI_G N) := gOf_ok trivial
noncomputable def slices_insertionSortCmpFunc_LI_code : Code := (Try.f154.body).getD .skip
noncomputable def slices_insertionSortCmpFunc_LI_l0_0_sh : Sh := ⟨[(0, .one (.ro LLI)), (1, .one (.ro I)), (2, .one (.ro I)), (3, .one (.ro GLILII)), (8, .one (.ro I)), (9, .one (.ro I))], []⟩
noncomputable def slices_insertionSortCmpFunc_LI_l0_0_ex : List (Ex × Sh) := [(.exit 2, ⟨[(0, .one (.ro LLI)), (1, .one (.ro I)), (2, .one (.ro I)), (3, .one (.ro GLILII)), (8, .one (.ro I))], []⟩)]
noncomputable def slices_insertionSortCmpFunc_LI_l0_0 {R : Type} (N : Nat) (k0 : (List (List Int)) → Int → Int → ((List Int) → (List Int) → Option Int) → Int → Option R) : Nat → (List (List Int)) → Int → Int → ((List Int) → (List Int) → Option Int) → Int → Int → Option R
  | 0, _, _, _, _, _, _ => none
  | K + 1, data2, a2, b2, cmp2, i1, j =>
    (br (ilt a2 j)
      ((chk (inb data2 j)
        (chk (inb data2 (IntKind.i64.wrap (j - 1)))
        ((cmp2 (rdL data2 j) (rdL data2 (IntKind.i64.wrap (j - 1)))).bind fun v =>
        (br (ilt v 0)
        ((chk (inb data2 (IntKind.i64.wrap (j - 1)))
          (chk (inb data2 j)
          (chk (inb data2 j)
          none))))
        (k0 data2 a2 b2 cmp2 i1))))))
      (k0 data2 a2 b2 cmp2 i1))
noncomputable def slices_insertionSortCmpFunc_LI_l0_0_again {R : Type} (N : Nat) (ks : (j : Nat) → ((slices_insertionSortCmpFunc_LI_l0_0_ex.getD j (.ret, Sh.none)).2).T → Option R) (k : Nat) (x : slices_insertionSortCmpFunc_LI_l0_0_sh.T) : Option R :=
  slices_insertionSortCmpFunc_LI_l0_0 N (fun y0 y1 y2 y3 y4 => ks 0 ((y0, y1, y2, y3, y4, ()), ())) k x.1.1 x.1.2.1 x.1.2.2.1 x.1.2.2.2.1 x.1.2.2.2.2.1 x.1.2.2.2.2.2.1
noncomputable def slices_insertionSortCmpFunc_LI_l0_0_s (N : Nat) : LSum := ⟨slices_insertionSortCmpFunc_LI_l0_0_sh, slices_insertionSortCmpFunc_LI_l0_0_ex, fun x ks => slices_insertionSortCmpFunc_LI_l0_0_again N ks N x⟩
theorem slices_insertionSortCmpFunc_LI_l0_0_step (N : Nat) (R : Type) (k : Nat) (x : slices_insertionSortCmpFunc_LI_l0_0_sh.T) (ks : (j : Nat) → ((slices_insertionSortCmpFunc_LI_l0_0_ex.getD j (.ret, Sh.none)).2).T → Option R) : slices_insertionSortCmpFunc_LI_l0_0_again N ks (k + 1) x = roundF (slices_insertionSortCmpFunc_LI_G N) tab [] (loopAt (loopAt slices_insertionSortCmpFunc_LI_code 0) 0) slices_insertionSortCmpFunc_LI_l0_0_sh slices_insertionSortCmpFunc_LI_l0_0_ex (fun y => slices_insertionSortCmpFunc_LI_l0_0_again N ks k y) ks x := by kernel_rfl
theorem slices_insertionSortCmpFunc_LI_l0_0_ok (N : Nat) : LoopOk Try.prog Try.f154.ntmps (slices_insertionSortCmpFunc_LI_l0_0_s N) (loopAt (loopAt slices_insertionSortCmpFunc_LI_code 0) 0) :=
  loop_ok (l := slices_insertionSortCmpFunc_LI_l0_0_s N) progOk (slices_insertionSortCmpFunc_LI_gok N) (draw_ok progOk (slices_insertionSortCmpFunc_LI_gok N)) (fun R k x ks => slices_insertionSortCmpFunc_LI_l0_0_again N ks k x) (fun _ _ _ => rfl) (fun R k x ks => slices_insertionSortCmpFunc_LI_l0_0_step N R k x ks) (fun R x ks r h => ⟨N, h⟩) (lsOk_at (L := []) trivial) (by kernel_rfl) (by kernel_rfl)
noncomputable def slices_insertionSortCmpFunc_LI_l0_sh : Sh := ⟨[(0, .one (.ro LLI)), (1, .one (.ro I)), (2, .one (.ro I)), (3, .one (.ro GLILII)), (8, .one (.ro I))], []⟩
noncomputable def slices_insertionSortCmpFunc_LI_l0_ex : List (Ex × Sh) := [(.exit 0, ⟨[], []⟩)]
noncomputable def slices_insertionSortCmpFunc_LI_l0 {R : Type} (N : Nat) (k0 : Unit → Option R) : Nat → (List (List Int)) → Int → Int → ((List Int) → (List Int) → Option Int) → Int → Option R
  | 0, _, _, _, _, _ => none
  | K + 1, data1, a1, b1, cmp1, i =>
    (br (ilt i b1)
      (slices_insertionSortCmpFunc_LI_l0_0 N (fun data2 a2 b2 cmp2 i1 => slices_insertionSortCmpFunc_LI_l0 N k0 K data2 a2 b2 cmp2 (IntKind.i64.wrap (i1 + 1))) N data1 a1 b1 cmp1 i i)
      (k0 ()))
noncomputable def slices_insertionSortCmpFunc_LI_l0_again {R : Type} (N : Nat) (ks : (j : Nat) → ((slices_insertionSortCmpFunc_LI_l0_ex.getD j (.ret, Sh.none)).2).T → Option R) (k : Nat) (x : slices_insertionSortCmpFunc_LI_l0_sh.T) : Option R :=
  slices_insertionSortCmpFunc_LI_l0 N (fun (_ : Unit) => ks 0 ((), ())) k x.1.1 x.1.2.1 x.1.2.2.1 x.1.2.2.2.1 x.1.2.2.2.2.1
noncomputable def slices_insertionSortCmpFunc_LI_l0_s (N : Nat) : LSum := ⟨slices_insertionSortCmpFunc_LI_l0_sh, slices_insertionSortCmpFunc_LI_l0_ex, fun x ks => slices_insertionSortCmpFunc_LI_l0_again N ks N x⟩
theorem slices_insertionSortCmpFunc_LI_l0_step (N : Nat) (R : Type) (k : Nat) (x : slices_insertionSortCmpFunc_LI_l0_sh.T) (ks : (j : Nat) → ((slices_insertionSortCmpFunc_LI_l0_ex.getD j (.ret, Sh.none)).2).T → Option R) : slices_insertionSortCmpFunc_LI_l0_again N ks (k + 1) x = roundF (slices_insertionSortCmpFunc_LI_G N) tab [slices_insertionSortCmpFunc_LI_l0_0_s N] (loopAt slices_insertionSortCmpFunc_LI_code 0) slices_insertionSortCmpFunc_LI_l0_sh slices_insertionSortCmpFunc_LI_l0_ex (fun y => slices_insertionSortCmpFunc_LI_l0_again N ks k y) ks x := by kernel_rfl
theorem slices_insertionSortCmpFunc_LI_l0_ok (N : Nat) : LoopOk Try.prog Try.f154.ntmps (slices_insertionSortCmpFunc_LI_l0_s N) (loopAt slices_insertionSortCmpFunc_LI_code 0) :=
  loop_ok (l := slices_insertionSortCmpFunc_LI_l0_s N) progOk (slices_insertionSortCmpFunc_LI_gok N) (draw_ok progOk (slices_insertionSortCmpFunc_LI_gok N)) (fun R k x ks => slices_insertionSortCmpFunc_LI_l0_again N ks k x) (fun _ _ _ => rfl) (fun R k x ks => slices_insertionSortCmpFunc_LI_l0_step N R k x ks) (fun R x ks r h => ⟨N, h⟩) (lsOk_at (L := [slices_insertionSortCmpFunc_LI_l0_0_s N]) ⟨slices_insertionSortCmpFunc_LI_l0_0_ok N, trivial⟩) (by kernel_rfl) (by kernel_rfl)
noncomputable def slices_insertionSortCmpFunc_LI (N : Nat) (data : (List (List Int))) (a : Int) (b : Int) (cmp : ((List Int) → (List Int) → Option Int)) : Option ((Unit) × (Unit)) :=
  slices_insertionSortCmpFunc_LI_l0 N (fun (_ : Unit) => some ((), ())) N data a b cmp (IntKind.i64.wrap (a + 1))
noncomputable def slices_insertionSortCmpFunc_LI_S (N : Nat) : FSum := ⟨slices_insertionSortCmpFunc_LI_ps, slices_insertionSortCmpFunc_LI_rs, fun x => slices_insertionSortCmpFunc_LI N x.1 x.2.1 x.2.2.1 x.2.2.2.1⟩
theorem slices_insertionSortCmpFunc_LI_run (N : Nat) (x : argsT slices_insertionSortCmpFunc_LI_ps) : slices_insertionSortCmpFunc_LI N x.1 x.2.1 x.2.2.1 x.2.2.2.1 = funF (slices_insertionSortCmpFunc_LI_G N) tab [slices_insertionSortCmpFunc_LI_l0_s N] Try.f154 slices_insertionSortCmpFunc_LI_ps slices_insertionSortCmpFunc_LI_rs x := by kernel_rfl
theorem slices_insertionSortCmpFunc_LI_pc (N : Nat) : PC Try.prog 154 (slices_insertionSortCmpFunc_LI_S N) := by
  have e : slices_insertionSortCmpFunc_LI_S N = ⟨slices_insertionSortCmpFunc_LI_ps, slices_insertionSortCmpFunc_LI_rs, funF (slices_insertionSortCmpFunc_LI_G N) tab [slices_insertionSortCmpFunc_LI_l0_s N] Try.f154 slices_insertionSortCmpFunc_LI_ps slices_insertionSortCmpFunc_LI_rs⟩ := congrArg (FSum.mk slices_insertionSortCmpFunc_LI_ps slices_insertionSortCmpFunc_LI_rs) (funext (slices_insertionSortCmpFunc_LI_run N))
  rw [e]
  exact fun_ok (c := slices_insertionSortCmpFunc_LI_code) progOk (slices_insertionSortCmpFunc_LI_gok N) (draw_ok progOk (slices_insertionSortCmpFunc_LI_gok N)) Try.call154 Try.func154 (by kernel_rfl) (lsOk_at (L := [slices_insertionSortCmpFunc_LI_l0_s N]) ⟨slices_insertionSortCmpFunc_LI_l0_ok N, trivial⟩) (by kernel_rfl) (by kernel_rfl) (by kernel_rfl) (by kernel_rfl) (by kernel_rfl)

/-! ### slices_order2CmpFunc_LI -/
abbrev slices_order2CmpFunc_LI_ps : List (PV.Mode × Ty) := [(.ro, LLI), (.ro, I), (.ro, I), (.mut, BI), (.ro, GLILII)]
abbrev slices_order2CmpFunc_LI_rs : List (Bool × Ty) := [(true, I), (true, I)]
noncomputable def slices_order2CmpFunc_LI_G (N : Nat) : GTab := gOf []
theorem slices_order2CmpFunc_LI_gok (N : Nat) : GOk Try.prog (slices_order2CmpFunc_LI_G N) := gOf_ok trivial
noncomputable def slices_order2CmpFunc_LI_code : Code := (Try.f205.body).getD .skip
noncomputable def slices_order2CmpFunc_LI (N : Nat) (data : (List (List Int))) (a : Int) (b : Int) (swaps : Int) (cmp : ((List Int) → (List Int) → Option Int)) : Option ((Int × Int × Unit) × (Int × Unit)) :=
  (chk (inb data b)
    (chk (inb data a)
    ((cmp (rdL data b) (rdL data a)).bind fun v =>
    (br (ilt v 0)
    (some ((b, a, ()), ((IntKind.i64.wrap (swaps + 1)), ())))
    (some ((a, b, ()), (swaps, ())))))))
noncomputable def slices_order2CmpFunc_LI_S (N : Nat) : FSum := ⟨slices_order2CmpFunc_LI_ps, slices_order2CmpFunc_LI_rs, fun x => slices_order2CmpFunc_LI N x.1 x.2.1 x.2.2.1 x.2.2.2.1 x.2.2.2.2.1⟩
theorem slices_order2CmpFunc_LI_run (N : Nat) (x : argsT slices_order2CmpFunc_LI_ps) : slices_order2CmpFunc_LI N x.1 x.2.1 x.2.2.1 x.2.2.2.1 x.2.2.2.2.1 = funF (slices_order2CmpFunc_LI_G N) tab [] Try.f205 slices_order2CmpFunc_LI_ps slices_order2CmpFunc_LI_rs x := by kernel_rfl
theorem slices_order2CmpFunc_LI_pc (N : Nat) : PC Try.prog 205 (slices_order2CmpFunc_LI_S N) := by
  have e : slices_order2CmpFunc_LI_S N = ⟨slices_order2CmpFunc_LI_ps, slices_order2CmpFunc_LI_rs, funF (slices_order2CmpFunc_LI_G N) tab [] Try.f205 slices_order2CmpFunc_LI_ps slices_order2CmpFunc_LI_rs⟩ := congrArg (FSum.mk slices_order2CmpFunc_LI_ps slices_order2CmpFunc_LI_rs) (funext (slices_order2CmpFunc_LI_run N))
  rw [e]
  exact fun_ok (c := slices_order2CmpFunc_LI_code) progOk (slices_order2CmpFunc_LI_gok N) (draw_ok progOk (slices_order2CmpFunc_LI_gok N)) Try.call205 Try.func205 (by kernel_rfl) (lsOk_at (L := []) trivial) (by kernel_rfl) (by kernel_rfl) (by kernel_rfl) (by kernel_rfl) (by kernel_rfl)

/-! ### slices_medianCmpFunc_LI -/
abbrev slices_medianCmpFunc_LI_ps : List (PV.Mode × Ty) := [(.ro, LLI), (.ro, I), (.ro, I), (.ro, I), (.mut, BI), (.ro, GLILII)]
abbrev slices_medianCmpFunc_LI_rs : List (Bool × Ty) := [(true, I)]
noncomputable def slices_medianCmpFunc_LI_G (N : Nat) : GTab := gOf [(205, slices_order2CmpFunc_LI_S N)]
theorem slices_medianCmpFunc_LI_gok (N : Nat) : GOk Try.prog (slices_medianCmpFunc_LI_G N) := gOf_ok ⟨slices_order2CmpFunc_LI_pc N, trivial⟩
noncomputable def slices_medianCmpFunc_LI_code : Code := (Try.f192.body).getD .skip
noncomputable def slices_medianCmpFunc_LI (N : Nat) (data : (List (List Int))) (a : Int) (b : Int) (c : Int) (swaps : Int) (cmp : ((List Int) → (List Int) → Option Int)) : Option ((Int × Unit) × (Int × Unit)) :=
  ((slices_order2CmpFunc_LI N data a b swaps cmp).bind fun r =>
    ((slices_order2CmpFunc_LI N data r.1.2.1 c r.2.1 cmp).bind fun r1 =>
      ((slices_order2CmpFunc_LI N data r.1.1 r1.1.1 r1.2.1 cmp).bind fun r2 =>
        some ((r2.1.2.1, ()), (r2.2.1, ())))))
noncomputable def slices_medianCmpFunc_LI_S (N : Nat) : FSum := ⟨slices_medianCmpFunc_LI_ps, slices_medianCmpFunc_LI_rs, fun x => slices_medianCmpFunc_LI N x.1 x.2.1 x.2.2.1 x.2.2.2.1 x.2.2.2.2.1 x.2.2.2.2.2.1⟩
theorem slices_medianCmpFunc_LI_run (N : Nat) (x : argsT slices_medianCmpFunc_LI_ps) : slices_medianCmpFunc_LI N x.1 x.2.1 x.2.2.1 x.2.2.2.1 x.2.2.2.2.1 x.2.2.2.2.2.1 = funF (slices_medianCmpFunc_LI_G N) tab [] Try.f192 slices_medianCmpFunc_LI_ps slices_medianCmpFunc_LI_rs x := by kernel_rfl
theorem slices_medianCmpFunc_LI_pc (N : Nat) : PC Try.prog 192 (slices_medianCmpFunc_LI_S N) := by
  have e : slices_medianCmpFunc_LI_S N = ⟨slices_medianCmpFunc_LI_ps, slices_medianCmpFunc_LI_rs, funF (slices_medianCmpFunc_LI_G N) tab [] Try.f192 slices_medianCmpFunc_LI_ps slices_medianCmpFunc_LI_rs⟩ := congrArg (FSum.mk slices_medianCmpFunc_LI_ps slices_medianCmpFunc_LI_rs) (funext (slices_medianCmpFunc_LI_run N))
  rw [e]
  exact fun_ok (c := slices_medianCmpFunc_LI_code) progOk (slices_medianCmpFunc_LI_gok N) (draw_ok progOk (slices_medianCmpFunc_LI_gok N)) Try.call192 Try.func192 (by kernel_rfl) (lsOk_at (L := []) trivial) (by kernel_rfl) (by kernel_rfl) (by kernel_rfl) (by kernel_rfl) (by kernel_rfl)

/-! ### slices_medianAdjacentCmpFunc_LI -/
abbrev slices_medianAdjacentCmpFunc_LI_ps : List (PV.Mode × Ty) := [(.ro, LLI), (.ro, I), (.mut, BI), (.ro, GLILII)]
abbrev slices_medianAdjacentCmpFunc_LI_rs : List (Bool × Ty) := [(true, I)]
noncomputable def slices_medianAdjacentCmpFunc_LI_G (N : Nat) : GTab := gOf [(192, slices_medianCmpFunc_LI_S N)]
theorem slices_medianAdjacentCmpFunc_LI_gok (N : Nat) : GOk Try.prog (slices_medianAdjacentCmpFunc_LI_G N) := gOf_ok ⟨slices_medianCmpFunc_LI_pc N, trivial⟩
noncomputable def slices_medianAdjacentCmpFunc_LI_code : Code := (Try.f191.body).getD .skip
noncomputable def slices_medianAdjacentCmpFunc_LI (N : Nat) (data : (List (List Int))) (a : Int) (swaps : Int) (cmp : ((List Int) → (List Int) → Option Int)) : Option ((Int × Unit) × (Int × Unit)) :=
  ((slices_medianCmpFunc_LI N data (IntKind.i64.wrap (a - 1)) a (IntKind.i64.wrap (a + 1)) swaps cmp).bind fun r =>
    some ((r.1.1, ()), (r.2.1, ())))
noncomputable def slices_medianAdjacentCmpFunc_LI_S (N : Nat) : FSum := ⟨slices_medianAdjacentCmpFunc_LI_ps, slices_medianAdjacentCmpFunc_LI_rs, fun x => slices_medianAdjacentCmpFunc_LI N x.1 x.2.1 x.2.2.1 x.2.2.2.1⟩
theorem slices_medianAdjacentCmpFunc_LI_run (N : Nat) (x : argsT slices_medianAdjacentCmpFunc_LI_ps) : slices_medianAdjacentCmpFunc_LI N x.1 x.2.1 x.2.2.1 x.2.2.2.1 = funF (slices_medianAdjacentCmpFunc_LI_G N) tab [] Try.f191 slices_medianAdjacentCmpFunc_LI_ps slices_medianAdjacentCmpFunc_LI_rs x := by kernel_rfl
theorem slices_medianAdjacentCmpFunc_LI_pc (N : Nat) : PC Try.prog 191 (slices_medianAdjacentCmpFunc_LI_S N) := by
  have e : slices_medianAdjacentCmpFunc_LI_S N = ⟨slices_medianAdjacentCmpFunc_LI_ps, slices_medianAdjacentCmpFunc_LI_rs, funF (slices_medianAdjacentCmpFunc_LI_G N) tab [] Try.f191 slices_medianAdjacentCmpFunc_LI_ps slices_medianAdjacentCmpFunc_LI_rs⟩ := congrArg (FSum.mk slices_medianAdjacentCmpFunc_LI_ps slices_medianAdjacentCmpFunc_LI_rs) (funext (slices_medianAdjacentCmpFunc_LI_run N))
  rw [e]
  exact fun_ok (c := slices_medianAdjacentCmpFunc_LI_code) progOk (slices_medianAdjacentCmpFunc_LI_gok N) (draw_ok progOk (slices_medianAdjacentCmpFunc_LI_gok N)) Try.call191 Try.func191 (by kernel_rfl) (lsOk_at (L := []) trivial) (by kernel_rfl) (by kernel_rfl) (by kernel_rfl) (by kernel_rfl) (by kernel_rfl)

/-! ### slices_choosePivotCmpFunc_LI -/
abbrev slices_choosePivotCmpFunc_LI_ps : List (PV.Mode × Ty) := [(.ro, LLI), (.ro, I), (.ro, I), (.ro, GLILII)]
abbrev slices_choosePivotCmpFunc_LI_rs : List (Bool × Ty) := [(true, I), (true, I)]
noncomputable def slices_choosePivotCmpFunc_LI_G (N : Nat) : GTab := gOf [(191, slices_medianAdjacentCmpFunc_LI_S N), (192, slices_medianCmpFunc_LI_S N)]
theorem slices_choosePivotCmpFunc_LI_gok (N : Nat) : GOk Try.prog (slices_choosePivotCmpFunc_LI_G N) := gOf_ok ⟨slices_medianAdjacentCmpFunc_LI_pc N, slices_medianCmpFunc_LI_pc N, trivial⟩
noncomputable def slices_choosePivotCmpFunc_LI_code : Code := (Try.f157.body).getD .skip
noncomputable def slices_choosePivotCmpFunc_LI (N : Nat) (data : (List (List Int))) (a : Int) (b : Int) (cmp : ((List Int) → (List Int) → Option Int)) : Option ((Int × Int × Unit) × (Unit)) :=
  (br (ile 8 (IntKind.i64.wrap (b - a)))
    ((br (ile 50 (IntKind.i64.wrap (b - a)))
      (((slices_medianAdjacentCmpFunc_LI N data (IntKind.i64.wrap (a + (IntKind.i64.wrap ((IntKind.i64.wrap ((IntKind.i64.wrap (b - a)).tdiv 4)) * 1)))) 0 cmp).bind fun r =>
        ((slices_medianAdjacentCmpFunc_LI N data (IntKind.i64.wrap (a + (IntKind.i64.wrap ((IntKind.i64.wrap ((IntKind.i64.wrap (b - a)).tdiv 4)) * 2)))) r.2.1 cmp).bind fun r1 =>
          ((slices_medianAdjacentCmpFunc_LI N data (IntKind.i64.wrap (a + (IntKind.i64.wrap ((IntKind.i64.wrap ((IntKind.i64.wrap (b - a)).tdiv 4)) * 3)))) r1.2.1 cmp).bind fun r2 =>
            ((slices_medianCmpFunc_LI N data r.1.1 r1.1.1 r2.1.1 r2.2.1 cmp).bind fun r3 =>
              (br (ieq r3.2.1 0)
                (some ((r3.1.1, 1, ()), ()))
                ((br (ieq r3.2.1 12)
                  (some ((r3.1.1, 2, ()), ()))
                  (some ((r3.1.1, 0, ()), ()))))))))))
      (((slices_medianCmpFunc_LI N data (IntKind.i64.wrap (a + (IntKind.i64.wrap ((IntKind.i64.wrap ((IntKind.i64.wrap (b - a)).tdiv 4)) * 1)))) (IntKind.i64.wrap (a + (IntKind.i64.wrap ((IntKind.i64.wrap ((IntKind.i64.wrap (b - a)).tdiv 4)) * 2)))) (IntKind.i64.wrap (a + (IntKind.i64.wrap ((IntKind.i64.wrap ((IntKind.i64.wrap (b - a)).tdiv 4)) * 3)))) 0 cmp).bind fun r4 =>
        (br (ieq r4.2.1 0)
          (some ((r4.1.1, 1, ()), ()))
          ((br (ieq r4.2.1 12)
            (some ((r4.1.1, 2, ()), ()))
            (some ((r4.1.1, 0, ()), ())))))))))
    (some (((IntKind.i64.wrap (a + (IntKind.i64.wrap ((IntKind.i64.wrap ((IntKind.i64.wrap (b - a)).tdiv 4)) * 2)))), 1, ()), ())))
noncomputable def slices_choosePivotCmpFunc_LI_S (N : Nat) : FSum := ⟨slices_choosePivotCmpFunc_LI_ps, slices_choosePivotCmpFunc_LI_rs, fun x => slices_choosePivotCmpFunc_LI N x.1 x.2.1 x.2.2.1 x.2.2.2.1⟩
theorem slices_choosePivotCmpFunc_LI_run (N : Nat) (x : argsT slices_choosePivotCmpFunc_LI_ps) : slices_choosePivotCmpFunc_LI N x.1 x.2.1 x.2.2.1 x.2.2.2.1 = funF (slices_choosePivotCmpFunc_LI_G N) tab [] Try.f157 slices_choosePivotCmpFunc_LI_ps slices_choosePivotCmpFunc_LI_rs x := by kernel_rfl
theorem slices_choosePivotCmpFunc_LI_pc (N : Nat) : PC Try.prog 157 (slices_choosePivotCmpFunc_LI_S N) := by
  have e : slices_choosePivotCmpFunc_LI_S N = ⟨slices_choosePivotCmpFunc_LI_ps, slices_choosePivotCmpFunc_LI_rs, funF (slices_choosePivotCmpFunc_LI_G N) tab [] Try.f157 slices_choosePivotCmpFunc_LI_ps slices_choosePivotCmpFunc_LI_rs⟩ := congrArg (FSum.mk slices_choosePivotCmpFunc_LI_ps slices_choosePivotCmpFunc_LI_rs) (funext (slices_choosePivotCmpFunc_LI_run N))
  rw [e]
  exact fun_ok (c := slices_choosePivotCmpFunc_LI_code) progOk (slices_choosePivotCmpFunc_LI_gok N) (draw_ok progOk (slices_choosePivotCmpFunc_LI_gok N)) Try.call157 Try.func157 (by kernel_rfl) (lsOk_at (L := []) trivial) (by kernel_rfl) (by kernel_rfl) (by kernel_rfl) (by kernel_rfl) (by kernel_rfl)

/-! ### slices_partialInsertionSortCmpFunc_LI -/
abbrev slices_partialInsertionSortCmpFunc_LI_ps : List (PV.Mode × Ty) := [(.ro, LLI), (.ro, I), (.ro, I), (.ro, GLILII)]
abbrev slices_partialInsertionSortCmpFunc_LI_rs : List (Bool × Ty) := [(true, .bool)]
noncomputable def slices_partialInsertionSortCmpFunc_LI_G (N : Nat) : GTab := gOf []
theorem slices_partialInsertionSortCmpFunc_LI_gok (N : Nat) : GOk Try.prog (slices_partialInsertionSortCmpFunc_LI_G N) := gOf_ok trivial
noncomputable def slices_partialInsertionSortCmpFunc_LI_code : Code := (Try.f159.body).getD .skip
noncomputable def slices_partialInsertionSortCmpFunc_LI_l0_0_sh : Sh := ⟨[(0, .one (.ro LLI)), (1, .one (.ro I)), (2, .one (.ro I)), (3, .one (.ro GLILII)), (9, .one (.ro I)), (10, .one (.ro I))], []⟩
noncomputable def slices_partialInsertionSortCmpFunc_LI_l0_0_ex : List (Ex × Sh) := [(.exit 2, ⟨[(0, .one (.ro LLI)), (1, .one (.ro I)), (2, .one (.ro I)), (3, .one (.ro GLILII)), (9, .one (.ro I)), (10, .one (.ro I))], []⟩)]
noncomputable def slices_partialInsertionSortCmpFunc_LI_l0_0 {R : Type} (N : Nat) (k0 : (List (List Int)) → Int → Int → ((List Int) → (List Int) → Option Int) → Int → Int → Option R) : Nat → (List (List Int)) → Int → Int → ((List Int) → (List Int) → Option Int) → Int → Int → Option R
  | 0, _, _, _, _, _, _ => none
  | K + 1, x6, x7, x8, x9, x10, x11 =>
    (br (ilt x10 x8)
      ((chk (inb x6 x10)
        (chk (inb x6 (IntKind.i64.wrap (x10 - 1)))
        ((x9 (rdL x6 x10) (rdL x6 (IntKind.i64.wrap (x10 - 1)))).bind fun v =>
        (br (!(ilt v 0))
        (slices_partialInsertionSortCmpFunc_LI_l0_0 N k0 K x6 x7 x8 x9 (IntKind.i64.wrap (x10 + 1)) x11)
        (k0 x6 x7 x8 x9 x10 x11))))))
      (k0 x6 x7 x8 x9 x10 x11))
noncomputable def slices_partialInsertionSortCmpFunc_LI_l0_0_again {R : Type} (N : Nat) (ks : (j : Nat) → ((slices_partialInsertionSortCmpFunc_LI_l0_0_ex.getD j (.ret, Sh.none)).2).T → Option R) (k : Nat) (x : slices_partialInsertionSortCmpFunc_LI_l0_0_sh.T) : Option R :=
  slices_partialInsertionSortCmpFunc_LI_l0_0 N (fun y0 y1 y2 y3 y4 y5 => ks 0 ((y0, y1, y2, y3, y4, y5, ()), ())) k x.1.1 x.1.2.1 x.1.2.2.1 x.1.2.2.2.1 x.1.2.2.2.2.1 x.1.2.2.2.2.2.1
noncomputable def slices_partialInsertionSortCmpFunc_LI_l0_0_s (N : Nat) : LSum := ⟨slices_partialInsertionSortCmpFunc_LI_l0_0_sh, slices_partialInsertionSortCmpFunc_LI_l0_0_ex, fun x ks => slices_partialInsertionSortCmpFunc_LI_l0_0_again N ks N x⟩
theorem slices_partialInsertionSortCmpFunc_LI_l0_0_step (N : Nat) (R : Type) (k : Nat) (x : slices_partialInsertionSortCmpFunc_LI_l0_0_sh.T) (ks : (j : Nat) → ((slices_partialInsertionSortCmpFunc_LI_l0_0_ex.getD j (.ret, Sh.none)).2).T → Option R) : slices_partialInsertionSortCmpFunc_LI_l0_0_again N ks (k + 1) x = roundF (slices_partialInsertionSortCmpFunc_LI_G N) tab [] (loopAt (loopAt slices_partialInsertionSortCmpFunc_LI_code 0) 0) slices_partialInsertionSortCmpFunc_LI_l0_0_sh slices_partialInsertionSortCmpFunc_LI_l0_0_ex (fun y => slices_partialInsertionSortCmpFunc_LI_l0_0_again N ks k y) ks x := by kernel_rfl
theorem slices_partialInsertionSortCmpFunc_LI_l0_0_ok (N : Nat) : LoopOk Try.prog Try.f159.ntmps (slices_partialInsertionSortCmpFunc_LI_l0_0_s N) (loopAt (loopAt slices_partialInsertionSortCmpFunc_LI_code 0) 0) :=
  loop_ok (l := slices_partialInsertionSortCmpFunc_LI_l0_0_s N) progOk (slices_partialInsertionSortCmpFunc_LI_gok N) (draw_ok progOk (slices_partialInsertionSortCmpFunc_LI_gok N)) (fun R k x ks => slices_partialInsertionSortCmpFunc_LI_l0_0_again N ks k x) (fun _ _ _ => rfl) (fun R k x ks => slices_partialInsertionSortCmpFunc_LI_l0_0_step N R k x ks) (fun R x ks r h => ⟨N, h⟩) (lsOk_at (L := []) trivial) (by kernel_rfl) (by kernel_rfl)
noncomputable def slices_partialInsertionSortCmpFunc_LI_l0_sh : Sh := ⟨[(0, .one (.ro LLI)), (1, .one (.ro I)), (2, .one (.ro I)), (3, .one (.ro GLILII)), (9, .one (.ro I)), (10, .one (.ro I))], []⟩
noncomputable def slices_partialInsertionSortCmpFunc_LI_l0_ex : List (Ex × Sh) := [(.ret, ⟨[(8, .one (.ro .bool))], []⟩), (.exit 0, ⟨[], []⟩)]
noncomputable def slices_partialInsertionSortCmpFunc_LI_l0 {R : Type} (N : Nat) (k0 : Bool → Option R) (k1 : Unit → Option R) : Nat → (List (List Int)) → Int → Int → ((List Int) → (List Int) → Option Int) → Int → Int → Option R
  | 0, _, _, _, _, _, _ => none
  | K + 1, x, x1, x2, x3, x4, x5 =>
    (br (ilt x5 5)
      (slices_partialInsertionSortCmpFunc_LI_l0_0 N (fun x6 x7 x8 x9 x10 x11 => (br (ieq x10 x8)
        (k0 true)
        ((br (ilt (IntKind.i64.wrap (x8 - x7)) 50)
          (k0 false)
          ((chk (inb x6 (IntKind.i64.wrap (x10 - 1)))
            (chk (inb x6 x10)
            (chk (inb x6 x10)
            none)))))))) N x x1 x2 x3 x4 x5)
      (k1 ()))
noncomputable def slices_partialInsertionSortCmpFunc_LI_l0_again {R : Type} (N : Nat) (ks : (j : Nat) → ((slices_partialInsertionSortCmpFunc_LI_l0_ex.getD j (.ret, Sh.none)).2).T → Option R) (k : Nat) (x : slices_partialInsertionSortCmpFunc_LI_l0_sh.T) : Option R :=
  slices_partialInsertionSortCmpFunc_LI_l0 N (fun y0 => ks 0 ((y0, ()), ())) (fun (_ : Unit) => ks 1 ((), ())) k x.1.1 x.1.2.1 x.1.2.2.1 x.1.2.2.2.1 x.1.2.2.2.2.1 x.1.2.2.2.2.2.1
noncomputable def slices_partialInsertionSortCmpFunc_LI_l0_s (N : Nat) : LSum := ⟨slices_partialInsertionSortCmpFunc_LI_l0_sh, slices_partialInsertionSortCmpFunc_LI_l0_ex, fun x ks => slices_partialInsertionSortCmpFunc_LI_l0_again N ks N x⟩
theorem slices_partialInsertionSortCmpFunc_LI_l0_step (N : Nat) (R : Type) (k : Nat) (x : slices_partialInsertionSortCmpFunc_LI_l0_sh.T) (ks : (j : Nat) → ((slices_partialInsertionSortCmpFunc_LI_l0_ex.getD j (.ret, Sh.none)).2).T → Option R) : slices_partialInsertionSortCmpFunc_LI_l0_again N ks (k + 1) x = roundF (slices_partialInsertionSortCmpFunc_LI_G N) tab [slices_partialInsertionSortCmpFunc_LI_l0_0_s N] (loopAt slices_partialInsertionSortCmpFunc_LI_code 0) slices_partialInsertionSortCmpFunc_LI_l0_sh slices_partialInsertionSortCmpFunc_LI_l0_ex (fun y => slices_partialInsertionSortCmpFunc_LI_l0_again N ks k y) ks x := by kernel_rfl
theorem slices_partialInsertionSortCmpFunc_LI_l0_ok (N : Nat) : LoopOk Try.prog Try.f159.ntmps (slices_partialInsertionSortCmpFunc_LI_l0_s N) (loopAt slices_partialInsertionSortCmpFunc_LI_code 0) :=
  loop_ok (l := slices_partialInsertionSortCmpFunc_LI_l0_s N) progOk (slices_partialInsertionSortCmpFunc_LI_gok N) (draw_ok progOk (slices_partialInsertionSortCmpFunc_LI_gok N)) (fun R k x ks => slices_partialInsertionSortCmpFunc_LI_l0_again N ks k x) (fun _ _ _ => rfl) (fun R k x ks => slices_partialInsertionSortCmpFunc_LI_l0_step N R k x ks) (fun R x ks r h => ⟨N, h⟩) (lsOk_at (L := [slices_partialInsertionSortCmpFunc_LI_l0_0_s N]) ⟨slices_partialInsertionSortCmpFunc_LI_l0_0_ok N, trivial⟩) (by kernel_rfl) (by kernel_rfl)
noncomputable def slices_partialInsertionSortCmpFunc_LI (N : Nat) (c : (List (List Int))) (c1 : Int) (c2 : Int) (c3 : ((List Int) → (List Int) → Option Int)) : Option ((Bool × Unit) × (Unit)) :=
  slices_partialInsertionSortCmpFunc_LI_l0 N (fun x => some ((x, ()), ())) (fun (_ : Unit) => some ((false, ()), ())) N c c1 c2 c3 (IntKind.i64.wrap (c1 + 1)) 0
noncomputable def slices_partialInsertionSortCmpFunc_LI_S (N : Nat) : FSum := ⟨slices_partialInsertionSortCmpFunc_LI_ps, slices_partialInsertionSortCmpFunc_LI_rs, fun x => slices_partialInsertionSortCmpFunc_LI N x.1 x.2.1 x.2.2.1 x.2.2.2.1⟩
theorem slices_partialInsertionSortCmpFunc_LI_run (N : Nat) (x : argsT slices_partialInsertionSortCmpFunc_LI_ps) : slices_partialInsertionSortCmpFunc_LI N x.1 x.2.1 x.2.2.1 x.2.2.2.1 = funF (slices_partialInsertionSortCmpFunc_LI_G N) tab [slices_partialInsertionSortCmpFunc_LI_l0_s N] Try.f159 slices_partialInsertionSortCmpFunc_LI_ps slices_partialInsertionSortCmpFunc_LI_rs x := by kernel_rfl
theorem slices_partialInsertionSortCmpFunc_LI_pc (N : Nat) : PC Try.prog 159 (slices_partialInsertionSortCmpFunc_LI_S N) := by
  have e : slices_partialInsertionSortCmpFunc_LI_S N = ⟨slices_partialInsertionSortCmpFunc_LI_ps, slices_partialInsertionSortCmpFunc_LI_rs, funF (slices_partialInsertionSortCmpFunc_LI_G N) tab [slices_partialInsertionSortCmpFunc_LI_l0_s N] Try.f159 slices_partialInsertionSortCmpFunc_LI_ps slices_partialInsertionSortCmpFunc_LI_rs⟩ := congrArg (FSum.mk slices_partialInsertionSortCmpFunc_LI_ps slices_partialInsertionSortCmpFunc_LI_rs) (funext (slices_partialInsertionSortCmpFunc_LI_run N))
  rw [e]
  exact fun_ok (c := slices_partialInsertionSortCmpFunc_LI_code) progOk (slices_partialInsertionSortCmpFunc_LI_gok N) (draw_ok progOk (slices_partialInsertionSortCmpFunc_LI_gok N)) Try.call159 Try.func159 (by kernel_rfl) (lsOk_at (L := [slices_partialInsertionSortCmpFunc_LI_l0_s N]) ⟨slices_partialInsertionSortCmpFunc_LI_l0_ok N, trivial⟩) (by kernel_rfl) (by kernel_rfl) (by kernel_rfl) (by kernel_rfl) (by kernel_rfl)
end Go.Proofs.Ytgelipdkheahdaa
