/- Functions of the program as functions on data. -/
import Derived.Test.YthkejedgfhjdiaaStillNodesFa
set_option linter.all false
namespace Go.Proofs.Ythkejedgfhjdiaa
open Go Go.PV
/-! ### slices_IndexFunc_LI_int -/
noncomputable def slices_IndexFunc_LI_int_G (N : Nat) : GTab := gOf []
theorem slices_IndexFunc_LI_int_gok (N : Nat) : GOk Try.prog (slices_IndexFunc_LI_int_G N) := gOf_ok trivial
noncomputable def slices_IndexFunc_LI_int_code : Code := (Try.f165.body).getD .skip
noncomputable def slices_IndexFunc_LI_int_l0_sh : Sh := ⟨[(0, .one (.ro LI)), (1, .one (.ro FIBo)), (7, .one (.ro I)), (8, .one (.ro I))], []⟩
noncomputable def slices_IndexFunc_LI_int_l0_ex : List (Ex × Sh) := [(.ret, ⟨[(4, .one (.ro I))], []⟩), (.exit 0, ⟨[], []⟩)]
noncomputable def slices_IndexFunc_LI_int_l0 {R : Type} (N : Nat) (k0 : Int → Option R) (k1 : Unit → Option R) : Nat → (List Int) → (Int → Option Bool) → Int → Int → Option R
  | 0, _, _, _, _ => none
  | K + 1, s1, f1, x, x1 =>
    (br (ilt x1 x)
      ((chk (inb s1 x1)
        ((f1 (rdI s1 x1)).bind fun v =>
        (br v
        (k0 x1)
        (slices_IndexFunc_LI_int_l0 N k0 k1 K s1 f1 x (IntKind.i64.wrap (x1 + 1)))))))
      (k1 ()))
noncomputable def slices_IndexFunc_LI_int_l0_again {R : Type} (N : Nat) (ks : (j : Nat) → ((slices_IndexFunc_LI_int_l0_ex.getD j (.ret, Sh.none)).2).T → Option R) (k : Nat) (x : slices_IndexFunc_LI_int_l0_sh.T) : Option R :=
  slices_IndexFunc_LI_int_l0 N (fun y0 => ks 0 ((y0, ()), ())) (fun (_ : Unit) => ks 1 ((), ())) k x.1.1 x.1.2.1 x.1.2.2.1 x.1.2.2.2.1
noncomputable def slices_IndexFunc_LI_int_l0_s (N : Nat) : LSum := ⟨slices_IndexFunc_LI_int_l0_sh, slices_IndexFunc_LI_int_l0_ex, fun x ks => slices_IndexFunc_LI_int_l0_again N ks N x⟩
theorem slices_IndexFunc_LI_int_l0_step (N : Nat) (R : Type) (k : Nat) (x : slices_IndexFunc_LI_int_l0_sh.T) (ks : (j : Nat) → ((slices_IndexFunc_LI_int_l0_ex.getD j (.ret, Sh.none)).2).T → Option R) : slices_IndexFunc_LI_int_l0_again N ks (k + 1) x = roundF (slices_IndexFunc_LI_int_G N) tab [] (loopAt slices_IndexFunc_LI_int_code 0) slices_IndexFunc_LI_int_l0_sh slices_IndexFunc_LI_int_l0_ex (fun y => slices_IndexFunc_LI_int_l0_again N ks k y) ks x := by kernel_rfl
theorem slices_IndexFunc_LI_int_l0_ok (N : Nat) : LoopOk Try.prog Try.f165.ntmps (slices_IndexFunc_LI_int_l0_s N) (loopAt slices_IndexFunc_LI_int_code 0) :=
  loop_ok (l := slices_IndexFunc_LI_int_l0_s N) progOk (slices_IndexFunc_LI_int_gok N) (draw_ok progOk (slices_IndexFunc_LI_int_gok N)) (fun R k x ks => slices_IndexFunc_LI_int_l0_again N ks k x) (fun _ _ _ => rfl) (fun R k x ks => slices_IndexFunc_LI_int_l0_step N R k x ks) (fun R x ks r h => ⟨N, h⟩) (lsOk_at (L := []) trivial) (by kernel_rfl) (by kernel_rfl)
noncomputable def slices_IndexFunc_LI_int (N : Nat) (s : (List Int)) (f : (Int → Option Bool)) : Option ((Int × Unit) × (Unit)) :=
  slices_IndexFunc_LI_int_l0 N (fun x => some ((x, ()), ())) (fun (_ : Unit) => some (((-1), ()), ())) N s f (tLen s) 0
abbrev slices_IndexFunc_LI_int_ps : List (PV.Mode × Ty) := [(.ro, LI), (.ro, FIBo)]
abbrev slices_IndexFunc_LI_int_rs : List (Bool × Ty) := [(true, I)]
noncomputable def slices_IndexFunc_LI_int_S (N : Nat) : FSum := ⟨slices_IndexFunc_LI_int_ps, slices_IndexFunc_LI_int_rs, fun x => slices_IndexFunc_LI_int N x.1 x.2.1⟩
theorem slices_IndexFunc_LI_int_run (N : Nat) (x : argsT slices_IndexFunc_LI_int_ps) : slices_IndexFunc_LI_int N x.1 x.2.1 = funF (slices_IndexFunc_LI_int_G N) tab [slices_IndexFunc_LI_int_l0_s N] Try.f165 slices_IndexFunc_LI_int_ps slices_IndexFunc_LI_int_rs x := by kernel_rfl
theorem slices_IndexFunc_LI_int_pc (N : Nat) : PC Try.prog 165 (slices_IndexFunc_LI_int_S N) := by
  have e : slices_IndexFunc_LI_int_S N = ⟨slices_IndexFunc_LI_int_ps, slices_IndexFunc_LI_int_rs, funF (slices_IndexFunc_LI_int_G N) tab [slices_IndexFunc_LI_int_l0_s N] Try.f165 slices_IndexFunc_LI_int_ps slices_IndexFunc_LI_int_rs⟩ := congrArg (FSum.mk slices_IndexFunc_LI_int_ps slices_IndexFunc_LI_int_rs) (funext (slices_IndexFunc_LI_int_run N))
  rw [e]
  exact fun_ok (c := slices_IndexFunc_LI_int_code) progOk (slices_IndexFunc_LI_int_gok N) (draw_ok progOk (slices_IndexFunc_LI_int_gok N)) Try.call165 Try.func165 (by kernel_rfl) (lsOk_at (L := [slices_IndexFunc_LI_int_l0_s N]) ⟨slices_IndexFunc_LI_int_l0_ok N, trivial⟩) (by kernel_rfl) (by kernel_rfl) (by kernel_rfl) (by kernel_rfl) (by kernel_rfl)

/-! ### slices_ContainsFunc_LI_int -/
noncomputable def slices_ContainsFunc_LI_int_G (N : Nat) : GTab := gOf [(165, slices_IndexFunc_LI_int_S N)]
theorem slices_ContainsFunc_LI_int_gok (N : Nat) : GOk Try.prog (slices_ContainsFunc_LI_int_G N) := gOf_ok ⟨slices_IndexFunc_LI_int_pc N, trivial⟩
noncomputable def slices_ContainsFunc_LI_int_code : Code := (Try.f130.body).getD .skip
noncomputable def slices_ContainsFunc_LI_int (N : Nat) (s : (List Int)) (f : (Int → Option Bool)) : Option ((Bool × Unit) × (Unit)) :=
  ((slices_IndexFunc_LI_int N s f).bind fun r =>
    some (((ile 0 r.1.1), ()), ()))
abbrev slices_ContainsFunc_LI_int_ps : List (PV.Mode × Ty) := [(.ro, LI), (.ro, FIBo)]
abbrev slices_ContainsFunc_LI_int_rs : List (Bool × Ty) := [(true, .bool)]
noncomputable def slices_ContainsFunc_LI_int_S (N : Nat) : FSum := ⟨slices_ContainsFunc_LI_int_ps, slices_ContainsFunc_LI_int_rs, fun x => slices_ContainsFunc_LI_int N x.1 x.2.1⟩
theorem slices_ContainsFunc_LI_int_run (N : Nat) (x : argsT slices_ContainsFunc_LI_int_ps) : slices_ContainsFunc_LI_int N x.1 x.2.1 = funF (slices_ContainsFunc_LI_int_G N) tab [] Try.f130 slices_ContainsFunc_LI_int_ps slices_ContainsFunc_LI_int_rs x := by kernel_rfl
theorem slices_ContainsFunc_LI_int_pc (N : Nat) : PC Try.prog 130 (slices_ContainsFunc_LI_int_S N) := by
  have e : slices_ContainsFunc_LI_int_S N = ⟨slices_ContainsFunc_LI_int_ps, slices_ContainsFunc_LI_int_rs, funF (slices_ContainsFunc_LI_int_G N) tab [] Try.f130 slices_ContainsFunc_LI_int_ps slices_ContainsFunc_LI_int_rs⟩ := congrArg (FSum.mk slices_ContainsFunc_LI_int_ps slices_ContainsFunc_LI_int_rs) (funext (slices_ContainsFunc_LI_int_run N))
  rw [e]
  exact fun_ok (c := slices_ContainsFunc_LI_int_code) progOk (slices_ContainsFunc_LI_int_gok N) (draw_ok progOk (slices_ContainsFunc_LI_int_gok N)) Try.call130 Try.func130 (by kernel_rfl) (lsOk_at (L := []) trivial) (by kernel_rfl) (by kernel_rfl) (by kernel_rfl) (by kernel_rfl) (by kernel_rfl)

/-! ### impl_Graph_isColouring_c1 -/
noncomputable def impl_Graph_isColouring_c1_G (N : Nat) : GTab := gOf [(64, impl_between_S N)]
theorem impl_Graph_isColouring_c1_gok (N : Nat) : GOk Try.prog (impl_Graph_isColouring_c1_G N) := gOf_ok ⟨impl_between_pc N, trivial⟩
noncomputable def impl_Graph_isColouring_c1_code : Code := (Try.f169.body).getD .skip
noncomputable def impl_Graph_isColouring_c1 (N : Nat) (c : Int) (c1 : Int) : Option ((Bool × Unit) × (Unit)) :=
  ((impl_between N c 0 (IntKind.i64.wrap (c1 - 1))).bind fun r =>
    some (((!r.1.1), ()), ()))
abbrev impl_Graph_isColouring_c1_ps : List (PV.Mode × Ty) := [(.ro, I), (.ro, AI)]
abbrev impl_Graph_isColouring_c1_rs : List (Bool × Ty) := [(true, .bool)]
noncomputable def impl_Graph_isColouring_c1_S (N : Nat) : FSum := ⟨impl_Graph_isColouring_c1_ps, impl_Graph_isColouring_c1_rs, fun x => impl_Graph_isColouring_c1 N x.1 x.2.1⟩
theorem impl_Graph_isColouring_c1_run (N : Nat) (x : argsT impl_Graph_isColouring_c1_ps) : impl_Graph_isColouring_c1 N x.1 x.2.1 = funF (impl_Graph_isColouring_c1_G N) tab [] Try.f169 impl_Graph_isColouring_c1_ps impl_Graph_isColouring_c1_rs x := by kernel_rfl
theorem impl_Graph_isColouring_c1_pc (N : Nat) : PC Try.prog 169 (impl_Graph_isColouring_c1_S N) := by
  have e : impl_Graph_isColouring_c1_S N = ⟨impl_Graph_isColouring_c1_ps, impl_Graph_isColouring_c1_rs, funF (impl_Graph_isColouring_c1_G N) tab [] Try.f169 impl_Graph_isColouring_c1_ps impl_Graph_isColouring_c1_rs⟩ := congrArg (FSum.mk impl_Graph_isColouring_c1_ps impl_Graph_isColouring_c1_rs) (funext (impl_Graph_isColouring_c1_run N))
  rw [e]
  exact fun_ok (c := impl_Graph_isColouring_c1_code) progOk (impl_Graph_isColouring_c1_gok N) (draw_ok progOk (impl_Graph_isColouring_c1_gok N)) Try.call169 Try.func169 (by kernel_rfl) (lsOk_at (L := []) trivial) (by kernel_rfl) (by kernel_rfl) (by kernel_rfl) (by kernel_rfl) (by kernel_rfl)

/-! ### slices_IndexFunc_LP_P2 -/
noncomputable def slices_IndexFunc_LP_P2_G (N : Nat) : GTab := gOf []
theorem slices_IndexFunc_LP_P2_gok (N : Nat) : GOk Try.prog (slices_IndexFunc_LP_P2_G N) := gOf_ok trivial
noncomputable def slices_IndexFunc_LP_P2_code : Code := (Try.f193.body).getD .skip
noncomputable def slices_IndexFunc_LP_P2_l0_sh : Sh := ⟨[(0, .one (.ro LQII)), (1, .one (.ro FQIIBo)), (7, .one (.ro I)), (8, .one (.ro I))], []⟩
noncomputable def slices_IndexFunc_LP_P2_l0_ex : List (Ex × Sh) := [(.ret, ⟨[(4, .one (.ro I))], []⟩), (.exit 0, ⟨[], []⟩)]
noncomputable def slices_IndexFunc_LP_P2_l0 {R : Type} (N : Nat) (k0 : Int → Option R) (k1 : Unit → Option R) : Nat → (List (Int × Int)) → ((Int × Int) → Option Bool) → Int → Int → Option R
  | 0, _, _, _, _ => none
  | K + 1, s1, f1, x, x1 =>
    (br (ilt x1 x)
      ((chk (inb s1 x1)
        ((f1 (rdP s1 x1)).bind fun v =>
        (br v
        (k0 x1)
        (slices_IndexFunc_LP_P2_l0 N k0 k1 K s1 f1 x (IntKind.i64.wrap (x1 + 1)))))))
      (k1 ()))
noncomputable def slices_IndexFunc_LP_P2_l0_again {R : Type} (N : Nat) (ks : (j : Nat) → ((slices_IndexFunc_LP_P2_l0_ex.getD j (.ret, Sh.none)).2).T → Option R) (k : Nat) (x : slices_IndexFunc_LP_P2_l0_sh.T) : Option R :=
  slices_IndexFunc_LP_P2_l0 N (fun y0 => ks 0 ((y0, ()), ())) (fun (_ : Unit) => ks 1 ((), ())) k x.1.1 x.1.2.1 x.1.2.2.1 x.1.2.2.2.1
noncomputable def slices_IndexFunc_LP_P2_l0_s (N : Nat) : LSum := ⟨slices_IndexFunc_LP_P2_l0_sh, slices_IndexFunc_LP_P2_l0_ex, fun x ks => slices_IndexFunc_LP_P2_l0_again N ks N x⟩
theorem slices_IndexFunc_LP_P2_l0_step (N : Nat) (R : Type) (k : Nat) (x : slices_IndexFunc_LP_P2_l0_sh.T) (ks : (j : Nat) → ((slices_IndexFunc_LP_P2_l0_ex.getD j (.ret, Sh.none)).2).T → Option R) : slices_IndexFunc_LP_P2_l0_again N ks (k + 1) x = roundF (slices_IndexFunc_LP_P2_G N) tab [] (loopAt slices_IndexFunc_LP_P2_code 0) slices_IndexFunc_LP_P2_l0_sh slices_IndexFunc_LP_P2_l0_ex (fun y => slices_IndexFunc_LP_P2_l0_again N ks k y) ks x := by kernel_rfl
theorem slices_IndexFunc_LP_P2_l0_ok (N : Nat) : LoopOk Try.prog Try.f193.ntmps (slices_IndexFunc_LP_P2_l0_s N) (loopAt slices_IndexFunc_LP_P2_code 0) :=
  loop_ok (l := slices_IndexFunc_LP_P2_l0_s N) progOk (slices_IndexFunc_LP_P2_gok N) (draw_ok progOk (slices_IndexFunc_LP_P2_gok N)) (fun R k x ks => slices_IndexFunc_LP_P2_l0_again N ks k x) (fun _ _ _ => rfl) (fun R k x ks => slices_IndexFunc_LP_P2_l0_step N R k x ks) (fun R x ks r h => ⟨N, h⟩) (lsOk_at (L := []) trivial) (by kernel_rfl) (by kernel_rfl)
noncomputable def slices_IndexFunc_LP_P2 (N : Nat) (s : (List (Int × Int))) (f : ((Int × Int) → Option Bool)) : Option ((Int × Unit) × (Unit)) :=
  slices_IndexFunc_LP_P2_l0 N (fun x => some ((x, ()), ())) (fun (_ : Unit) => some (((-1), ()), ())) N s f (tLen s) 0
abbrev slices_IndexFunc_LP_P2_ps : List (PV.Mode × Ty) := [(.ro, LQII), (.ro, FQIIBo)]
abbrev slices_IndexFunc_LP_P2_rs : List (Bool × Ty) := [(true, I)]
noncomputable def slices_IndexFunc_LP_P2_S (N : Nat) : FSum := ⟨slices_IndexFunc_LP_P2_ps, slices_IndexFunc_LP_P2_rs, fun x => slices_IndexFunc_LP_P2 N x.1 x.2.1⟩
theorem slices_IndexFunc_LP_P2_run (N : Nat) (x : argsT slices_IndexFunc_LP_P2_ps) : slices_IndexFunc_LP_P2 N x.1 x.2.1 = funF (slices_IndexFunc_LP_P2_G N) tab [slices_IndexFunc_LP_P2_l0_s N] Try.f193 slices_IndexFunc_LP_P2_ps slices_IndexFunc_LP_P2_rs x := by kernel_rfl
theorem slices_IndexFunc_LP_P2_pc (N : Nat) : PC Try.prog 193 (slices_IndexFunc_LP_P2_S N) := by
  have e : slices_IndexFunc_LP_P2_S N = ⟨slices_IndexFunc_LP_P2_ps, slices_IndexFunc_LP_P2_rs, funF (slices_IndexFunc_LP_P2_G N) tab [slices_IndexFunc_LP_P2_l0_s N] Try.f193 slices_IndexFunc_LP_P2_ps slices_IndexFunc_LP_P2_rs⟩ := congrArg (FSum.mk slices_IndexFunc_LP_P2_ps slices_IndexFunc_LP_P2_rs) (funext (slices_IndexFunc_LP_P2_run N))
  rw [e]
  exact fun_ok (c := slices_IndexFunc_LP_P2_code) progOk (slices_IndexFunc_LP_P2_gok N) (draw_ok progOk (slices_IndexFunc_LP_P2_gok N)) Try.call193 Try.func193 (by kernel_rfl) (lsOk_at (L := [slices_IndexFunc_LP_P2_l0_s N]) ⟨slices_IndexFunc_LP_P2_l0_ok N, trivial⟩) (by kernel_rfl) (by kernel_rfl) (by kernel_rfl) (by kernel_rfl) (by kernel_rfl)

/-! ### slices_ContainsFunc_LP_P2 -/
noncomputable def slices_ContainsFunc_LP_P2_G (N : Nat) : GTab := gOf [(193, slices_IndexFunc_LP_P2_S N)]
theorem slices_ContainsFunc_LP_P2_gok (N : Nat) : GOk Try.prog (slices_ContainsFunc_LP_P2_G N) := gOf_ok ⟨slices_IndexFunc_LP_P2_pc N, trivial⟩
noncomputable def slices_ContainsFunc_LP_P2_code : Code := (Try.f170.body).getD .skip
noncomputable def slices_ContainsFunc_LP_P2 (N : Nat) (s : (List (Int × Int))) (f : ((Int × Int) → Option Bool)) : Option ((Bool × Unit) × (Unit)) :=
  ((slices_IndexFunc_LP_P2 N s f).bind fun r =>
    some (((ile 0 r.1.1), ()), ()))
abbrev slices_ContainsFunc_LP_P2_ps : List (PV.Mode × Ty) := [(.ro, LQII), (.ro, FQIIBo)]
abbrev slices_ContainsFunc_LP_P2_rs : List (Bool × Ty) := [(true, .bool)]
noncomputable def slices_ContainsFunc_LP_P2_S (N : Nat) : FSum := ⟨slices_ContainsFunc_LP_P2_ps, slices_ContainsFunc_LP_P2_rs, fun x => slices_ContainsFunc_LP_P2 N x.1 x.2.1⟩
theorem slices_ContainsFunc_LP_P2_run (N : Nat) (x : argsT slices_ContainsFunc_LP_P2_ps) : slices_ContainsFunc_LP_P2 N x.1 x.2.1 = funF (slices_ContainsFunc_LP_P2_G N) tab [] Try.f170 slices_ContainsFunc_LP_P2_ps slices_ContainsFunc_LP_P2_rs x := by kernel_rfl
theorem slices_ContainsFunc_LP_P2_pc (N : Nat) : PC Try.prog 170 (slices_ContainsFunc_LP_P2_S N) := by
  have e : slices_ContainsFunc_LP_P2_S N = ⟨slices_ContainsFunc_LP_P2_ps, slices_ContainsFunc_LP_P2_rs, funF (slices_ContainsFunc_LP_P2_G N) tab [] Try.f170 slices_ContainsFunc_LP_P2_ps slices_ContainsFunc_LP_P2_rs⟩ := congrArg (FSum.mk slices_ContainsFunc_LP_P2_ps slices_ContainsFunc_LP_P2_rs) (funext (slices_ContainsFunc_LP_P2_run N))
  rw [e]
  exact fun_ok (c := slices_ContainsFunc_LP_P2_code) progOk (slices_ContainsFunc_LP_P2_gok N) (draw_ok progOk (slices_ContainsFunc_LP_P2_gok N)) Try.call170 Try.func170 (by kernel_rfl) (lsOk_at (L := []) trivial) (by kernel_rfl) (by kernel_rfl) (by kernel_rfl) (by kernel_rfl) (by kernel_rfl)

/-! ### impl_Graph_isColouring_c2 -/
noncomputable def impl_Graph_isColouring_c2_G (N : Nat) : GTab := gOf []
theorem impl_Graph_isColouring_c2_gok (N : Nat) : GOk Try.prog (impl_Graph_isColouring_c2_G N) := gOf_ok trivial
noncomputable def impl_Graph_isColouring_c2_code : Code := (Try.f171.body).getD .skip
noncomputable def impl_Graph_isColouring_c2 (N : Nat) (e : (Int × Int)) (c : (List Int)) : Option ((Bool × Unit) × (Unit)) :=
  (chk (inb c e.1)
    (chk (inb c e.2)
    (some (((ieq (rdI c e.1) (rdI c e.2)), ()), ()))))
abbrev impl_Graph_isColouring_c2_ps : List (PV.Mode × Ty) := [(.ro, QII), (.ro, ALI)]
abbrev impl_Graph_isColouring_c2_rs : List (Bool × Ty) := [(true, .bool)]
noncomputable def impl_Graph_isColouring_c2_S (N : Nat) : FSum := ⟨impl_Graph_isColouring_c2_ps, impl_Graph_isColouring_c2_rs, fun x => impl_Graph_isColouring_c2 N x.1 x.2.1⟩
theorem impl_Graph_isColouring_c2_run (N : Nat) (x : argsT impl_Graph_isColouring_c2_ps) : impl_Graph_isColouring_c2 N x.1 x.2.1 = funF (impl_Graph_isColouring_c2_G N) tab [] Try.f171 impl_Graph_isColouring_c2_ps impl_Graph_isColouring_c2_rs x := by kernel_rfl
theorem impl_Graph_isColouring_c2_pc (N : Nat) : PC Try.prog 171 (impl_Graph_isColouring_c2_S N) := by
  have e : impl_Graph_isColouring_c2_S N = ⟨impl_Graph_isColouring_c2_ps, impl_Graph_isColouring_c2_rs, funF (impl_Graph_isColouring_c2_G N) tab [] Try.f171 impl_Graph_isColouring_c2_ps impl_Graph_isColouring_c2_rs⟩ := congrArg (FSum.mk impl_Graph_isColouring_c2_ps impl_Graph_isColouring_c2_rs) (funext (impl_Graph_isColouring_c2_run N))
  rw [e]
  exact fun_ok (c := impl_Graph_isColouring_c2_code) progOk (impl_Graph_isColouring_c2_gok N) (draw_ok progOk (impl_Graph_isColouring_c2_gok N)) Try.call171 Try.func171 (by kernel_rfl) (lsOk_at (L := []) trivial) (by kernel_rfl) (by kernel_rfl) (by kernel_rfl) (by kernel_rfl) (by kernel_rfl)

/-! ### impl_Graph_isColouring -/
noncomputable def impl_Graph_isColouring_G (N : Nat) : GTab := gOf [(130, slices_ContainsFunc_LI_int_S N), (169, impl_Graph_isColouring_c1_S N), (170, slices_ContainsFunc_LP_P2_S N), (171, impl_Graph_isColouring_c2_S N)]
theorem impl_Graph_isColouring_gok (N : Nat) : GOk Try.prog (impl_Graph_isColouring_G N) := gOf_ok ⟨slices_ContainsFunc_LI_int_pc N, impl_Graph_isColouring_c1_pc N, slices_ContainsFunc_LP_P2_pc N, impl_Graph_isColouring_c2_pc N, trivial⟩
noncomputable def impl_Graph_isColouring_code : Code := (Try.f152.body).getD .skip
noncomputable def impl_Graph_isColouring (N : Nat) (g : (Int × (List (Int × Int)))) (kv : Int) (colours : (List Int)) : Option ((Bool × Unit) × (Unit)) :=
  (br (ine (tLen colours) g.1)
    (some ((false, ()), ()))
    (((slices_ContainsFunc_LI_int N colours (fun y0 => (impl_Graph_isColouring_c1 N y0 kv).bind fun z => some z.1.1)).bind fun r =>
      (br r.1.1
        (some ((false, ()), ()))
        (((slices_ContainsFunc_LP_P2 N g.2 (fun y0 => (impl_Graph_isColouring_c2 N y0 colours).bind fun z => some z.1.1)).bind fun r1 =>
          some (((!r1.1.1), ()), ())))))))
abbrev impl_Graph_isColouring_ps : List (PV.Mode × Ty) := [(.ro, QILQII), (.ro, I), (.ro, LI)]
abbrev impl_Graph_isColouring_rs : List (Bool × Ty) := [(true, .bool)]
noncomputable def impl_Graph_isColouring_S (N : Nat) : FSum := ⟨impl_Graph_isColouring_ps, impl_Graph_isColouring_rs, fun x => impl_Graph_isColouring N x.1 x.2.1 x.2.2.1⟩
theorem impl_Graph_isColouring_run (N : Nat) (x : argsT impl_Graph_isColouring_ps) : impl_Graph_isColouring N x.1 x.2.1 x.2.2.1 = funF (impl_Graph_isColouring_G N) tab [] Try.f152 impl_Graph_isColouring_ps impl_Graph_isColouring_rs x := by kernel_rfl
theorem impl_Graph_isColouring_pc (N : Nat) : PC Try.prog 152 (impl_Graph_isColouring_S N) := by
  have e : impl_Graph_isColouring_S N = ⟨impl_Graph_isColouring_ps, impl_Graph_isColouring_rs, funF (impl_Graph_isColouring_G N) tab [] Try.f152 impl_Graph_isColouring_ps impl_Graph_isColouring_rs⟩ := congrArg (FSum.mk impl_Graph_isColouring_ps impl_Graph_isColouring_rs) (funext (impl_Graph_isColouring_run N))
  rw [e]
  exact fun_ok (c := impl_Graph_isColouring_code) progOk (impl_Graph_isColouring_gok N) (draw_ok progOk (impl_Graph_isColouring_gok N)) Try.call152 Try.func152 (by kernel_rfl) (lsOk_at (L := []) trivial) (by kernel_rfl) (by kernel_rfl) (by kernel_rfl) (by kernel_rfl) (by kernel_rfl)

/-! ### impl_isColoured_c1 -/
noncomputable def impl_isColoured_c1_G (N : Nat) : GTab := gOf [(152, impl_Graph_isColouring_S N)]
theorem impl_isColoured_c1_gok (N : Nat) : GOk Try.prog (impl_isColoured_c1_G N) := gOf_ok ⟨impl_Graph_isColouring_pc N, trivial⟩
noncomputable def impl_isColoured_c1_code : Code := (Try.f151.body).getD .skip
noncomputable def impl_isColoured_c1 (N : Nat) (colours : (List Int)) (c : (Int × (List (Int × Int)))) (c1 : Int) : Option ((Bool × Unit) × (Unit)) :=
  ((impl_Graph_isColouring N c c1 colours).bind fun r =>
    some (((!r.1.1), ()), ()))
abbrev impl_isColoured_c1_ps : List (PV.Mode × Ty) := [(.ro, LI), (.ro, AQILQII), (.ro, AI)]
abbrev impl_isColoured_c1_rs : List (Bool × Ty) := [(true, .bool)]
noncomputable def impl_isColoured_c1_S (N : Nat) : FSum := ⟨impl_isColoured_c1_ps, impl_isColoured_c1_rs, fun x => impl_isColoured_c1 N x.1 x.2.1 x.2.2.1⟩
theorem impl_isColoured_c1_run (N : Nat) (x : argsT impl_isColoured_c1_ps) : impl_isColoured_c1 N x.1 x.2.1 x.2.2.1 = funF (impl_isColoured_c1_G N) tab [] Try.f151 impl_isColoured_c1_ps impl_isColoured_c1_rs x := by kernel_rfl
theorem impl_isColoured_c1_pc (N : Nat) : PC Try.prog 151 (impl_isColoured_c1_S N) := by
  have e : impl_isColoured_c1_S N = ⟨impl_isColoured_c1_ps, impl_isColoured_c1_rs, funF (impl_isColoured_c1_G N) tab [] Try.f151 impl_isColoured_c1_ps impl_isColoured_c1_rs⟩ := congrArg (FSum.mk impl_isColoured_c1_ps impl_isColoured_c1_rs) (funext (impl_isColoured_c1_run N))
  rw [e]
  exact fun_ok (c := impl_isColoured_c1_code) progOk (impl_isColoured_c1_gok N) (draw_ok progOk (impl_isColoured_c1_gok N)) Try.call151 Try.func151 (by kernel_rfl) (lsOk_at (L := []) trivial) (by kernel_rfl) (by kernel_rfl) (by kernel_rfl) (by kernel_rfl) (by kernel_rfl)

/-! ### impl_isColoured -/
noncomputable def impl_isColoured_G (N : Nat) : GTab := gOf [(150, impl_isColourCase_S N), (65, slices_ContainsFunc_LLI_LI_S N), (151, impl_isColoured_c1_S N)]
theorem impl_isColoured_gok (N : Nat) : GOk Try.prog (impl_isColoured_G N) := gOf_ok ⟨impl_isColourCase_pc N, slices_ContainsFunc_LLI_LI_pc N, impl_isColoured_c1_pc N, trivial⟩
noncomputable def impl_isColoured_code : Code := (Try.f99.body).getD .skip
noncomputable def impl_isColoured (N : Nat) (g : (Int × (List (Int × Int)))) (kv : Int) (lists : (List (List Int))) : Option ((Bool × Unit) × (Unit)) :=
  ((impl_isColourCase N (g.1, g.2) kv).bind fun r =>
    (br r.1.1
      (((slices_ContainsFunc_LLI_LI N lists (fun y0 => (impl_isColoured_c1 N y0 (g.1, g.2) kv).bind fun z => some z.1.1)).bind fun r1 =>
        some (((!r1.1.1), ()), ())))
      (some ((false, ()), ()))))
abbrev impl_isColoured_ps : List (PV.Mode × Ty) := [(.ro, QILQII), (.ro, I), (.ro, LLI)]
abbrev impl_isColoured_rs : List (Bool × Ty) := [(true, .bool)]
noncomputable def impl_isColoured_S (N : Nat) : FSum := ⟨impl_isColoured_ps, impl_isColoured_rs, fun x => impl_isColoured N x.1 x.2.1 x.2.2.1⟩
theorem impl_isColoured_run (N : Nat) (x : argsT impl_isColoured_ps) : impl_isColoured N x.1 x.2.1 x.2.2.1 = funF (impl_isColoured_G N) tab [] Try.f99 impl_isColoured_ps impl_isColoured_rs x := by kernel_rfl
theorem impl_isColoured_pc (N : Nat) : PC Try.prog 99 (impl_isColoured_S N) := by
  have e : impl_isColoured_S N = ⟨impl_isColoured_ps, impl_isColoured_rs, funF (impl_isColoured_G N) tab [] Try.f99 impl_isColoured_ps impl_isColoured_rs⟩ := congrArg (FSum.mk impl_isColoured_ps impl_isColoured_rs) (funext (impl_isColoured_run N))
  rw [e]
  exact fun_ok (c := impl_isColoured_code) progOk (impl_isColoured_gok N) (draw_ok progOk (impl_isColoured_gok N)) Try.call99 Try.func99 (by kernel_rfl) (lsOk_at (L := []) trivial) (by kernel_rfl) (by kernel_rfl) (by kernel_rfl) (by kernel_rfl) (by kernel_rfl)

/-! ### impl_pair -/
noncomputable def impl_pair_G (N : Nat) : GTab := gOf []
theorem impl_pair_gok (N : Nat) : GOk Try.prog (impl_pair_G N) := gOf_ok trivial
noncomputable def impl_pair_code : Code := (Try.f173.body).getD .skip
noncomputable def impl_pair (N : Nat) (a : Int) (b : Int) : Option (((Int × Int) × Unit) × (Unit)) :=
  some ((((if b < a then b else a), (if b > a then b else a)), ()), ())
abbrev impl_pair_ps : List (PV.Mode × Ty) := [(.ro, I), (.ro, I)]
abbrev impl_pair_rs : List (Bool × Ty) := [(true, QII)]
noncomputable def impl_pair_S (N : Nat) : FSum := ⟨impl_pair_ps, impl_pair_rs, fun x => impl_pair N x.1 x.2.1⟩
theorem impl_pair_run (N : Nat) (x : argsT impl_pair_ps) : impl_pair N x.1 x.2.1 = funF (impl_pair_G N) tab [] Try.f173 impl_pair_ps impl_pair_rs x := by kernel_rfl
theorem impl_pair_pc (N : Nat) : PC Try.prog 173 (impl_pair_S N) := by
  have e : impl_pair_S N = ⟨impl_pair_ps, impl_pair_rs, funF (impl_pair_G N) tab [] Try.f173 impl_pair_ps impl_pair_rs⟩ := congrArg (FSum.mk impl_pair_ps impl_pair_rs) (funext (impl_pair_run N))
  rw [e]
  exact fun_ok (c := impl_pair_code) progOk (impl_pair_gok N) (draw_ok progOk (impl_pair_gok N)) Try.call173 Try.func173 (by kernel_rfl) (lsOk_at (L := []) trivial) (by kernel_rfl) (by kernel_rfl) (by kernel_rfl) (by kernel_rfl) (by kernel_rfl)

/-! ### slices_Index_LP_P2 -/
noncomputable def slices_Index_LP_P2_G (N : Nat) : GTab := gOf []
theorem slices_Index_LP_P2_gok (N : Nat) : GOk Try.prog (slices_Index_LP_P2_G N) := gOf_ok trivial
noncomputable def slices_Index_LP_P2_code : Code := (Try.f194.body).getD .skip
noncomputable def slices_Index_LP_P2_l0_sh : Sh := ⟨[(0, .one (.ro LQII)), (3, .one (.adr 0 0)), (7, .one (.ro I)), (8, .one (.ro I))], [.box [.ro I, .ro I]]⟩
noncomputable def slices_Index_LP_P2_l0_ex : List (Ex × Sh) := [(.ret, ⟨[(4, .one (.ro I))], []⟩), (.exit 0, ⟨[], []⟩)]
noncomputable def slices_Index_LP_P2_l0 {R : Type} (N : Nat) (k0 : Int → Option R) (k1 : Unit → Option R) : Nat → (List (Int × Int)) → Int → Int → Int → Int → Option R
  | 0, _, _, _, _, _ => none
  | K + 1, s1, x, x1, o, o1 =>
    (br (ilt x1 x)
      ((chk (inb s1 x1)
        (br (ieq o ((rdP s1 x1).1) && ieq o1 ((rdP s1 x1).2))
        (k0 x1)
        (slices_Index_LP_P2_l0 N k0 k1 K s1 x (IntKind.i64.wrap (x1 + 1)) o o1))))
      (k1 ()))
noncomputable def slices_Index_LP_P2_l0_again {R : Type} (N : Nat) (ks : (j : Nat) → ((slices_Index_LP_P2_l0_ex.getD j (.ret, Sh.none)).2).T → Option R) (k : Nat) (x : slices_Index_LP_P2_l0_sh.T) : Option R :=
  slices_Index_LP_P2_l0 N (fun y0 => ks 0 ((y0, ()), ())) (fun (_ : Unit) => ks 1 ((), ())) k x.1.1 x.1.2.2.1 x.1.2.2.2.1 x.2.1.1 x.2.1.2.1
noncomputable def slices_Index_LP_P2_l0_s (N : Nat) : LSum := ⟨slices_Index_LP_P2_l0_sh, slices_Index_LP_P2_l0_ex, fun x ks => slices_Index_LP_P2_l0_again N ks N x⟩
theorem slices_Index_LP_P2_l0_step (N : Nat) (R : Type) (k : Nat) (x : slices_Index_LP_P2_l0_sh.T) (ks : (j : Nat) → ((slices_Index_LP_P2_l0_ex.getD j (.ret, Sh.none)).2).T → Option R) : slices_Index_LP_P2_l0_again N ks (k + 1) x = roundF (slices_Index_LP_P2_G N) tab [] (loopAt slices_Index_LP_P2_code 0) slices_Index_LP_P2_l0_sh slices_Index_LP_P2_l0_ex (fun y => slices_Index_LP_P2_l0_again N ks k y) ks x := by kernel_rfl
theorem slices_Index_LP_P2_l0_ok (N : Nat) : LoopOk Try.prog Try.f194.ntmps (slices_Index_LP_P2_l0_s N) (loopAt slices_Index_LP_P2_code 0) :=
  loop_ok (l := slices_Index_LP_P2_l0_s N) progOk (slices_Index_LP_P2_gok N) (draw_ok progOk (slices_Index_LP_P2_gok N)) (fun R k x ks => slices_Index_LP_P2_l0_again N ks k x) (fun _ _ _ => rfl) (fun R k x ks => slices_Index_LP_P2_l0_step N R k x ks) (fun R x ks r h => ⟨N, h⟩) (lsOk_at (L := []) trivial) (by kernel_rfl) (by kernel_rfl)
noncomputable def slices_Index_LP_P2 (N : Nat) (s : (List (Int × Int))) (v : (Int × Int)) : Option ((Int × Unit) × (Unit)) :=
  slices_Index_LP_P2_l0 N (fun x => some ((x, ()), ())) (fun (_ : Unit) => some (((-1), ()), ())) N s (tLen s) 0 v.1 v.2
abbrev slices_Index_LP_P2_ps : List (PV.Mode × Ty) := [(.ro, LQII), (.ro, QII)]
abbrev slices_Index_LP_P2_rs : List (Bool × Ty) := [(true, I)]
noncomputable def slices_Index_LP_P2_S (N : Nat) : FSum := ⟨slices_Index_LP_P2_ps, slices_Index_LP_P2_rs, fun x => slices_Index_LP_P2 N x.1 x.2.1⟩
theorem slices_Index_LP_P2_run (N : Nat) (x : argsT slices_Index_LP_P2_ps) : slices_Index_LP_P2 N x.1 x.2.1 = funF (slices_Index_LP_P2_G N) tab [slices_Index_LP_P2_l0_s N] Try.f194 slices_Index_LP_P2_ps slices_Index_LP_P2_rs x := by kernel_rfl
theorem slices_Index_LP_P2_pc (N : Nat) : PC Try.prog 194 (slices_Index_LP_P2_S N) := by
  have e : slices_Index_LP_P2_S N = ⟨slices_Index_LP_P2_ps, slices_Index_LP_P2_rs, funF (slices_Index_LP_P2_G N) tab [slices_Index_LP_P2_l0_s N] Try.f194 slices_Index_LP_P2_ps slices_Index_LP_P2_rs⟩ := congrArg (FSum.mk slices_Index_LP_P2_ps slices_Index_LP_P2_rs) (funext (slices_Index_LP_P2_run N))
  rw [e]
  exact fun_ok (c := slices_Index_LP_P2_code) progOk (slices_Index_LP_P2_gok N) (draw_ok progOk (slices_Index_LP_P2_gok N)) Try.call194 Try.func194 (by kernel_rfl) (lsOk_at (L := [slices_Index_LP_P2_l0_s N]) ⟨slices_Index_LP_P2_l0_ok N, trivial⟩) (by kernel_rfl) (by kernel_rfl) (by kernel_rfl) (by kernel_rfl) (by kernel_rfl)

/-! ### slices_Contains_LP_P2 -/
noncomputable def slices_Contains_LP_P2_G (N : Nat) : GTab := gOf [(194, slices_Index_LP_P2_S N)]
theorem slices_Contains_LP_P2_gok (N : Nat) : GOk Try.prog (slices_Contains_LP_P2_G N) := gOf_ok ⟨slices_Index_LP_P2_pc N, trivial⟩
noncomputable def slices_Contains_LP_P2_code : Code := (Try.f172.body).getD .skip
noncomputable def slices_Contains_LP_P2 (N : Nat) (s : (List (Int × Int))) (v : (Int × Int)) : Option ((Bool × Unit) × (Unit)) :=
  ((slices_Index_LP_P2 N s (v.1, v.2)).bind fun r =>
    some (((ile 0 r.1.1), ()), ()))
abbrev slices_Contains_LP_P2_ps : List (PV.Mode × Ty) := [(.ro, LQII), (.ro, QII)]
abbrev slices_Contains_LP_P2_rs : List (Bool × Ty) := [(true, .bool)]
noncomputable def slices_Contains_LP_P2_S (N : Nat) : FSum := ⟨slices_Contains_LP_P2_ps, slices_Contains_LP_P2_rs, fun x => slices_Contains_LP_P2 N x.1 x.2.1⟩
theorem slices_Contains_LP_P2_run (N : Nat) (x : argsT slices_Contains_LP_P2_ps) : slices_Contains_LP_P2 N x.1 x.2.1 = funF (slices_Contains_LP_P2_G N) tab [] Try.f172 slices_Contains_LP_P2_ps slices_Contains_LP_P2_rs x := by kernel_rfl
theorem slices_Contains_LP_P2_pc (N : Nat) : PC Try.prog 172 (slices_Contains_LP_P2_S N) := by
  have e : slices_Contains_LP_P2_S N = ⟨slices_Contains_LP_P2_ps, slices_Contains_LP_P2_rs, funF (slices_Contains_LP_P2_G N) tab [] Try.f172 slices_Contains_LP_P2_ps slices_Contains_LP_P2_rs⟩ := congrArg (FSum.mk slices_Contains_LP_P2_ps slices_Contains_LP_P2_rs) (funext (slices_Contains_LP_P2_run N))
  rw [e]
  exact fun_ok (c := slices_Contains_LP_P2_code) progOk (slices_Contains_LP_P2_gok N) (draw_ok progOk (slices_Contains_LP_P2_gok N)) Try.call172 Try.func172 (by kernel_rfl) (lsOk_at (L := []) trivial) (by kernel_rfl) (by kernel_rfl) (by kernel_rfl) (by kernel_rfl) (by kernel_rfl)

/-! ### impl_Graph_has -/
noncomputable def impl_Graph_has_G (N : Nat) : GTab := gOf [(173, impl_pair_S N), (172, slices_Contains_LP_P2_S N)]
theorem impl_Graph_has_gok (N : Nat) : GOk Try.prog (impl_Graph_has_G N) := gOf_ok ⟨impl_pair_pc N, slices_Contains_LP_P2_pc N, trivial⟩
noncomputable def impl_Graph_has_code : Code := (Try.f153.body).getD .skip
noncomputable def impl_Graph_has (N : Nat) (g : (Int × (List (Int × Int)))) (a : Int) (b : Int) : Option ((Bool × Unit) × (Unit)) :=
  ((impl_pair N a b).bind fun r =>
    ((slices_Contains_LP_P2 N g.2 (r.1.1.1, r.1.1.2)).bind fun r1 =>
      some ((r1.1.1, ()), ())))
abbrev impl_Graph_has_ps : List (PV.Mode × Ty) := [(.ro, QILQII), (.ro, I), (.ro, I)]
abbrev impl_Graph_has_rs : List (Bool × Ty) := [(true, .bool)]
noncomputable def impl_Graph_has_S (N : Nat) : FSum := ⟨impl_Graph_has_ps, impl_Graph_has_rs, fun x => impl_Graph_has N x.1 x.2.1 x.2.2.1⟩
theorem impl_Graph_has_run (N : Nat) (x : argsT impl_Graph_has_ps) : impl_Graph_has N x.1 x.2.1 x.2.2.1 = funF (impl_Graph_has_G N) tab [] Try.f153 impl_Graph_has_ps impl_Graph_has_rs x := by kernel_rfl
theorem impl_Graph_has_pc (N : Nat) : PC Try.prog 153 (impl_Graph_has_S N) := by
  have e : impl_Graph_has_S N = ⟨impl_Graph_has_ps, impl_Graph_has_rs, funF (impl_Graph_has_G N) tab [] Try.f153 impl_Graph_has_ps impl_Graph_has_rs⟩ := congrArg (FSum.mk impl_Graph_has_ps impl_Graph_has_rs) (funext (impl_Graph_has_run N))
  rw [e]
  exact fun_ok (c := impl_Graph_has_code) progOk (impl_Graph_has_gok N) (draw_ok progOk (impl_Graph_has_gok N)) Try.call153 Try.func153 (by kernel_rfl) (lsOk_at (L := []) trivial) (by kernel_rfl) (by kernel_rfl) (by kernel_rfl) (by kernel_rfl) (by kernel_rfl)

/-! ### impl_Graph_neighbors -/
noncomputable def impl_Graph_neighbors_G (N : Nat) : GTab := gOf [(153, impl_Graph_has_S N)]
theorem impl_Graph_neighbors_gok (N : Nat) : GOk Try.prog (impl_Graph_neighbors_G N) := gOf_ok ⟨impl_Graph_has_pc N, trivial⟩
noncomputable def impl_Graph_neighbors_code : Code := (Try.f100.body).getD .skip
noncomputable def impl_Graph_neighbors_l0_sh : Sh := ⟨[(1, .one (.ro I)), (2, .one (.adr 0 0)), (5, .one (.ref 1)), (9, .one (.ro I)), (10, .one (.ro I))], [.box [.ro I, .ro LQII], .sl 3 I .own]⟩
noncomputable def impl_Graph_neighbors_l0_ex : List (Ex × Sh) := [(.exit 0, ⟨[(5, .one (.ref 0))], [.sl 3 I .own]⟩)]
noncomputable def impl_Graph_neighbors_l0 {R : Type} (N : Nat) (k0 : (List Int) → Option R) : Nat → Int → Int → Int → Int → (List (Int × Int)) → (List Int) → Option R
  | 0, _, _, _, _, _, _ => none
  | K + 1, x1, x2, x3, o, o1, o2 =>
    (br (ilt x3 x2)
      ((br (ine x3 x1)
        (((impl_Graph_has N (o, o1) x1 x3).bind fun r =>
          (br r.1.1
            ((chk (room o2 [x3])
              (impl_Graph_neighbors_l0 N k0 K x1 x2 (IntKind.i64.wrap (x3 + 1)) o o1 (tApp o2 [x3]))))
            (impl_Graph_neighbors_l0 N k0 K x1 x2 (IntKind.i64.wrap (x3 + 1)) o o1 o2))))
        (impl_Graph_neighbors_l0 N k0 K x1 x2 (IntKind.i64.wrap (x3 + 1)) o o1 o2)))
      (k0 o2))
noncomputable def impl_Graph_neighbors_l0_again {R : Type} (N : Nat) (ks : (j : Nat) → ((impl_Graph_neighbors_l0_ex.getD j (.ret, Sh.none)).2).T → Option R) (k : Nat) (x : impl_Graph_neighbors_l0_sh.T) : Option R :=
  impl_Graph_neighbors_l0 N (fun y0 => ks 0 (((), ()), (y0, ()))) k x.1.1 x.1.2.2.2.1 x.1.2.2.2.2.1 x.2.1.1 x.2.1.2.1 x.2.2.1
noncomputable def impl_Graph_neighbors_l0_s (N : Nat) : LSum := ⟨impl_Graph_neighbors_l0_sh, impl_Graph_neighbors_l0_ex, fun x ks => impl_Graph_neighbors_l0_again N ks N x⟩
theorem impl_Graph_neighbors_l0_step (N : Nat) (R : Type) (k : Nat) (x : impl_Graph_neighbors_l0_sh.T) (ks : (j : Nat) → ((impl_Graph_neighbors_l0_ex.getD j (.ret, Sh.none)).2).T → Option R) : impl_Graph_neighbors_l0_again N ks (k + 1) x = roundF (impl_Graph_neighbors_G N) tab [] (loopAt impl_Graph_neighbors_code 0) impl_Graph_neighbors_l0_sh impl_Graph_neighbors_l0_ex (fun y => impl_Graph_neighbors_l0_again N ks k y) ks x := by kernel_rfl
theorem impl_Graph_neighbors_l0_ok (N : Nat) : LoopOk Try.prog Try.f100.ntmps (impl_Graph_neighbors_l0_s N) (loopAt impl_Graph_neighbors_code 0) :=
  loop_ok (l := impl_Graph_neighbors_l0_s N) progOk (impl_Graph_neighbors_gok N) (draw_ok progOk (impl_Graph_neighbors_gok N)) (fun R k x ks => impl_Graph_neighbors_l0_again N ks k x) (fun _ _ _ => rfl) (fun R k x ks => impl_Graph_neighbors_l0_step N R k x ks) (fun R x ks r h => ⟨N, h⟩) (lsOk_at (L := []) trivial) (by kernel_rfl) (by kernel_rfl)
noncomputable def impl_Graph_neighbors (N : Nat) (g : (Int × (List (Int × Int)))) (x : Int) : Option (((List Int) × Unit) × (Unit)) :=
  impl_Graph_neighbors_l0 N (fun o => some ((o, ()), ())) N x g.1 0 g.1 g.2 []
abbrev impl_Graph_neighbors_ps : List (PV.Mode × Ty) := [(.ro, QILQII), (.ro, I)]
abbrev impl_Graph_neighbors_rs : List (Bool × Ty) := [(true, LI)]
noncomputable def impl_Graph_neighbors_S (N : Nat) : FSum := ⟨impl_Graph_neighbors_ps, impl_Graph_neighbors_rs, fun x => impl_Graph_neighbors N x.1 x.2.1⟩
theorem impl_Graph_neighbors_run (N : Nat) (x : argsT impl_Graph_neighbors_ps) : impl_Graph_neighbors N x.1 x.2.1 = funF (impl_Graph_neighbors_G N) tab [impl_Graph_neighbors_l0_s N] Try.f100 impl_Graph_neighbors_ps impl_Graph_neighbors_rs x := by kernel_rfl
theorem impl_Graph_neighbors_pc (N : Nat) : PC Try.prog 100 (impl_Graph_neighbors_S N) := by
  have e : impl_Graph_neighbors_S N = ⟨impl_Graph_neighbors_ps, impl_Graph_neighbors_rs, funF (impl_Graph_neighbors_G N) tab [impl_Graph_neighbors_l0_s N] Try.f100 impl_Graph_neighbors_ps impl_Graph_neighbors_rs⟩ := congrArg (FSum.mk impl_Graph_neighbors_ps impl_Graph_neighbors_rs) (funext (impl_Graph_neighbors_run N))
  rw [e]
  exact fun_ok (c := impl_Graph_neighbors_code) progOk (impl_Graph_neighbors_gok N) (draw_ok progOk (impl_Graph_neighbors_gok N)) Try.call100 Try.func100 (by kernel_rfl) (lsOk_at (L := [impl_Graph_neighbors_l0_s N]) ⟨impl_Graph_neighbors_l0_ok N, trivial⟩) (by kernel_rfl) (by kernel_rfl) (by kernel_rfl) (by kernel_rfl) (by kernel_rfl)

/-! ### math_bits_OnesCount64 -/
noncomputable def math_bits_OnesCount64_G (N : Nat) : GTab := gOf []
theorem math_bits_OnesCount64_gok (N : Nat) : GOk Try.prog (math_bits_OnesCount64_G N) := gOf_ok trivial
noncomputable def math_bits_OnesCount64_code : Code := (Try.f175.body).getD .skip
noncomputable def math_bits_OnesCount64 (N : Nat) (x : Int) : Option ((Int × Unit) × (Unit)) :=
  some (((bitop .and .i64 (IntKind.i64.wrap ((IntKind.u64.wrap ((IntKind.u64.wrap ((IntKind.u64.wrap ((bitop .and .u64 (IntKind.u64.wrap ((shrI .u64 (IntKind.u64.wrap ((bitop .and .u64 (shrI .u64 (IntKind.u64.wrap ((bitop .and .u64 (shrI .u64 x 1) 6148914691236517205) + (bitop .and .u64 x 6148914691236517205))) 2) 3689348814741910323) + (bitop .and .u64 (IntKind.u64.wrap ((bitop .and .u64 (shrI .u64 x 1) 6148914691236517205) + (bitop .and .u64 x 6148914691236517205))) 3689348814741910323))) 4) + (IntKind.u64.wrap ((bitop .and .u64 (shrI .u64 (IntKind.u64.wrap ((bitop .and .u64 (shrI .u64 x 1) 6148914691236517205) + (bitop .and .u64 x 6148914691236517205))) 2) 3689348814741910323) + (bitop .and .u64 (IntKind.u64.wrap ((bitop .and .u64 (shrI .u64 x 1) 6148914691236517205) + (bitop .and .u64 x 6148914691236517205))) 3689348814741910323))))) 1085102592571150095) + (shrI .u64 (bitop .and .u64 (IntKind.u64.wrap ((shrI .u64 (IntKind.u64.wrap ((bitop .and .u64 (shrI .u64 (IntKind.u64.wrap ((bitop .and .u64 (shrI .u64 x 1) 6148914691236517205) + (bitop .and .u64 x 6148914691236517205))) 2) 3689348814741910323) + (bitop .and .u64 (IntKind.u64.wrap ((bitop .and .u64 (shrI .u64 x 1) 6148914691236517205) + (bitop .and .u64 x 6148914691236517205))) 3689348814741910323))) 4) + (IntKind.u64.wrap ((bitop .and .u64 (shrI .u64 (IntKind.u64.wrap ((bitop .and .u64 (shrI .u64 x 1) 6148914691236517205) + (bitop .and .u64 x 6148914691236517205))) 2) 3689348814741910323) + (bitop .and .u64 (IntKind.u64.wrap ((bitop .and .u64 (shrI .u64 x 1) 6148914691236517205) + (bitop .and .u64 x 6148914691236517205))) 3689348814741910323))))) 1085102592571150095) 8))) + (shrI .u64 (IntKind.u64.wrap ((bitop .and .u64 (IntKind.u64.wrap ((shrI .u64 (IntKind.u64.wrap ((bitop .and .u64 (shrI .u64 (IntKind.u64.wrap ((bitop .and .u64 (shrI .u64 x 1) 6148914691236517205) + (bitop .and .u64 x 6148914691236517205))) 2) 3689348814741910323) + (bitop .and .u64 (IntKind.u64.wrap ((bitop .and .u64 (shrI .u64 x 1) 6148914691236517205) + (bitop .and .u64 x 6148914691236517205))) 3689348814741910323))) 4) + (IntKind.u64.wrap ((bitop .and .u64 (shrI .u64 (IntKind.u64.wrap ((bitop .and .u64 (shrI .u64 x 1) 6148914691236517205) + (bitop .and .u64 x 6148914691236517205))) 2) 3689348814741910323) + (bitop .and .u64 (IntKind.u64.wrap ((bitop .and .u64 (shrI .u64 x 1) 6148914691236517205) + (bitop .and .u64 x 6148914691236517205))) 3689348814741910323))))) 1085102592571150095) + (shrI .u64 (bitop .and .u64 (IntKind.u64.wrap ((shrI .u64 (IntKind.u64.wrap ((bitop .and .u64 (shrI .u64 (IntKind.u64.wrap ((bitop .and .u64 (shrI .u64 x 1) 6148914691236517205) + (bitop .and .u64 x 6148914691236517205))) 2) 3689348814741910323) + (bitop .and .u64 (IntKind.u64.wrap ((bitop .and .u64 (shrI .u64 x 1) 6148914691236517205) + (bitop .and .u64 x 6148914691236517205))) 3689348814741910323))) 4) + (IntKind.u64.wrap ((bitop .and .u64 (shrI .u64 (IntKind.u64.wrap ((bitop .and .u64 (shrI .u64 x 1) 6148914691236517205) + (bitop .and .u64 x 6148914691236517205))) 2) 3689348814741910323) + (bitop .and .u64 (IntKind.u64.wrap ((bitop .and .u64 (shrI .u64 x 1) 6148914691236517205) + (bitop .and .u64 x 6148914691236517205))) 3689348814741910323))))) 1085102592571150095) 8))) 16))) + (shrI .u64 (IntKind.u64.wrap ((IntKind.u64.wrap ((bitop .and .u64 (IntKind.u64.wrap ((shrI .u64 (IntKind.u64.wrap ((bitop .and .u64 (shrI .u64 (IntKind.u64.wrap ((bitop .and .u64 (shrI .u64 x 1) 6148914691236517205) + (bitop .and .u64 x 6148914691236517205))) 2) 3689348814741910323) + (bitop .and .u64 (IntKind.u64.wrap ((bitop .and .u64 (shrI .u64 x 1) 6148914691236517205) + (bitop .and .u64 x 6148914691236517205))) 3689348814741910323))) 4) + (IntKind.u64.wrap ((bitop .and .u64 (shrI .u64 (IntKind.u64.wrap ((bitop .and .u64 (shrI .u64 x 1) 6148914691236517205) + (bitop .and .u64 x 6148914691236517205))) 2) 3689348814741910323) + (bitop .and .u64 (IntKind.u64.wrap ((bitop .and .u64 (shrI .u64 x 1) 6148914691236517205) + (bitop .and .u64 x 6148914691236517205))) 3689348814741910323))))) 1085102592571150095) + (shrI .u64 (bitop .and .u64 (IntKind.u64.wrap ((shrI .u64 (IntKind.u64.wrap ((bitop .and .u64 (shrI .u64 (IntKind.u64.wrap ((bitop .and .u64 (shrI .u64 x 1) 6148914691236517205) + (bitop .and .u64 x 6148914691236517205))) 2) 3689348814741910323) + (bitop .and .u64 (IntKind.u64.wrap ((bitop .and .u64 (shrI .u64 x 1) 6148914691236517205) + (bitop .and .u64 x 6148914691236517205))) 3689348814741910323))) 4) + (IntKind.u64.wrap ((bitop .and .u64 (shrI .u64 (IntKind.u64.wrap ((bitop .and .u64 (shrI .u64 x 1) 6148914691236517205) + (bitop .and .u64 x 6148914691236517205))) 2) 3689348814741910323) + (bitop .and .u64 (IntKind.u64.wrap ((bitop .and .u64 (shrI .u64 x 1) 6148914691236517205) + (bitop .and .u64 x 6148914691236517205))) 3689348814741910323))))) 1085102592571150095) 8))) + (shrI .u64 (IntKind.u64.wrap ((bitop .and .u64 (IntKind.u64.wrap ((shrI .u64 (IntKind.u64.wrap ((bitop .and .u64 (shrI .u64 (IntKind.u64.wrap ((bitop .and .u64 (shrI .u64 x 1) 6148914691236517205) + (bitop .and .u64 x 6148914691236517205))) 2) 3689348814741910323) + (bitop .and .u64 (IntKind.u64.wrap ((bitop .and .u64 (shrI .u64 x 1) 6148914691236517205) + (bitop .and .u64 x 6148914691236517205))) 3689348814741910323))) 4) + (IntKind.u64.wrap ((bitop .and .u64 (shrI .u64 (IntKind.u64.wrap ((bitop .and .u64 (shrI .u64 x 1) 6148914691236517205) + (bitop .and .u64 x 6148914691236517205))) 2) 3689348814741910323) + (bitop .and .u64 (IntKind.u64.wrap ((bitop .and .u64 (shrI .u64 x 1) 6148914691236517205) + (bitop .and .u64 x 6148914691236517205))) 3689348814741910323))))) 1085102592571150095) + (shrI .u64 (bitop .and .u64 (IntKind.u64.wrap ((shrI .u64 (IntKind.u64.wrap ((bitop .and .u64 (shrI .u64 (IntKind.u64.wrap ((bitop .and .u64 (shrI .u64 x 1) 6148914691236517205) + (bitop .and .u64 x 6148914691236517205))) 2) 3689348814741910323) + (bitop .and .u64 (IntKind.u64.wrap ((bitop .and .u64 (shrI .u64 x 1) 6148914691236517205) + (bitop .and .u64 x 6148914691236517205))) 3689348814741910323))) 4) + (IntKind.u64.wrap ((bitop .and .u64 (shrI .u64 (IntKind.u64.wrap ((bitop .and .u64 (shrI .u64 x 1) 6148914691236517205) + (bitop .and .u64 x 6148914691236517205))) 2) 3689348814741910323) + (bitop .and .u64 (IntKind.u64.wrap ((bitop .and .u64 (shrI .u64 x 1) 6148914691236517205) + (bitop .and .u64 x 6148914691236517205))) 3689348814741910323))))) 1085102592571150095) 8))) 16))) 32))))) 127), ()), ())
abbrev math_bits_OnesCount64_ps : List (PV.Mode × Ty) := [(.ro, U64)]
abbrev math_bits_OnesCount64_rs : List (Bool × Ty) := [(true, I)]
noncomputable def math_bits_OnesCount64_S (N : Nat) : FSum := ⟨math_bits_OnesCount64_ps, math_bits_OnesCount64_rs, fun x => math_bits_OnesCount64 N x.1⟩
theorem math_bits_OnesCount64_run (N : Nat) (x : argsT math_bits_OnesCount64_ps) : math_bits_OnesCount64 N x.1 = funF (math_bits_OnesCount64_G N) tab [] Try.f175 math_bits_OnesCount64_ps math_bits_OnesCount64_rs x := by kernel_rfl
theorem math_bits_OnesCount64_pc (N : Nat) : PC Try.prog 175 (math_bits_OnesCount64_S N) := by
  have e : math_bits_OnesCount64_S N = ⟨math_bits_OnesCount64_ps, math_bits_OnesCount64_rs, funF (math_bits_OnesCount64_G N) tab [] Try.f175 math_bits_OnesCount64_ps math_bits_OnesCount64_rs⟩ := congrArg (FSum.mk math_bits_OnesCount64_ps math_bits_OnesCount64_rs) (funext (math_bits_OnesCount64_run N))
  rw [e]
  exact fun_ok (c := math_bits_OnesCount64_code) progOk (math_bits_OnesCount64_gok N) (draw_ok progOk (math_bits_OnesCount64_gok N)) Try.call175 Try.func175 (by kernel_rfl) (lsOk_at (L := []) trivial) (by kernel_rfl) (by kernel_rfl) (by kernel_rfl) (by kernel_rfl) (by kernel_rfl)

/-! ### math_bits_OnesCount -/
noncomputable def math_bits_OnesCount_G (N : Nat) : GTab := gOf [(175, math_bits_OnesCount64_S N)]
theorem math_bits_OnesCount_gok (N : Nat) : GOk Try.prog (math_bits_OnesCount_G N) := gOf_ok ⟨math_bits_OnesCount64_pc N, trivial⟩
noncomputable def math_bits_OnesCount_code : Code := (Try.f154.body).getD .skip
noncomputable def math_bits_OnesCount (N : Nat) (x : Int) : Option ((Int × Unit) × (Unit)) :=
  ((math_bits_OnesCount64 N x).bind fun r =>
    some ((r.1.1, ()), ()))
abbrev math_bits_OnesCount_ps : List (PV.Mode × Ty) := [(.ro, U64)]
abbrev math_bits_OnesCount_rs : List (Bool × Ty) := [(true, I)]
noncomputable def math_bits_OnesCount_S (N : Nat) : FSum := ⟨math_bits_OnesCount_ps, math_bits_OnesCount_rs, fun x => math_bits_OnesCount N x.1⟩
theorem math_bits_OnesCount_run (N : Nat) (x : argsT math_bits_OnesCount_ps) : math_bits_OnesCount N x.1 = funF (math_bits_OnesCount_G N) tab [] Try.f154 math_bits_OnesCount_ps math_bits_OnesCount_rs x := by kernel_rfl
theorem math_bits_OnesCount_pc (N : Nat) : PC Try.prog 154 (math_bits_OnesCount_S N) := by
  have e : math_bits_OnesCount_S N = ⟨math_bits_OnesCount_ps, math_bits_OnesCount_rs, funF (math_bits_OnesCount_G N) tab [] Try.f154 math_bits_OnesCount_ps math_bits_OnesCount_rs⟩ := congrArg (FSum.mk math_bits_OnesCount_ps math_bits_OnesCount_rs) (funext (math_bits_OnesCount_run N))
  rw [e]
  exact fun_ok (c := math_bits_OnesCount_code) progOk (math_bits_OnesCount_gok N) (draw_ok progOk (math_bits_OnesCount_gok N)) Try.call154 Try.func154 (by kernel_rfl) (lsOk_at (L := []) trivial) (by kernel_rfl) (by kernel_rfl) (by kernel_rfl) (by kernel_rfl) (by kernel_rfl)

/-! ### impl_bag_size -/
noncomputable def impl_bag_size_G (N : Nat) : GTab := gOf [(154, math_bits_OnesCount_S N)]
theorem impl_bag_size_gok (N : Nat) : GOk Try.prog (impl_bag_size_G N) := gOf_ok ⟨math_bits_OnesCount_pc N, trivial⟩
noncomputable def impl_bag_size_code : Code := (Try.f101.body).getD .skip
noncomputable def impl_bag_size (N : Nat) (b : Int) : Option ((Int × Unit) × (Unit)) :=
  ((math_bits_OnesCount N b).bind fun r =>
    some ((r.1.1, ()), ()))
abbrev impl_bag_size_ps : List (PV.Mode × Ty) := [(.ro, U64)]
abbrev impl_bag_size_rs : List (Bool × Ty) := [(true, I)]
noncomputable def impl_bag_size_S (N : Nat) : FSum := ⟨impl_bag_size_ps, impl_bag_size_rs, fun x => impl_bag_size N x.1⟩
theorem impl_bag_size_run (N : Nat) (x : argsT impl_bag_size_ps) : impl_bag_size N x.1 = funF (impl_bag_size_G N) tab [] Try.f101 impl_bag_size_ps impl_bag_size_rs x := by kernel_rfl
theorem impl_bag_size_pc (N : Nat) : PC Try.prog 101 (impl_bag_size_S N) := by
  have e : impl_bag_size_S N = ⟨impl_bag_size_ps, impl_bag_size_rs, funF (impl_bag_size_G N) tab [] Try.f101 impl_bag_size_ps impl_bag_size_rs⟩ := congrArg (FSum.mk impl_bag_size_ps impl_bag_size_rs) (funext (impl_bag_size_run N))
  rw [e]
  exact fun_ok (c := impl_bag_size_code) progOk (impl_bag_size_gok N) (draw_ok progOk (impl_bag_size_gok N)) Try.call101 Try.func101 (by kernel_rfl) (lsOk_at (L := []) trivial) (by kernel_rfl) (by kernel_rfl) (by kernel_rfl) (by kernel_rfl) (by kernel_rfl)

/-! ### impl_StillNodes -/
noncomputable def impl_StillNodes_G (N : Nat) : GTab := gOf [(99, impl_isColoured_S N), (100, impl_Graph_neighbors_S N), (101, impl_bag_size_S N)]
theorem impl_StillNodes_gok (N : Nat) : GOk Try.prog (impl_StillNodes_G N) := gOf_ok ⟨impl_isColoured_pc N, impl_Graph_neighbors_pc N, impl_bag_size_pc N, trivial⟩
noncomputable def impl_StillNodes_code : Code := (Try.f47.body).getD .skip
noncomputable def impl_StillNodes_l0_0_sh : Sh := ⟨[(1, .one (.ro I)), (2, .one (.ro LI)), (3, .one (.adr 0 0)), (8, .one (.ref 1)), (9, .one (.ro I)), (10, .one (.ro U64)), (21, .one (.ro I)), (22, .one (.ro I)), (32, .one (.ref 2)), (33, .one (.ro I)), (34, .one (.ro I))], [.box [.ro I, .ro LQII], .sl 3 I .own, .sl 3 I .own]⟩
noncomputable def impl_StillNodes_l0_0_ex : List (Ex × Sh) := [(.exit 2, ⟨[(1, .one (.ro I)), (2, .one (.ro LI)), (3, .one (.adr 0 0)), (8, .one (.ref 1)), (9, .one (.ro I)), (10, .one (.ro U64)), (21, .one (.ro I)), (22, .one (.ro I))], [.box [.ro I, .ro LQII], .sl 3 I .own]⟩)]
noncomputable def impl_StillNodes_l0_0 {R : Type} (N : Nat) (k0 : Int → (List Int) → Int → Int → Int → Int → Int → (List (Int × Int)) → (List Int) → Option R) : Nat → Int → (List Int) → Int → Int → Int → Int → Int → Int → Int → (List (Int × Int)) → (List Int) → (List Int) → Option R
  | 0, _, _, _, _, _, _, _, _, _, _, _, _ => none
  | K + 1, kv2, colours2, x2, seen, x3, x4, x5, x6, o3, o4, o5, o6 =>
    (br (ilt x6 x5)
      ((chk (inb o6 x6)
        (chk (inb colours2 (rdI o6 x6))
        (chk (ile 0 (rdI colours2 (rdI o6 x6)))
        (impl_StillNodes_l0_0 N k0 K kv2 colours2 x2 (bitop .or .u64 seen (shlI .u64 1 (rdI colours2 (rdI o6 x6)))) x3 x4 x5 (IntKind.i64.wrap (x6 + 1)) o3 o4 o5 o6)))))
      (k0 kv2 colours2 x2 seen x3 x4 o3 o4 o5))
noncomputable def impl_StillNodes_l0_0_again {R : Type} (N : Nat) (ks : (j : Nat) → ((impl_StillNodes_l0_0_ex.getD j (.ret, Sh.none)).2).T → Option R) (k : Nat) (x : impl_StillNodes_l0_0_sh.T) : Option R :=
  impl_StillNodes_l0_0 N (fun y0 y1 y2 y3 y4 y5 y6 y7 y8 => ks 0 ((y0, y1, (), (), y2, y3, y4, y5, ()), ((y6, y7, ()), y8, ()))) k x.1.1 x.1.2.1 x.1.2.2.2.2.1 x.1.2.2.2.2.2.1 x.1.2.2.2.2.2.2.1 x.1.2.2.2.2.2.2.2.1 x.1.2.2.2.2.2.2.2.2.2.1 x.1.2.2.2.2.2.2.2.2.2.2.1 x.2.1.1 x.2.1.2.1 x.2.2.1 x.2.2.2.1
noncomputable def impl_StillNodes_l0_0_s (N : Nat) : LSum := ⟨impl_StillNodes_l0_0_sh, impl_StillNodes_l0_0_ex, fun x ks => impl_StillNodes_l0_0_again N ks N x⟩
theorem impl_StillNodes_l0_0_step (N : Nat) (R : Type) (k : Nat) (x : impl_StillNodes_l0_0_sh.T) (ks : (j : Nat) → ((impl_StillNodes_l0_0_ex.getD j (.ret, Sh.none)).2).T → Option R) : impl_StillNodes_l0_0_again N ks (k + 1) x = roundF (impl_StillNodes_G N) tab [] (loopAt (loopAt impl_StillNodes_code 0) 0) impl_StillNodes_l0_0_sh impl_StillNodes_l0_0_ex (fun y => impl_StillNodes_l0_0_again N ks k y) ks x := by kernel_rfl
theorem impl_StillNodes_l0_0_ok (N : Nat) : LoopOk Try.prog Try.f47.ntmps (impl_StillNodes_l0_0_s N) (loopAt (loopAt impl_StillNodes_code 0) 0) :=
  loop_ok (l := impl_StillNodes_l0_0_s N) progOk (impl_StillNodes_gok N) (draw_ok progOk (impl_StillNodes_gok N)) (fun R k x ks => impl_StillNodes_l0_0_again N ks k x) (fun _ _ _ => rfl) (fun R k x ks => impl_StillNodes_l0_0_step N R k x ks) (fun R x ks r h => ⟨N, h⟩) (lsOk_at (L := []) trivial) (by kernel_rfl) (by kernel_rfl)
noncomputable def impl_StillNodes_l0_sh : Sh := ⟨[(1, .one (.ro I)), (2, .one (.ro LI)), (3, .one (.adr 0 0)), (8, .one (.ref 1)), (21, .one (.ro I)), (22, .one (.ro I))], [.box [.ro I, .ro LQII], .sl 3 I .own]⟩
noncomputable def impl_StillNodes_l0_ex : List (Ex × Sh) := [(.exit 0, ⟨[(8, .one (.ref 0))], [.sl 3 I .own]⟩)]
noncomputable def impl_StillNodes_l0 {R : Type} (N : Nat) (k0 : (List Int) → Option R) : Nat → Int → (List Int) → Int → Int → Int → (List (Int × Int)) → (List Int) → Option R
  | 0, _, _, _, _, _, _, _ => none
  | K + 1, kv1, colours1, x, x1, o, o1, o2 =>
    (br (ilt x1 x)
      ((chk (inb colours1 x1)
        (chk (ile 0 (rdI colours1 x1))
        ((impl_Graph_neighbors N (o, o1) x1).bind fun r1 =>
        impl_StillNodes_l0_0 N (fun kv2 colours2 x2 seen x3 x4 o3 o4 o5 => ((impl_bag_size N seen).bind fun r2 =>
          (br (ieq r2.1.1 kv2)
            ((chk (room o5 [x2])
              (impl_StillNodes_l0 N k0 K kv2 colours2 x3 (IntKind.i64.wrap (x4 + 1)) o3 o4 (tApp o5 [x2]))))
            (impl_StillNodes_l0 N k0 K kv2 colours2 x3 (IntKind.i64.wrap (x4 + 1)) o3 o4 o5)))) N kv1 colours1 x1 (shlI .u64 1 (rdI colours1 x1)) x x1 (tLen r1.1.1) 0 o o1 o2 r1.1.1))))
      (k0 o2))
noncomputable def impl_StillNodes_l0_again {R : Type} (N : Nat) (ks : (j : Nat) → ((impl_StillNodes_l0_ex.getD j (.ret, Sh.none)).2).T → Option R) (k : Nat) (x : impl_StillNodes_l0_sh.T) : Option R :=
  impl_StillNodes_l0 N (fun y0 => ks 0 (((), ()), (y0, ()))) k x.1.1 x.1.2.1 x.1.2.2.2.2.1 x.1.2.2.2.2.2.1 x.2.1.1 x.2.1.2.1 x.2.2.1
noncomputable def impl_StillNodes_l0_s (N : Nat) : LSum := ⟨impl_StillNodes_l0_sh, impl_StillNodes_l0_ex, fun x ks => impl_StillNodes_l0_again N ks N x⟩
theorem impl_StillNodes_l0_step (N : Nat) (R : Type) (k : Nat) (x : impl_StillNodes_l0_sh.T) (ks : (j : Nat) → ((impl_StillNodes_l0_ex.getD j (.ret, Sh.none)).2).T → Option R) : impl_StillNodes_l0_again N ks (k + 1) x = roundF (impl_StillNodes_G N) tab [impl_StillNodes_l0_0_s N] (loopAt impl_StillNodes_code 0) impl_StillNodes_l0_sh impl_StillNodes_l0_ex (fun y => impl_StillNodes_l0_again N ks k y) ks x := by kernel_rfl
theorem impl_StillNodes_l0_ok (N : Nat) : LoopOk Try.prog Try.f47.ntmps (impl_StillNodes_l0_s N) (loopAt impl_StillNodes_code 0) :=
  loop_ok (l := impl_StillNodes_l0_s N) progOk (impl_StillNodes_gok N) (draw_ok progOk (impl_StillNodes_gok N)) (fun R k x ks => impl_StillNodes_l0_again N ks k x) (fun _ _ _ => rfl) (fun R k x ks => impl_StillNodes_l0_step N R k x ks) (fun R x ks r h => ⟨N, h⟩) (lsOk_at (L := [impl_StillNodes_l0_0_s N]) ⟨impl_StillNodes_l0_0_ok N, trivial⟩) (by kernel_rfl) (by kernel_rfl)
noncomputable def impl_StillNodes (N : Nat) (g : (Int × (List (Int × Int)))) (kv : Int) (colours : (List Int)) : Option (((List Int) × Bool × Unit) × (Unit)) :=
  ((impl_isColoured N (g.1, g.2) kv [colours]).bind fun r =>
    (br (!r.1.1)
      (some (([], false, ()), ()))
      (impl_StillNodes_l0 N (fun o => some ((o, true, ()), ())) N kv colours g.1 0 g.1 g.2 [])))
abbrev impl_StillNodes_ps : List (PV.Mode × Ty) := [(.ro, QILQII), (.ro, I), (.ro, LI)]
abbrev impl_StillNodes_rs : List (Bool × Ty) := [(true, LI), (true, .bool)]
noncomputable def impl_StillNodes_S (N : Nat) : FSum := ⟨impl_StillNodes_ps, impl_StillNodes_rs, fun x => impl_StillNodes N x.1 x.2.1 x.2.2.1⟩
theorem impl_StillNodes_run (N : Nat) (x : argsT impl_StillNodes_ps) : impl_StillNodes N x.1 x.2.1 x.2.2.1 = funF (impl_StillNodes_G N) tab [impl_StillNodes_l0_s N] Try.f47 impl_StillNodes_ps impl_StillNodes_rs x := by kernel_rfl
theorem impl_StillNodes_pc (N : Nat) : PC Try.prog 47 (impl_StillNodes_S N) := by
  have e : impl_StillNodes_S N = ⟨impl_StillNodes_ps, impl_StillNodes_rs, funF (impl_StillNodes_G N) tab [impl_StillNodes_l0_s N] Try.f47 impl_StillNodes_ps impl_StillNodes_rs⟩ := congrArg (FSum.mk impl_StillNodes_ps impl_StillNodes_rs) (funext (impl_StillNodes_run N))
  rw [e]
  exact fun_ok (c := impl_StillNodes_code) progOk (impl_StillNodes_gok N) (draw_ok progOk (impl_StillNodes_gok N)) Try.call47 Try.func47 (by kernel_rfl) (lsOk_at (L := [impl_StillNodes_l0_s N]) ⟨impl_StillNodes_l0_ok N, trivial⟩) (by kernel_rfl) (by kernel_rfl) (by kernel_rfl) (by kernel_rfl) (by kernel_rfl)

/-! ### laws_eqIntS -/
noncomputable def laws_eqIntS_G (N : Nat) : GTab := gOf []
theorem laws_eqIntS_gok (N : Nat) : GOk Try.prog (laws_eqIntS_G N) := gOf_ok trivial
noncomputable def laws_eqIntS_code : Code := (Try.f35.body).getD .skip
noncomputable def laws_eqIntS_l0_sh : Sh := ⟨[(0, .one (.ro LI)), (1, .one (.ro LI)), (5, .one (.ro I))], []⟩
noncomputable def laws_eqIntS_l0_ex : List (Ex × Sh) := [(.ret, ⟨[(4, .one (.ro .bool))], []⟩), (.exit 0, ⟨[], []⟩)]
noncomputable def laws_eqIntS_l0 {R : Type} (N : Nat) (k0 : Bool → Option R) (k1 : Unit → Option R) : Nat → (List Int) → (List Int) → Int → Option R
  | 0, _, _, _ => none
  | K + 1, a1, b1, i =>
    (br (ilt i (tLen a1))
      ((chk (inb a1 i)
        (chk (inb b1 i)
        (br (ine (rdI a1 i) (rdI b1 i))
        (k0 false)
        (laws_eqIntS_l0 N k0 k1 K a1 b1 (IntKind.i64.wrap (i + 1)))))))
      (k1 ()))
noncomputable def laws_eqIntS_l0_again {R : Type} (N : Nat) (ks : (j : Nat) → ((laws_eqIntS_l0_ex.getD j (.ret, Sh.none)).2).T → Option R) (k : Nat) (x : laws_eqIntS_l0_sh.T) : Option R :=
  laws_eqIntS_l0 N (fun y0 => ks 0 ((y0, ()), ())) (fun (_ : Unit) => ks 1 ((), ())) k x.1.1 x.1.2.1 x.1.2.2.1
noncomputable def laws_eqIntS_l0_s (N : Nat) : LSum := ⟨laws_eqIntS_l0_sh, laws_eqIntS_l0_ex, fun x ks => laws_eqIntS_l0_again N ks N x⟩
theorem laws_eqIntS_l0_step (N : Nat) (R : Type) (k : Nat) (x : laws_eqIntS_l0_sh.T) (ks : (j : Nat) → ((laws_eqIntS_l0_ex.getD j (.ret, Sh.none)).2).T → Option R) : laws_eqIntS_l0_again N ks (k + 1) x = roundF (laws_eqIntS_G N) tab [] (loopAt laws_eqIntS_code 0) laws_eqIntS_l0_sh laws_eqIntS_l0_ex (fun y => laws_eqIntS_l0_again N ks k y) ks x := by kernel_rfl
theorem laws_eqIntS_l0_ok (N : Nat) : LoopOk Try.prog Try.f35.ntmps (laws_eqIntS_l0_s N) (loopAt laws_eqIntS_code 0) :=
  loop_ok (l := laws_eqIntS_l0_s N) progOk (laws_eqIntS_gok N) (draw_ok progOk (laws_eqIntS_gok N)) (fun R k x ks => laws_eqIntS_l0_again N ks k x) (fun _ _ _ => rfl) (fun R k x ks => laws_eqIntS_l0_step N R k x ks) (fun R x ks r h => ⟨N, h⟩) (lsOk_at (L := []) trivial) (by kernel_rfl) (by kernel_rfl)
noncomputable def laws_eqIntS (N : Nat) (a : (List Int)) (b : (List Int)) : Option ((Bool × Unit) × (Unit)) :=
  (br (ine (tLen a) (tLen b))
    (some ((false, ()), ()))
    (laws_eqIntS_l0 N (fun x => some ((x, ()), ())) (fun (_ : Unit) => some ((true, ()), ())) N a b 0))
abbrev laws_eqIntS_ps : List (PV.Mode × Ty) := [(.ro, LI), (.ro, LI)]
abbrev laws_eqIntS_rs : List (Bool × Ty) := [(true, .bool)]
noncomputable def laws_eqIntS_S (N : Nat) : FSum := ⟨laws_eqIntS_ps, laws_eqIntS_rs, fun x => laws_eqIntS N x.1 x.2.1⟩
theorem laws_eqIntS_run (N : Nat) (x : argsT laws_eqIntS_ps) : laws_eqIntS N x.1 x.2.1 = funF (laws_eqIntS_G N) tab [laws_eqIntS_l0_s N] Try.f35 laws_eqIntS_ps laws_eqIntS_rs x := by kernel_rfl
theorem laws_eqIntS_pc (N : Nat) : PC Try.prog 35 (laws_eqIntS_S N) := by
  have e : laws_eqIntS_S N = ⟨laws_eqIntS_ps, laws_eqIntS_rs, funF (laws_eqIntS_G N) tab [laws_eqIntS_l0_s N] Try.f35 laws_eqIntS_ps laws_eqIntS_rs⟩ := congrArg (FSum.mk laws_eqIntS_ps laws_eqIntS_rs) (funext (laws_eqIntS_run N))
  rw [e]
  exact fun_ok (c := laws_eqIntS_code) progOk (laws_eqIntS_gok N) (draw_ok progOk (laws_eqIntS_gok N)) Try.call35 Try.func35 (by kernel_rfl) (lsOk_at (L := [laws_eqIntS_l0_s N]) ⟨laws_eqIntS_l0_ok N, trivial⟩) (by kernel_rfl) (by kernel_rfl) (by kernel_rfl) (by kernel_rfl) (by kernel_rfl)

/-! ### laws_eqIntA2 -/
noncomputable def laws_eqIntA2_G (N : Nat) : GTab := gOf []
theorem laws_eqIntA2_gok (N : Nat) : GOk Try.prog (laws_eqIntA2_G N) := gOf_ok trivial
noncomputable def laws_eqIntA2_code : Code := (Try.f140.body).getD .skip
noncomputable def laws_eqIntA2_l0_sh : Sh := ⟨[(2, .one (.adr 0 0)), (3, .one (.adr 1 0)), (5, .one (.num .i64 0))], [.box [.ro I, .ro I], .box [.ro I, .ro I]]⟩
noncomputable def laws_eqIntA2_l0_ex : List (Ex × Sh) := [(.ret, ⟨[(4, .one (.ro .bool))], []⟩), (.exit 0, ⟨[], []⟩)]
noncomputable def laws_eqIntA2_l0 {R : Type} (N : Nat) (k0 : Bool → Option R) (k1 : Unit → Option R) (_ : Nat) (o4 : Int) (o5 : Int) (o6 : Int) (o7 : Int) : Option R :=
  (br (ine o4 o6)
    (k0 false)
    ((br (ine o5 o7)
      (k0 false)
      (k1 ()))))
noncomputable def laws_eqIntA2_l0_again {R : Type} (N : Nat) (ks : (j : Nat) → ((laws_eqIntA2_l0_ex.getD j (.ret, Sh.none)).2).T → Option R) (x : laws_eqIntA2_l0_sh.T) : Option R :=
  laws_eqIntA2_l0 N (fun y0 => ks 0 ((y0, ()), ())) (fun (_ : Unit) => ks 1 ((), ())) N x.2.1.1 x.2.1.2.1 x.2.2.1.1 x.2.2.1.2.1
noncomputable def laws_eqIntA2_l0_s (N : Nat) : LSum := ⟨laws_eqIntA2_l0_sh, laws_eqIntA2_l0_ex, fun x ks => laws_eqIntA2_l0_again N ks x⟩
theorem laws_eqIntA2_l0_unr (N : Nat) (R : Type) (x : laws_eqIntA2_l0_sh.T) (ks : (j : Nat) → ((laws_eqIntA2_l0_ex.getD j (.ret, Sh.none)).2).T → Option R) : laws_eqIntA2_l0_again N ks x = unrF (laws_eqIntA2_G N) tab (loopAt laws_eqIntA2_code 0) laws_eqIntA2_l0_ex ks 3 (fill laws_eqIntA2_l0_sh x) := by kernel_rfl
theorem laws_eqIntA2_l0_ok (N : Nat) : LoopOk Try.prog Try.f140.ntmps (laws_eqIntA2_l0_s N) (loopAt laws_eqIntA2_code 0) :=
  unroll_ok (l := laws_eqIntA2_l0_s N) progOk (laws_eqIntA2_gok N) (draw_ok progOk (laws_eqIntA2_gok N)) (fun R x ks r h => ⟨3, (laws_eqIntA2_l0_unr N R x ks).symm.trans h⟩) (by kernel_rfl) (by kernel_rfl)
noncomputable def laws_eqIntA2 (N : Nat) (a : (Int × Int)) (b : (Int × Int)) : Option ((Bool × Unit) × (Unit)) :=
  laws_eqIntA2_l0 N (fun x => some ((x, ()), ())) (fun (_ : Unit) => some ((true, ()), ())) N a.1 a.2 b.1 b.2
abbrev laws_eqIntA2_ps : List (PV.Mode × Ty) := [(.ro, QII), (.ro, QII)]
abbrev laws_eqIntA2_rs : List (Bool × Ty) := [(true, .bool)]
noncomputable def laws_eqIntA2_S (N : Nat) : FSum := ⟨laws_eqIntA2_ps, laws_eqIntA2_rs, fun x => laws_eqIntA2 N x.1 x.2.1⟩
theorem laws_eqIntA2_run (N : Nat) (x : argsT laws_eqIntA2_ps) : laws_eqIntA2 N x.1 x.2.1 = funF (laws_eqIntA2_G N) tab [laws_eqIntA2_l0_s N] Try.f140 laws_eqIntA2_ps laws_eqIntA2_rs x := by kernel_rfl
theorem laws_eqIntA2_pc (N : Nat) : PC Try.prog 140 (laws_eqIntA2_S N) := by
  have e : laws_eqIntA2_S N = ⟨laws_eqIntA2_ps, laws_eqIntA2_rs, funF (laws_eqIntA2_G N) tab [laws_eqIntA2_l0_s N] Try.f140 laws_eqIntA2_ps laws_eqIntA2_rs⟩ := congrArg (FSum.mk laws_eqIntA2_ps laws_eqIntA2_rs) (funext (laws_eqIntA2_run N))
  rw [e]
  exact fun_ok (c := laws_eqIntA2_code) progOk (laws_eqIntA2_gok N) (draw_ok progOk (laws_eqIntA2_gok N)) Try.call140 Try.func140 (by kernel_rfl) (lsOk_at (L := [laws_eqIntA2_l0_s N]) ⟨laws_eqIntA2_l0_ok N, trivial⟩) (by kernel_rfl) (by kernel_rfl) (by kernel_rfl) (by kernel_rfl) (by kernel_rfl)

/-! ### laws_eqIntA2S -/
noncomputable def laws_eqIntA2S_G (N : Nat) : GTab := gOf [(140, laws_eqIntA2_S N)]
theorem laws_eqIntA2S_gok (N : Nat) : GOk Try.prog (laws_eqIntA2S_G N) := gOf_ok ⟨laws_eqIntA2_pc N, trivial⟩
noncomputable def laws_eqIntA2S_code : Code := (Try.f80.body).getD .skip
noncomputable def laws_eqIntA2S_l0_sh : Sh := ⟨[(0, .one (.ro LQII)), (1, .one (.ro LQII)), (5, .one (.ro I))], []⟩
noncomputable def laws_eqIntA2S_l0_ex : List (Ex × Sh) := [(.ret, ⟨[(4, .one (.ro .bool))], []⟩), (.exit 0, ⟨[], []⟩)]
noncomputable def laws_eqIntA2S_l0 {R : Type} (N : Nat) (k0 : Bool → Option R) (k1 : Unit → Option R) : Nat → (List (Int × Int)) → (List (Int × Int)) → Int → Option R
  | 0, _, _, _ => none
  | K + 1, a1, b1, i =>
    (br (ilt i (tLen a1))
      ((chk (inb a1 i)
        (chk (inb b1 i)
        ((laws_eqIntA2 N (rdP a1 i) (rdP b1 i)).bind fun r =>
        (br (!r.1.1)
          (k0 false)
          (laws_eqIntA2S_l0 N k0 k1 K a1 b1 (IntKind.i64.wrap (i + 1))))))))
      (k1 ()))
noncomputable def laws_eqIntA2S_l0_again {R : Type} (N : Nat) (ks : (j : Nat) → ((laws_eqIntA2S_l0_ex.getD j (.ret, Sh.none)).2).T → Option R) (k : Nat) (x : laws_eqIntA2S_l0_sh.T) : Option R :=
  laws_eqIntA2S_l0 N (fun y0 => ks 0 ((y0, ()), ())) (fun (_ : Unit) => ks 1 ((), ())) k x.1.1 x.1.2.1 x.1.2.2.1
noncomputable def laws_eqIntA2S_l0_s (N : Nat) : LSum := ⟨laws_eqIntA2S_l0_sh, laws_eqIntA2S_l0_ex, fun x ks => laws_eqIntA2S_l0_again N ks N x⟩
theorem laws_eqIntA2S_l0_step (N : Nat) (R : Type) (k : Nat) (x : laws_eqIntA2S_l0_sh.T) (ks : (j : Nat) → ((laws_eqIntA2S_l0_ex.getD j (.ret, Sh.none)).2).T → Option R) : laws_eqIntA2S_l0_again N ks (k + 1) x = roundF (laws_eqIntA2S_G N) tab [] (loopAt laws_eqIntA2S_code 0) laws_eqIntA2S_l0_sh laws_eqIntA2S_l0_ex (fun y => laws_eqIntA2S_l0_again N ks k y) ks x := by kernel_rfl
theorem laws_eqIntA2S_l0_ok (N : Nat) : LoopOk Try.prog Try.f80.ntmps (laws_eqIntA2S_l0_s N) (loopAt laws_eqIntA2S_code 0) :=
  loop_ok (l := laws_eqIntA2S_l0_s N) progOk (laws_eqIntA2S_gok N) (draw_ok progOk (laws_eqIntA2S_gok N)) (fun R k x ks => laws_eqIntA2S_l0_again N ks k x) (fun _ _ _ => rfl) (fun R k x ks => laws_eqIntA2S_l0_step N R k x ks) (fun R x ks r h => ⟨N, h⟩) (lsOk_at (L := []) trivial) (by kernel_rfl) (by kernel_rfl)
noncomputable def laws_eqIntA2S (N : Nat) (a : (List (Int × Int))) (b : (List (Int × Int))) : Option ((Bool × Unit) × (Unit)) :=
  (br (ine (tLen a) (tLen b))
    (some ((false, ()), ()))
    (laws_eqIntA2S_l0 N (fun x => some ((x, ()), ())) (fun (_ : Unit) => some ((true, ()), ())) N a b 0))
abbrev laws_eqIntA2S_ps : List (PV.Mode × Ty) := [(.ro, LQII), (.ro, LQII)]
abbrev laws_eqIntA2S_rs : List (Bool × Ty) := [(true, .bool)]
noncomputable def laws_eqIntA2S_S (N : Nat) : FSum := ⟨laws_eqIntA2S_ps, laws_eqIntA2S_rs, fun x => laws_eqIntA2S N x.1 x.2.1⟩
theorem laws_eqIntA2S_run (N : Nat) (x : argsT laws_eqIntA2S_ps) : laws_eqIntA2S N x.1 x.2.1 = funF (laws_eqIntA2S_G N) tab [laws_eqIntA2S_l0_s N] Try.f80 laws_eqIntA2S_ps laws_eqIntA2S_rs x := by kernel_rfl
theorem laws_eqIntA2S_pc (N : Nat) : PC Try.prog 80 (laws_eqIntA2S_S N) := by
  have e : laws_eqIntA2S_S N = ⟨laws_eqIntA2S_ps, laws_eqIntA2S_rs, funF (laws_eqIntA2S_G N) tab [laws_eqIntA2S_l0_s N] Try.f80 laws_eqIntA2S_ps laws_eqIntA2S_rs⟩ := congrArg (FSum.mk laws_eqIntA2S_ps laws_eqIntA2S_rs) (funext (laws_eqIntA2S_run N))
  rw [e]
  exact fun_ok (c := laws_eqIntA2S_code) progOk (laws_eqIntA2S_gok N) (draw_ok progOk (laws_eqIntA2S_gok N)) Try.call80 Try.func80 (by kernel_rfl) (lsOk_at (L := [laws_eqIntA2S_l0_s N]) ⟨laws_eqIntA2S_l0_ok N, trivial⟩) (by kernel_rfl) (by kernel_rfl) (by kernel_rfl) (by kernel_rfl) (by kernel_rfl)

/-! ### laws_eqGraph -/
noncomputable def laws_eqGraph_G (N : Nat) : GTab := gOf [(80, laws_eqIntA2S_S N)]
theorem laws_eqGraph_gok (N : Nat) : GOk Try.prog (laws_eqGraph_G N) := gOf_ok ⟨laws_eqIntA2S_pc N, trivial⟩
noncomputable def laws_eqGraph_code : Code := (Try.f36.body).getD .skip
noncomputable def laws_eqGraph (N : Nat) (a : (Int × (List (Int × Int)))) (b : (Int × (List (Int × Int)))) : Option ((Bool × Unit) × (Unit)) :=
  (br (ine a.1 b.1)
    (some ((false, ()), ()))
    (((laws_eqIntA2S N a.2 b.2).bind fun r =>
      (br (!r.1.1)
        (some ((false, ()), ()))
        (some ((true, ()), ()))))))
abbrev laws_eqGraph_ps : List (PV.Mode × Ty) := [(.ro, QILQII), (.ro, QILQII)]
abbrev laws_eqGraph_rs : List (Bool × Ty) := [(true, .bool)]
noncomputable def laws_eqGraph_S (N : Nat) : FSum := ⟨laws_eqGraph_ps, laws_eqGraph_rs, fun x => laws_eqGraph N x.1 x.2.1⟩
theorem laws_eqGraph_run (N : Nat) (x : argsT laws_eqGraph_ps) : laws_eqGraph N x.1 x.2.1 = funF (laws_eqGraph_G N) tab [] Try.f36 laws_eqGraph_ps laws_eqGraph_rs x := by kernel_rfl
theorem laws_eqGraph_pc (N : Nat) : PC Try.prog 36 (laws_eqGraph_S N) := by
  have e : laws_eqGraph_S N = ⟨laws_eqGraph_ps, laws_eqGraph_rs, funF (laws_eqGraph_G N) tab [] Try.f36 laws_eqGraph_ps laws_eqGraph_rs⟩ := congrArg (FSum.mk laws_eqGraph_ps laws_eqGraph_rs) (funext (laws_eqGraph_run N))
  rw [e]
  exact fun_ok (c := laws_eqGraph_code) progOk (laws_eqGraph_gok N) (draw_ok progOk (laws_eqGraph_gok N)) Try.call36 Try.func36 (by kernel_rfl) (lsOk_at (L := []) trivial) (by kernel_rfl) (by kernel_rfl) (by kernel_rfl) (by kernel_rfl) (by kernel_rfl)

/-! ### laws_markIntA2S -/
noncomputable def laws_markIntA2S_G (N : Nat) : GTab := gOf []
theorem laws_markIntA2S_gok (N : Nat) : GOk Try.prog (laws_markIntA2S_G N) := gOf_ok trivial
noncomputable def laws_markIntA2S_code : Code := (Try.f81.body).getD .skip
noncomputable def laws_markIntA2S_l0_0_sh : Sh := ⟨[(0, .one (.ref 0)), (1, .one (.ro I)), (5, .one (.ro I)), (6, .one (.num .i64 0))], [.sl 97 QII .own]⟩
noncomputable def laws_markIntA2S_l0_0_ex : List (Ex × Sh) := [(.exit 2, ⟨[(0, .one (.ref 0)), (1, .one (.ro I)), (5, .one (.ro I))], [.sl 97 QII .own]⟩)]
noncomputable def laws_markIntA2S_l0_0 {R : Type} (N : Nat) (k0 : Int → Int → (List (Int × Int)) → Option R) (_ : Nat) (kv3 : Int) (i2 : Int) (o2 : (List (Int × Int))) : Option R :=
  (chk (inb o2 i2)
    (chk (inb (tSet o2 i2 (kv3, (rdP o2 i2).2)) i2)
    (k0 (IntKind.i64.wrap ((IntKind.i64.wrap (kv3 + 1)) + 1)) i2 (tSet (tSet o2 i2 (kv3, (rdP o2 i2).2)) i2 ((rdP (tSet o2 i2 (kv3, (rdP o2 i2).2)) i2).1, (IntKind.i64.wrap (kv3 + 1)))))))
noncomputable def laws_markIntA2S_l0_0_again {R : Type} (N : Nat) (ks : (j : Nat) → ((laws_markIntA2S_l0_0_ex.getD j (.ret, Sh.none)).2).T → Option R) (x : laws_markIntA2S_l0_0_sh.T) : Option R :=
  laws_markIntA2S_l0_0 N (fun y0 y1 y2 => ks 0 (((), y0, y1, ()), (y2, ()))) N x.1.2.1 x.1.2.2.1 x.2.1
noncomputable def laws_markIntA2S_l0_0_s (N : Nat) : LSum := ⟨laws_markIntA2S_l0_0_sh, laws_markIntA2S_l0_0_ex, fun x ks => laws_markIntA2S_l0_0_again N ks x⟩
theorem laws_markIntA2S_l0_0_unr (N : Nat) (R : Type) (x : laws_markIntA2S_l0_0_sh.T) (ks : (j : Nat) → ((laws_markIntA2S_l0_0_ex.getD j (.ret, Sh.none)).2).T → Option R) : laws_markIntA2S_l0_0_again N ks x = unrF (laws_markIntA2S_G N) tab (loopAt (loopAt laws_markIntA2S_code 0) 0) laws_markIntA2S_l0_0_ex ks 3 (fill laws_markIntA2S_l0_0_sh x) := by kernel_rfl
theorem laws_markIntA2S_l0_0_ok (N : Nat) : LoopOk Try.prog Try.f81.ntmps (laws_markIntA2S_l0_0_s N) (loopAt (loopAt laws_markIntA2S_code 0) 0) :=
  unroll_ok (l := laws_markIntA2S_l0_0_s N) progOk (laws_markIntA2S_gok N) (draw_ok progOk (laws_markIntA2S_gok N)) (fun R x ks r h => ⟨3, (laws_markIntA2S_l0_0_unr N R x ks).symm.trans h⟩) (by kernel_rfl) (by kernel_rfl)
noncomputable def laws_markIntA2S_l0_sh : Sh := ⟨[(0, .one (.ref 0)), (1, .one (.ro I)), (5, .one (.ro I))], [.sl 97 QII .own]⟩
noncomputable def laws_markIntA2S_l0_ex : List (Ex × Sh) := [(.exit 0, ⟨[(0, .one (.ref 0)), (1, .one (.ro I))], [.sl 97 QII .own]⟩)]
noncomputable def laws_markIntA2S_l0 {R : Type} (N : Nat) (k0 : Int → (List (Int × Int)) → Option R) : Nat → Int → Int → (List (Int × Int)) → Option R
  | 0, _, _, _ => none
  | K + 1, kv1, i, o =>
    (br (ilt i (tLen o))
      (laws_markIntA2S_l0_0 N (fun kv2 i1 o1 => laws_markIntA2S_l0 N k0 K kv2 (IntKind.i64.wrap (i1 + 1)) o1) N kv1 i o)
      (k0 kv1 o))
noncomputable def laws_markIntA2S_l0_again {R : Type} (N : Nat) (ks : (j : Nat) → ((laws_markIntA2S_l0_ex.getD j (.ret, Sh.none)).2).T → Option R) (k : Nat) (x : laws_markIntA2S_l0_sh.T) : Option R :=
  laws_markIntA2S_l0 N (fun y0 y1 => ks 0 (((), y0, ()), (y1, ()))) k x.1.2.1 x.1.2.2.1 x.2.1
noncomputable def laws_markIntA2S_l0_s (N : Nat) : LSum := ⟨laws_markIntA2S_l0_sh, laws_markIntA2S_l0_ex, fun x ks => laws_markIntA2S_l0_again N ks N x⟩
theorem laws_markIntA2S_l0_step (N : Nat) (R : Type) (k : Nat) (x : laws_markIntA2S_l0_sh.T) (ks : (j : Nat) → ((laws_markIntA2S_l0_ex.getD j (.ret, Sh.none)).2).T → Option R) : laws_markIntA2S_l0_again N ks (k + 1) x = roundF (laws_markIntA2S_G N) tab [laws_markIntA2S_l0_0_s N] (loopAt laws_markIntA2S_code 0) laws_markIntA2S_l0_sh laws_markIntA2S_l0_ex (fun y => laws_markIntA2S_l0_again N ks k y) ks x := by kernel_rfl
theorem laws_markIntA2S_l0_ok (N : Nat) : LoopOk Try.prog Try.f81.ntmps (laws_markIntA2S_l0_s N) (loopAt laws_markIntA2S_code 0) :=
  loop_ok (l := laws_markIntA2S_l0_s N) progOk (laws_markIntA2S_gok N) (draw_ok progOk (laws_markIntA2S_gok N)) (fun R k x ks => laws_markIntA2S_l0_again N ks k x) (fun _ _ _ => rfl) (fun R k x ks => laws_markIntA2S_l0_step N R k x ks) (fun R x ks r h => ⟨N, h⟩) (lsOk_at (L := [laws_markIntA2S_l0_0_s N]) ⟨laws_markIntA2S_l0_0_ok N, trivial⟩) (by kernel_rfl) (by kernel_rfl)
noncomputable def laws_markIntA2S (N : Nat) (a : (List (Int × Int))) (kv : Int) : Option ((Int × Unit) × ((List (Int × Int)) × Unit)) :=
  laws_markIntA2S_l0 N (fun kv1 o => some ((kv1, ()), (o, ()))) N kv 0 a
abbrev laws_markIntA2S_ps : List (PV.Mode × Ty) := [(.mut, LQII), (.ro, I)]
abbrev laws_markIntA2S_rs : List (Bool × Ty) := [(true, I)]
noncomputable def laws_markIntA2S_S (N : Nat) : FSum := ⟨laws_markIntA2S_ps, laws_markIntA2S_rs, fun x => laws_markIntA2S N x.1 x.2.1⟩
theorem laws_markIntA2S_run (N : Nat) (x : argsT laws_markIntA2S_ps) : laws_markIntA2S N x.1 x.2.1 = funF (laws_markIntA2S_G N) tab [laws_markIntA2S_l0_s N] Try.f81 laws_markIntA2S_ps laws_markIntA2S_rs x := by kernel_rfl
theorem laws_markIntA2S_pc (N : Nat) : PC Try.prog 81 (laws_markIntA2S_S N) := by
  have e : laws_markIntA2S_S N = ⟨laws_markIntA2S_ps, laws_markIntA2S_rs, funF (laws_markIntA2S_G N) tab [laws_markIntA2S_l0_s N] Try.f81 laws_markIntA2S_ps laws_markIntA2S_rs⟩ := congrArg (FSum.mk laws_markIntA2S_ps laws_markIntA2S_rs) (funext (laws_markIntA2S_run N))
  rw [e]
  exact fun_ok (c := laws_markIntA2S_code) progOk (laws_markIntA2S_gok N) (draw_ok progOk (laws_markIntA2S_gok N)) Try.call81 Try.func81 (by kernel_rfl) (lsOk_at (L := [laws_markIntA2S_l0_s N]) ⟨laws_markIntA2S_l0_ok N, trivial⟩) (by kernel_rfl) (by kernel_rfl) (by kernel_rfl) (by kernel_rfl) (by kernel_rfl)

/-! ### laws_markGraph -/
noncomputable def laws_markGraph_G (N : Nat) : GTab := gOf [(81, laws_markIntA2S_S N)]
theorem laws_markGraph_gok (N : Nat) : GOk Try.prog (laws_markGraph_G N) := gOf_ok ⟨laws_markIntA2S_pc N, trivial⟩
noncomputable def laws_markGraph_code : Code := (Try.f37.body).getD .skip
noncomputable def laws_markGraph (N : Nat) (a : (Int × (List (Int × Int)))) (kv : Int) : Option ((Int × Unit) × ((Int × (List (Int × Int))) × Unit)) :=
  ((laws_markIntA2S N a.2 kv).bind fun r =>
    some ((r.1.1, ()), ((a.1, r.2.1), ())))
abbrev laws_markGraph_ps : List (PV.Mode × Ty) := [(.mut, QILQII), (.ro, I)]
abbrev laws_markGraph_rs : List (Bool × Ty) := [(true, I)]
noncomputable def laws_markGraph_S (N : Nat) : FSum := ⟨laws_markGraph_ps, laws_markGraph_rs, fun x => laws_markGraph N x.1 x.2.1⟩
theorem laws_markGraph_run (N : Nat) (x : argsT laws_markGraph_ps) : laws_markGraph N x.1 x.2.1 = funF (laws_markGraph_G N) tab [] Try.f37 laws_markGraph_ps laws_markGraph_rs x := by kernel_rfl
theorem laws_markGraph_pc (N : Nat) : PC Try.prog 37 (laws_markGraph_S N) := by
  have e : laws_markGraph_S N = ⟨laws_markGraph_ps, laws_markGraph_rs, funF (laws_markGraph_G N) tab [] Try.f37 laws_markGraph_ps laws_markGraph_rs⟩ := congrArg (FSum.mk laws_markGraph_ps laws_markGraph_rs) (funext (laws_markGraph_run N))
  rw [e]
  exact fun_ok (c := laws_markGraph_code) progOk (laws_markGraph_gok N) (draw_ok progOk (laws_markGraph_gok N)) Try.call37 Try.func37 (by kernel_rfl) (lsOk_at (L := []) trivial) (by kernel_rfl) (by kernel_rfl) (by kernel_rfl) (by kernel_rfl) (by kernel_rfl)

/-! ### laws_markIntS -/
noncomputable def laws_markIntS_G (N : Nat) : GTab := gOf []
theorem laws_markIntS_gok (N : Nat) : GOk Try.prog (laws_markIntS_G N) := gOf_ok trivial
noncomputable def laws_markIntS_code : Code := (Try.f38.body).getD .skip
noncomputable def laws_markIntS_l0_sh : Sh := ⟨[(0, .one (.ref 0)), (1, .one (.ro I)), (5, .one (.ro I))], [.sl 3 I .own]⟩
noncomputable def laws_markIntS_l0_ex : List (Ex × Sh) := [(.exit 0, ⟨[(0, .one (.ref 0)), (1, .one (.ro I))], [.sl 3 I .own]⟩)]
noncomputable def laws_markIntS_l0 {R : Type} (N : Nat) (k0 : Int → (List Int) → Option R) : Nat → Int → Int → (List Int) → Option R
  | 0, _, _, _ => none
  | K + 1, kv1, i, o =>
    (br (ilt i (tLen o))
      ((chk (inb o i)
        (laws_markIntS_l0 N k0 K (IntKind.i64.wrap (kv1 + 1)) (IntKind.i64.wrap (i + 1)) (tSet o i kv1))))
      (k0 kv1 o))
noncomputable def laws_markIntS_l0_again {R : Type} (N : Nat) (ks : (j : Nat) → ((laws_markIntS_l0_ex.getD j (.ret, Sh.none)).2).T → Option R) (k : Nat) (x : laws_markIntS_l0_sh.T) : Option R :=
  laws_markIntS_l0 N (fun y0 y1 => ks 0 (((), y0, ()), (y1, ()))) k x.1.2.1 x.1.2.2.1 x.2.1
noncomputable def laws_markIntS_l0_s (N : Nat) : LSum := ⟨laws_markIntS_l0_sh, laws_markIntS_l0_ex, fun x ks => laws_markIntS_l0_again N ks N x⟩
theorem laws_markIntS_l0_step (N : Nat) (R : Type) (k : Nat) (x : laws_markIntS_l0_sh.T) (ks : (j : Nat) → ((laws_markIntS_l0_ex.getD j (.ret, Sh.none)).2).T → Option R) : laws_markIntS_l0_again N ks (k + 1) x = roundF (laws_markIntS_G N) tab [] (loopAt laws_markIntS_code 0) laws_markIntS_l0_sh laws_markIntS_l0_ex (fun y => laws_markIntS_l0_again N ks k y) ks x := by kernel_rfl
theorem laws_markIntS_l0_ok (N : Nat) : LoopOk Try.prog Try.f38.ntmps (laws_markIntS_l0_s N) (loopAt laws_markIntS_code 0) :=
  loop_ok (l := laws_markIntS_l0_s N) progOk (laws_markIntS_gok N) (draw_ok progOk (laws_markIntS_gok N)) (fun R k x ks => laws_markIntS_l0_again N ks k x) (fun _ _ _ => rfl) (fun R k x ks => laws_markIntS_l0_step N R k x ks) (fun R x ks r h => ⟨N, h⟩) (lsOk_at (L := []) trivial) (by kernel_rfl) (by kernel_rfl)
noncomputable def laws_markIntS (N : Nat) (a : (List Int)) (kv : Int) : Option ((Int × Unit) × ((List Int) × Unit)) :=
  laws_markIntS_l0 N (fun kv1 o => some ((kv1, ()), (o, ()))) N kv 0 a
abbrev laws_markIntS_ps : List (PV.Mode × Ty) := [(.mut, LI), (.ro, I)]
abbrev laws_markIntS_rs : List (Bool × Ty) := [(true, I)]
noncomputable def laws_markIntS_S (N : Nat) : FSum := ⟨laws_markIntS_ps, laws_markIntS_rs, fun x => laws_markIntS N x.1 x.2.1⟩
theorem laws_markIntS_run (N : Nat) (x : argsT laws_markIntS_ps) : laws_markIntS N x.1 x.2.1 = funF (laws_markIntS_G N) tab [laws_markIntS_l0_s N] Try.f38 laws_markIntS_ps laws_markIntS_rs x := by kernel_rfl
theorem laws_markIntS_pc (N : Nat) : PC Try.prog 38 (laws_markIntS_S N) := by
  have e : laws_markIntS_S N = ⟨laws_markIntS_ps, laws_markIntS_rs, funF (laws_markIntS_G N) tab [laws_markIntS_l0_s N] Try.f38 laws_markIntS_ps laws_markIntS_rs⟩ := congrArg (FSum.mk laws_markIntS_ps laws_markIntS_rs) (funext (laws_markIntS_run N))
  rw [e]
  exact fun_ok (c := laws_markIntS_code) progOk (laws_markIntS_gok N) (draw_ok progOk (laws_markIntS_gok N)) Try.call38 Try.func38 (by kernel_rfl) (lsOk_at (L := [laws_markIntS_l0_s N]) ⟨laws_markIntS_l0_ok N, trivial⟩) (by kernel_rfl) (by kernel_rfl) (by kernel_rfl) (by kernel_rfl) (by kernel_rfl)
end Go.Proofs.Ythkejedgfhjdiaa
