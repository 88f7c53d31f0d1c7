/- Functions of the program as functions on data. -/
import Derived.Test.YtbnebekejbhopaaWindingOfFa
set_option linter.all false
namespace Go.Proofs.Ytbnebekejbhopaa
open Go Go.PV
/-! ### slices_ContainsFunc_LLI_LI -/
noncomputable def slices_ContainsFunc_LLI_LI_G (N : Nat) : GTab := gOf [(101, slices_IndexFunc_LLI_LI_S N)]
theorem slices_ContainsFunc_LLI_LI_gok (N : Nat) : GOk Try.prog (slices_ContainsFunc_LLI_LI_G N) := gOf_ok ⟨slices_IndexFunc_LLI_LI_pc N, trivial⟩
noncomputable def slices_ContainsFunc_LLI_LI_code : Code := (Try.f66.body).getD .skip
noncomputable def slices_ContainsFunc_LLI_LI (N : Nat) (s : (List (List Int))) (f : ((List Int) → Option Bool)) : Option ((Bool × Unit) × (Unit)) :=
  ((slices_IndexFunc_LLI_LI N s f).bind fun r =>
    some (((ile 0 r.1.1), ()), ()))
abbrev slices_ContainsFunc_LLI_LI_ps : List (PV.Mode × Ty) := [(.ro, LLI), (.ro, FLIBo)]
abbrev slices_ContainsFunc_LLI_LI_rs : List (Bool × Ty) := [(true, .bool)]
noncomputable def slices_ContainsFunc_LLI_LI_S (N : Nat) : FSum := ⟨slices_ContainsFunc_LLI_LI_ps, slices_ContainsFunc_LLI_LI_rs, fun x => slices_ContainsFunc_LLI_LI N x.1 x.2.1⟩
theorem slices_ContainsFunc_LLI_LI_run (N : Nat) (x : argsT slices_ContainsFunc_LLI_LI_ps) : slices_ContainsFunc_LLI_LI N x.1 x.2.1 = funF (slices_ContainsFunc_LLI_LI_G N) tab [] Try.f66 slices_ContainsFunc_LLI_LI_ps slices_ContainsFunc_LLI_LI_rs x := by kernel_rfl
theorem slices_ContainsFunc_LLI_LI_pc (N : Nat) : PC Try.prog 66 (slices_ContainsFunc_LLI_LI_S N) := by
  have e : slices_ContainsFunc_LLI_LI_S N = ⟨slices_ContainsFunc_LLI_LI_ps, slices_ContainsFunc_LLI_LI_rs, funF (slices_ContainsFunc_LLI_LI_G N) tab [] Try.f66 slices_ContainsFunc_LLI_LI_ps slices_ContainsFunc_LLI_LI_rs⟩ := congrArg (FSum.mk slices_ContainsFunc_LLI_LI_ps slices_ContainsFunc_LLI_LI_rs) (funext (slices_ContainsFunc_LLI_LI_run N))
  rw [e]
  exact fun_ok (c := slices_ContainsFunc_LLI_LI_code) progOk (slices_ContainsFunc_LLI_LI_gok N) (draw_ok progOk (slices_ContainsFunc_LLI_LI_gok N)) Try.call66 Try.func66 (by kernel_rfl) (lsOk_at (L := []) trivial) (by kernel_rfl) (by kernel_rfl) (by kernel_rfl) (by kernel_rfl) (by kernel_rfl)

/-! ### slices_IndexFunc_LI_int -/
noncomputable def slices_IndexFunc_LI_int_G (N : Nat) : GTab := gOf []
theorem slices_IndexFunc_LI_int_gok (N : Nat) : GOk Try.prog (slices_IndexFunc_LI_int_G N) := gOf_ok trivial
noncomputable def slices_IndexFunc_LI_int_code : Code := (Try.f119.body).getD .skip
noncomputable def slices_IndexFunc_LI_int_l0_sh : Sh := ⟨[(0, .one (.ro LI)), (1, .one (.ro FIBo)), (7, .one (.ro I)), (8, .one (.ro I))], []⟩
noncomputable def slices_IndexFunc_LI_int_l0_ex : List (Ex × Sh) := [(.ret, ⟨[(4, .one (.ro I))], []⟩), (.exit 0, ⟨[], []⟩)]
noncomputable def slices_IndexFunc_LI_int_l0 {R : Type} (N : Nat) (k0 : Int → Option R) (k1 : Unit → Option R) : Nat → (List Int) → (Int → Option Bool) → Int → Int → Option R
  | 0, _, _, _, _ => none
  | K + 1, s1, f1, x, x1 =>
    (br (ilt x1 x)
      ((chk (inb s1 x1)
        ((f1 (rdI s1 x1)).bind fun v =>
        (br v
        (k0 x1)
        (slices_IndexFunc_LI_int_l0 N k0 k1 K s1 f1 x (IntKind.i64.wrap (x1 + 1)))))))
      (k1 ()))
noncomputable def slices_IndexFunc_LI_int_l0_again {R : Type} (N : Nat) (ks : (j : Nat) → ((slices_IndexFunc_LI_int_l0_ex.getD j (.ret, Sh.none)).2).T → Option R) (k : Nat) (x : slices_IndexFunc_LI_int_l0_sh.T) : Option R :=
  slices_IndexFunc_LI_int_l0 N (fun y0 => ks 0 ((y0, ()), ())) (fun (_ : Unit) => ks 1 ((), ())) k x.1.1 x.1.2.1 x.1.2.2.1 x.1.2.2.2.1
noncomputable def slices_IndexFunc_LI_int_l0_s (N : Nat) : LSum := ⟨slices_IndexFunc_LI_int_l0_sh, slices_IndexFunc_LI_int_l0_ex, fun x ks => slices_IndexFunc_LI_int_l0_again N ks N x⟩
theorem slices_IndexFunc_LI_int_l0_step (N : Nat) (R : Type) (k : Nat) (x : slices_IndexFunc_LI_int_l0_sh.T) (ks : (j : Nat) → ((slices_IndexFunc_LI_int_l0_ex.getD j (.ret, Sh.none)).2).T → Option R) : slices_IndexFunc_LI_int_l0_again N ks (k + 1) x = roundF (slices_IndexFunc_LI_int_G N) tab [] (loopAt slices_IndexFunc_LI_int_code 0) slices_IndexFunc_LI_int_l0_sh slices_IndexFunc_LI_int_l0_ex (fun y => slices_IndexFunc_LI_int_l0_again N ks k y) ks x := by kernel_rfl
theorem slices_IndexFunc_LI_int_l0_ok (N : Nat) : LoopOk Try.prog Try.f119.ntmps (slices_IndexFunc_LI_int_l0_s N) (loopAt slices_IndexFunc_LI_int_code 0) :=
  loop_ok (l := slices_IndexFunc_LI_int_l0_s N) progOk (slices_IndexFunc_LI_int_gok N) (draw_ok progOk (slices_IndexFunc_LI_int_gok N)) (fun R k x ks => slices_IndexFunc_LI_int_l0_again N ks k x) (fun _ _ _ => rfl) (fun R k x ks => slices_IndexFunc_LI_int_l0_step N R k x ks) (fun R x ks r h => ⟨N, h⟩) (lsOk_at (L := []) trivial) (by kernel_rfl) (by kernel_rfl)
noncomputable def slices_IndexFunc_LI_int (N : Nat) (s : (List Int)) (f : (Int → Option Bool)) : Option ((Int × Unit) × (Unit)) :=
  slices_IndexFunc_LI_int_l0 N (fun x => some ((x, ()), ())) (fun (_ : Unit) => some (((-1), ()), ())) N s f (tLen s) 0
abbrev slices_IndexFunc_LI_int_ps : List (PV.Mode × Ty) := [(.ro, LI), (.ro, FIBo)]
abbrev slices_IndexFunc_LI_int_rs : List (Bool × Ty) := [(true, I)]
noncomputable def slices_IndexFunc_LI_int_S (N : Nat) : FSum := ⟨slices_IndexFunc_LI_int_ps, slices_IndexFunc_LI_int_rs, fun x => slices_IndexFunc_LI_int N x.1 x.2.1⟩
theorem slices_IndexFunc_LI_int_run (N : Nat) (x : argsT slices_IndexFunc_LI_int_ps) : slices_IndexFunc_LI_int N x.1 x.2.1 = funF (slices_IndexFunc_LI_int_G N) tab [slices_IndexFunc_LI_int_l0_s N] Try.f119 slices_IndexFunc_LI_int_ps slices_IndexFunc_LI_int_rs x := by kernel_rfl
theorem slices_IndexFunc_LI_int_pc (N : Nat) : PC Try.prog 119 (slices_IndexFunc_LI_int_S N) := by
  have e : slices_IndexFunc_LI_int_S N = ⟨slices_IndexFunc_LI_int_ps, slices_IndexFunc_LI_int_rs, funF (slices_IndexFunc_LI_int_G N) tab [slices_IndexFunc_LI_int_l0_s N] Try.f119 slices_IndexFunc_LI_int_ps slices_IndexFunc_LI_int_rs⟩ := congrArg (FSum.mk slices_IndexFunc_LI_int_ps slices_IndexFunc_LI_int_rs) (funext (slices_IndexFunc_LI_int_run N))
  rw [e]
  exact fun_ok (c := slices_IndexFunc_LI_int_code) progOk (slices_IndexFunc_LI_int_gok N) (draw_ok progOk (slices_IndexFunc_LI_int_gok N)) Try.call119 Try.func119 (by kernel_rfl) (lsOk_at (L := [slices_IndexFunc_LI_int_l0_s N]) ⟨slices_IndexFunc_LI_int_l0_ok N, trivial⟩) (by kernel_rfl) (by kernel_rfl) (by kernel_rfl) (by kernel_rfl) (by kernel_rfl)

/-! ### slices_ContainsFunc_LI_int -/
noncomputable def slices_ContainsFunc_LI_int_G (N : Nat) : GTab := gOf [(119, slices_IndexFunc_LI_int_S N)]
theorem slices_ContainsFunc_LI_int_gok (N : Nat) : GOk Try.prog (slices_ContainsFunc_LI_int_G N) := gOf_ok ⟨slices_IndexFunc_LI_int_pc N, trivial⟩
noncomputable def slices_ContainsFunc_LI_int_code : Code := (Try.f97.body).getD .skip
noncomputable def slices_ContainsFunc_LI_int (N : Nat) (s : (List Int)) (f : (Int → Option Bool)) : Option ((Bool × Unit) × (Unit)) :=
  ((slices_IndexFunc_LI_int N s f).bind fun r =>
    some (((ile 0 r.1.1), ()), ()))
abbrev slices_ContainsFunc_LI_int_ps : List (PV.Mode × Ty) := [(.ro, LI), (.ro, FIBo)]
abbrev slices_ContainsFunc_LI_int_rs : List (Bool × Ty) := [(true, .bool)]
noncomputable def slices_ContainsFunc_LI_int_S (N : Nat) : FSum := ⟨slices_ContainsFunc_LI_int_ps, slices_ContainsFunc_LI_int_rs, fun x => slices_ContainsFunc_LI_int N x.1 x.2.1⟩
theorem slices_ContainsFunc_LI_int_run (N : Nat) (x : argsT slices_ContainsFunc_LI_int_ps) : slices_ContainsFunc_LI_int N x.1 x.2.1 = funF (slices_ContainsFunc_LI_int_G N) tab [] Try.f97 slices_ContainsFunc_LI_int_ps slices_ContainsFunc_LI_int_rs x := by kernel_rfl
theorem slices_ContainsFunc_LI_int_pc (N : Nat) : PC Try.prog 97 (slices_ContainsFunc_LI_int_S N) := by
  have e : slices_ContainsFunc_LI_int_S N = ⟨slices_ContainsFunc_LI_int_ps, slices_ContainsFunc_LI_int_rs, funF (slices_ContainsFunc_LI_int_G N) tab [] Try.f97 slices_ContainsFunc_LI_int_ps slices_ContainsFunc_LI_int_rs⟩ := congrArg (FSum.mk slices_ContainsFunc_LI_int_ps slices_ContainsFunc_LI_int_rs) (funext (slices_ContainsFunc_LI_int_run N))
  rw [e]
  exact fun_ok (c := slices_ContainsFunc_LI_int_code) progOk (slices_ContainsFunc_LI_int_gok N) (draw_ok progOk (slices_ContainsFunc_LI_int_gok N)) Try.call97 Try.func97 (by kernel_rfl) (lsOk_at (L := []) trivial) (by kernel_rfl) (by kernel_rfl) (by kernel_rfl) (by kernel_rfl) (by kernel_rfl)

/-! ### impl_Graph_isColouring_c1 -/
noncomputable def impl_Graph_isColouring_c1_G (N : Nat) : GTab := gOf [(62, impl_between_S N)]
theorem impl_Graph_isColouring_c1_gok (N : Nat) : GOk Try.prog (impl_Graph_isColouring_c1_G N) := gOf_ok ⟨impl_between_pc N, trivial⟩
noncomputable def impl_Graph_isColouring_c1_code : Code := (Try.f110.body).getD .skip
noncomputable def impl_Graph_isColouring_c1 (N : Nat) (c : Int) (c1 : Int) : Option ((Bool × Unit) × (Unit)) :=
  ((impl_between N c 0 (IntKind.i64.wrap (c1 - 1))).bind fun r =>
    some (((!r.1.1), ()), ()))
abbrev impl_Graph_isColouring_c1_ps : List (PV.Mode × Ty) := [(.ro, I), (.ro, AI)]
abbrev impl_Graph_isColouring_c1_rs : List (Bool × Ty) := [(true, .bool)]
noncomputable def impl_Graph_isColouring_c1_S (N : Nat) : FSum := ⟨impl_Graph_isColouring_c1_ps, impl_Graph_isColouring_c1_rs, fun x => impl_Graph_isColouring_c1 N x.1 x.2.1⟩
theorem impl_Graph_isColouring_c1_run (N : Nat) (x : argsT impl_Graph_isColouring_c1_ps) : impl_Graph_isColouring_c1 N x.1 x.2.1 = funF (impl_Graph_isColouring_c1_G N) tab [] Try.f110 impl_Graph_isColouring_c1_ps impl_Graph_isColouring_c1_rs x := by kernel_rfl
theorem impl_Graph_isColouring_c1_pc (N : Nat) : PC Try.prog 110 (impl_Graph_isColouring_c1_S N) := by
  have e : impl_Graph_isColouring_c1_S N = ⟨impl_Graph_isColouring_c1_ps, impl_Graph_isColouring_c1_rs, funF (impl_Graph_isColouring_c1_G N) tab [] Try.f110 impl_Graph_isColouring_c1_ps impl_Graph_isColouring_c1_rs⟩ := congrArg (FSum.mk impl_Graph_isColouring_c1_ps impl_Graph_isColouring_c1_rs) (funext (impl_Graph_isColouring_c1_run N))
  rw [e]
  exact fun_ok (c := impl_Graph_isColouring_c1_code) progOk (impl_Graph_isColouring_c1_gok N) (draw_ok progOk (impl_Graph_isColouring_c1_gok N)) Try.call110 Try.func110 (by kernel_rfl) (lsOk_at (L := []) trivial) (by kernel_rfl) (by kernel_rfl) (by kernel_rfl) (by kernel_rfl) (by kernel_rfl)

/-! ### slices_IndexFunc_LP_P2 -/
noncomputable def slices_IndexFunc_LP_P2_G (N : Nat) : GTab := gOf []
theorem slices_IndexFunc_LP_P2_gok (N : Nat) : GOk Try.prog (slices_IndexFunc_LP_P2_G N) := gOf_ok trivial
noncomputable def slices_IndexFunc_LP_P2_code : Code := (Try.f122.body).getD .skip
noncomputable def slices_IndexFunc_LP_P2_l0_sh : Sh := ⟨[(0, .one (.ro LQII)), (1, .one (.ro FQIIBo)), (7, .one (.ro I)), (8, .one (.ro I))], []⟩
noncomputable def slices_IndexFunc_LP_P2_l0_ex : List (Ex × Sh) := [(.ret, ⟨[(4, .one (.ro I))], []⟩), (.exit 0, ⟨[], []⟩)]
noncomputable def slices_IndexFunc_LP_P2_l0 {R : Type} (N : Nat) (k0 : Int → Option R) (k1 : Unit → Option R) : Nat → (List (Int × Int)) → ((Int × Int) → Option Bool) → Int → Int → Option R
  | 0, _, _, _, _ => none
  | K + 1, s1, f1, x, x1 =>
    (br (ilt x1 x)
      ((chk (inb s1 x1)
        ((f1 (rdP s1 x1)).bind fun v =>
        (br v
        (k0 x1)
        (slices_IndexFunc_LP_P2_l0 N k0 k1 K s1 f1 x (IntKind.i64.wrap (x1 + 1)))))))
      (k1 ()))
noncomputable def slices_IndexFunc_LP_P2_l0_again {R : Type} (N : Nat) (ks : (j : Nat) → ((slices_IndexFunc_LP_P2_l0_ex.getD j (.ret, Sh.none)).2).T → Option R) (k : Nat) (x : slices_IndexFunc_LP_P2_l0_sh.T) : Option R :=
  slices_IndexFunc_LP_P2_l0 N (fun y0 => ks 0 ((y0, ()), ())) (fun (_ : Unit) => ks 1 ((), ())) k x.1.1 x.1.2.1 x.1.2.2.1 x.1.2.2.2.1
noncomputable def slices_IndexFunc_LP_P2_l0_s (N : Nat) : LSum := ⟨slices_IndexFunc_LP_P2_l0_sh, slices_IndexFunc_LP_P2_l0_ex, fun x ks => slices_IndexFunc_LP_P2_l0_again N ks N x⟩
theorem slices_IndexFunc_LP_P2_l0_step (N : Nat) (R : Type) (k : Nat) (x : slices_IndexFunc_LP_P2_l0_sh.T) (ks : (j : Nat) → ((slices_IndexFunc_LP_P2_l0_ex.getD j (.ret, Sh.none)).2).T → Option R) : slices_IndexFunc_LP_P2_l0_again N ks (k + 1) x = roundF (slices_IndexFunc_LP_P2_G N) tab [] (loopAt slices_IndexFunc_LP_P2_code 0) slices_IndexFunc_LP_P2_l0_sh slices_IndexFunc_LP_P2_l0_ex (fun y => slices_IndexFunc_LP_P2_l0_again N ks k y) ks x := by kernel_rfl
theorem slices_IndexFunc_LP_P2_l0_ok (N : Nat) : LoopOk Try.prog Try.f122.ntmps (slices_IndexFunc_LP_P2_l0_s N) (loopAt slices_IndexFunc_LP_P2_code 0) :=
  loop_ok (l := slices_IndexFunc_LP_P2_l0_s N) progOk (slices_IndexFunc_LP_P2_gok N) (draw_ok progOk (slices_IndexFunc_LP_P2_gok N)) (fun R k x ks => slices_IndexFunc_LP_P2_l0_again N ks k x) (fun _ _ _ => rfl) (fun R k x ks => slices_IndexFunc_LP_P2_l0_step N R k x ks) (fun R x ks r h => ⟨N, h⟩) (lsOk_at (L := []) trivial) (by kernel_rfl) (by kernel_rfl)
noncomputable def slices_IndexFunc_LP_P2 (N : Nat) (s : (List (Int × Int))) (f : ((Int × Int) → Option Bool)) : Option ((Int × Unit) × (Unit)) :=
  slices_IndexFunc_LP_P2_l0 N (fun x => some ((x, ()), ())) (fun (_ : Unit) => some (((-1), ()), ())) N s f (tLen s) 0
abbrev slices_IndexFunc_LP_P2_ps : List (PV.Mode × Ty) := [(.ro, LQII), (.ro, FQIIBo)]
abbrev slices_IndexFunc_LP_P2_rs : List (Bool × Ty) := [(true, I)]
noncomputable def slices_IndexFunc_LP_P2_S (N : Nat) : FSum := ⟨slices_IndexFunc_LP_P2_ps, slices_IndexFunc_LP_P2_rs, fun x => slices_IndexFunc_LP_P2 N x.1 x.2.1⟩
theorem slices_IndexFunc_LP_P2_run (N : Nat) (x : argsT slices_IndexFunc_LP_P2_ps) : slices_IndexFunc_LP_P2 N x.1 x.2.1 = funF (slices_IndexFunc_LP_P2_G N) tab [slices_IndexFunc_LP_P2_l0_s N] Try.f122 slices_IndexFunc_LP_P2_ps slices_IndexFunc_LP_P2_rs x := by kernel_rfl
theorem slices_IndexFunc_LP_P2_pc (N : Nat) : PC Try.prog 122 (slices_IndexFunc_LP_P2_S N) := by
  have e : slices_IndexFunc_LP_P2_S N = ⟨slices_IndexFunc_LP_P2_ps, slices_IndexFunc_LP_P2_rs, funF (slices_IndexFunc_LP_P2_G N) tab [slices_IndexFunc_LP_P2_l0_s N] Try.f122 slices_IndexFunc_LP_P2_ps slices_IndexFunc_LP_P2_rs⟩ := congrArg (FSum.mk slices_IndexFunc_LP_P2_ps slices_IndexFunc_LP_P2_rs) (funext (slices_IndexFunc_LP_P2_run N))
  rw [e]
  exact fun_ok (c := slices_IndexFunc_LP_P2_code) progOk (slices_IndexFunc_LP_P2_gok N) (draw_ok progOk (slices_IndexFunc_LP_P2_gok N)) Try.call122 Try.func122 (by kernel_rfl) (lsOk_at (L := [slices_IndexFunc_LP_P2_l0_s N]) ⟨slices_IndexFunc_LP_P2_l0_ok N, trivial⟩) (by kernel_rfl) (by kernel_rfl) (by kernel_rfl) (by kernel_rfl) (by kernel_rfl)

/-! ### slices_ContainsFunc_LP_P2 -/
noncomputable def slices_ContainsFunc_LP_P2_G (N : Nat) : GTab := gOf [(122, slices_IndexFunc_LP_P2_S N)]
theorem slices_ContainsFunc_LP_P2_gok (N : Nat) : GOk Try.prog (slices_ContainsFunc_LP_P2_G N) := gOf_ok ⟨slices_IndexFunc_LP_P2_pc N, trivial⟩
noncomputable def slices_ContainsFunc_LP_P2_code : Code := (Try.f111.body).getD .skip
noncomputable def slices_ContainsFunc_LP_P2 (N : Nat) (s : (List (Int × Int))) (f : ((Int × Int) → Option Bool)) : Option ((Bool × Unit) × (Unit)) :=
  ((slices_IndexFunc_LP_P2 N s f).bind fun r =>
    some (((ile 0 r.1.1), ()), ()))
abbrev slices_ContainsFunc_LP_P2_ps : List (PV.Mode × Ty) := [(.ro, LQII), (.ro, FQIIBo)]
abbrev slices_ContainsFunc_LP_P2_rs : List (Bool × Ty) := [(true, .bool)]
noncomputable def slices_ContainsFunc_LP_P2_S (N : Nat) : FSum := ⟨slices_ContainsFunc_LP_P2_ps, slices_ContainsFunc_LP_P2_rs, fun x => slices_ContainsFunc_LP_P2 N x.1 x.2.1⟩
theorem slices_ContainsFunc_LP_P2_run (N : Nat) (x : argsT slices_ContainsFunc_LP_P2_ps) : slices_ContainsFunc_LP_P2 N x.1 x.2.1 = funF (slices_ContainsFunc_LP_P2_G N) tab [] Try.f111 slices_ContainsFunc_LP_P2_ps slices_ContainsFunc_LP_P2_rs x := by kernel_rfl
theorem slices_ContainsFunc_LP_P2_pc (N : Nat) : PC Try.prog 111 (slices_ContainsFunc_LP_P2_S N) := by
  have e : slices_ContainsFunc_LP_P2_S N = ⟨slices_ContainsFunc_LP_P2_ps, slices_ContainsFunc_LP_P2_rs, funF (slices_ContainsFunc_LP_P2_G N) tab [] Try.f111 slices_ContainsFunc_LP_P2_ps slices_ContainsFunc_LP_P2_rs⟩ := congrArg (FSum.mk slices_ContainsFunc_LP_P2_ps slices_ContainsFunc_LP_P2_rs) (funext (slices_ContainsFunc_LP_P2_run N))
  rw [e]
  exact fun_ok (c := slices_ContainsFunc_LP_P2_code) progOk (slices_ContainsFunc_LP_P2_gok N) (draw_ok progOk (slices_ContainsFunc_LP_P2_gok N)) Try.call111 Try.func111 (by kernel_rfl) (lsOk_at (L := []) trivial) (by kernel_rfl) (by kernel_rfl) (by kernel_rfl) (by kernel_rfl) (by kernel_rfl)

/-! ### impl_Graph_isColouring_c2 -/
noncomputable def impl_Graph_isColouring_c2_G (N : Nat) : GTab := gOf []
theorem impl_Graph_isColouring_c2_gok (N : Nat) : GOk Try.prog (impl_Graph_isColouring_c2_G N) := gOf_ok trivial
noncomputable def impl_Graph_isColouring_c2_code : Code := (Try.f112.body).getD .skip
noncomputable def impl_Graph_isColouring_c2 (N : Nat) (e : (Int × Int)) (c : (List Int)) : Option ((Bool × Unit) × (Unit)) :=
  (chk (inb c e.1)
    (chk (inb c e.2)
    (some (((ieq (rdI c e.1) (rdI c e.2)), ()), ()))))
abbrev impl_Graph_isColouring_c2_ps : List (PV.Mode × Ty) := [(.ro, QII), (.ro, ALI)]
abbrev impl_Graph_isColouring_c2_rs : List (Bool × Ty) := [(true, .bool)]
noncomputable def impl_Graph_isColouring_c2_S (N : Nat) : FSum := ⟨impl_Graph_isColouring_c2_ps, impl_Graph_isColouring_c2_rs, fun x => impl_Graph_isColouring_c2 N x.1 x.2.1⟩
theorem impl_Graph_isColouring_c2_run (N : Nat) (x : argsT impl_Graph_isColouring_c2_ps) : impl_Graph_isColouring_c2 N x.1 x.2.1 = funF (impl_Graph_isColouring_c2_G N) tab [] Try.f112 impl_Graph_isColouring_c2_ps impl_Graph_isColouring_c2_rs x := by kernel_rfl
theorem impl_Graph_isColouring_c2_pc (N : Nat) : PC Try.prog 112 (impl_Graph_isColouring_c2_S N) := by
  have e : impl_Graph_isColouring_c2_S N = ⟨impl_Graph_isColouring_c2_ps, impl_Graph_isColouring_c2_rs, funF (impl_Graph_isColouring_c2_G N) tab [] Try.f112 impl_Graph_isColouring_c2_ps impl_Graph_isColouring_c2_rs⟩ := congrArg (FSum.mk impl_Graph_isColouring_c2_ps impl_Graph_isColouring_c2_rs) (funext (impl_Graph_isColouring_c2_run N))
  rw [e]
  exact fun_ok (c := impl_Graph_isColouring_c2_code) progOk (impl_Graph_isColouring_c2_gok N) (draw_ok progOk (impl_Graph_isColouring_c2_gok N)) Try.call112 Try.func112 (by kernel_rfl) (lsOk_at (L := []) trivial) (by kernel_rfl) (by kernel_rfl) (by kernel_rfl) (by kernel_rfl) (by kernel_rfl)

/-! ### impl_Graph_isColouring -/
noncomputable def impl_Graph_isColouring_G (N : Nat) : GTab := gOf [(97, slices_ContainsFunc_LI_int_S N), (110, impl_Graph_isColouring_c1_S N), (111, slices_ContainsFunc_LP_P2_S N), (112, impl_Graph_isColouring_c2_S N)]
theorem impl_Graph_isColouring_gok (N : Nat) : GOk Try.prog (impl_Graph_isColouring_G N) := gOf_ok ⟨slices_ContainsFunc_LI_int_pc N, impl_Graph_isColouring_c1_pc N, slices_ContainsFunc_LP_P2_pc N, impl_Graph_isColouring_c2_pc N, trivial⟩
noncomputable def impl_Graph_isColouring_code : Code := (Try.f77.body).getD .skip
noncomputable def impl_Graph_isColouring (N : Nat) (g : (Int × (List (Int × Int)))) (kv : Int) (colours : (List Int)) : Option ((Bool × Unit) × (Unit)) :=
  (br (ine (tLen colours) g.1)
    (some ((false, ()), ()))
    (((slices_ContainsFunc_LI_int N colours (fun y0 => (impl_Graph_isColouring_c1 N y0 kv).bind fun z => some z.1.1)).bind fun r =>
      (br r.1.1
        (some ((false, ()), ()))
        (((slices_ContainsFunc_LP_P2 N g.2 (fun y0 => (impl_Graph_isColouring_c2 N y0 colours).bind fun z => some z.1.1)).bind fun r1 =>
          some (((!r1.1.1), ()), ())))))))
abbrev impl_Graph_isColouring_ps : List (PV.Mode × Ty) := [(.ro, QILQII), (.ro, I), (.ro, LI)]
abbrev impl_Graph_isColouring_rs : List (Bool × Ty) := [(true, .bool)]
noncomputable def impl_Graph_isColouring_S (N : Nat) : FSum := ⟨impl_Graph_isColouring_ps, impl_Graph_isColouring_rs, fun x => impl_Graph_isColouring N x.1 x.2.1 x.2.2.1⟩
theorem impl_Graph_isColouring_run (N : Nat) (x : argsT impl_Graph_isColouring_ps) : impl_Graph_isColouring N x.1 x.2.1 x.2.2.1 = funF (impl_Graph_isColouring_G N) tab [] Try.f77 impl_Graph_isColouring_ps impl_Graph_isColouring_rs x := by kernel_rfl
theorem impl_Graph_isColouring_pc (N : Nat) : PC Try.prog 77 (impl_Graph_isColouring_S N) := by
  have e : impl_Graph_isColouring_S N = ⟨impl_Graph_isColouring_ps, impl_Graph_isColouring_rs, funF (impl_Graph_isColouring_G N) tab [] Try.f77 impl_Graph_isColouring_ps impl_Graph_isColouring_rs⟩ := congrArg (FSum.mk impl_Graph_isColouring_ps impl_Graph_isColouring_rs) (funext (impl_Graph_isColouring_run N))
  rw [e]
  exact fun_ok (c := impl_Graph_isColouring_code) progOk (impl_Graph_isColouring_gok N) (draw_ok progOk (impl_Graph_isColouring_gok N)) Try.call77 Try.func77 (by kernel_rfl) (lsOk_at (L := []) trivial) (by kernel_rfl) (by kernel_rfl) (by kernel_rfl) (by kernel_rfl) (by kernel_rfl)

/-! ### impl_isColoured_c1 -/
noncomputable def impl_isColoured_c1_G (N : Nat) : GTab := gOf [(77, impl_Graph_isColouring_S N)]
theorem impl_isColoured_c1_gok (N : Nat) : GOk Try.prog (impl_isColoured_c1_G N) := gOf_ok ⟨impl_Graph_isColouring_pc N, trivial⟩
noncomputable def impl_isColoured_c1_code : Code := (Try.f117.body).getD .skip
noncomputable def impl_isColoured_c1 (N : Nat) (colours : (List Int)) (c : (Int × (List (Int × Int)))) (c1 : Int) : Option ((Bool × Unit) × (Unit)) :=
  ((impl_Graph_isColouring N c c1 colours).bind fun r =>
    some (((!r.1.1), ()), ()))
abbrev impl_isColoured_c1_ps : List (PV.Mode × Ty) := [(.ro, LI), (.ro, AQILQII), (.ro, AI)]
abbrev impl_isColoured_c1_rs : List (Bool × Ty) := [(true, .bool)]
noncomputable def impl_isColoured_c1_S (N : Nat) : FSum := ⟨impl_isColoured_c1_ps, impl_isColoured_c1_rs, fun x => impl_isColoured_c1 N x.1 x.2.1 x.2.2.1⟩
theorem impl_isColoured_c1_run (N : Nat) (x : argsT impl_isColoured_c1_ps) : impl_isColoured_c1 N x.1 x.2.1 x.2.2.1 = funF (impl_isColoured_c1_G N) tab [] Try.f117 impl_isColoured_c1_ps impl_isColoured_c1_rs x := by kernel_rfl
theorem impl_isColoured_c1_pc (N : Nat) : PC Try.prog 117 (impl_isColoured_c1_S N) := by
  have e : impl_isColoured_c1_S N = ⟨impl_isColoured_c1_ps, impl_isColoured_c1_rs, funF (impl_isColoured_c1_G N) tab [] Try.f117 impl_isColoured_c1_ps impl_isColoured_c1_rs⟩ := congrArg (FSum.mk impl_isColoured_c1_ps impl_isColoured_c1_rs) (funext (impl_isColoured_c1_run N))
  rw [e]
  exact fun_ok (c := impl_isColoured_c1_code) progOk (impl_isColoured_c1_gok N) (draw_ok progOk (impl_isColoured_c1_gok N)) Try.call117 Try.func117 (by kernel_rfl) (lsOk_at (L := []) trivial) (by kernel_rfl) (by kernel_rfl) (by kernel_rfl) (by kernel_rfl) (by kernel_rfl)

/-! ### impl_isColoured -/
noncomputable def impl_isColoured_G (N : Nat) : GTab := gOf [(76, impl_isColourCase_S N), (66, slices_ContainsFunc_LLI_LI_S N), (117, impl_isColoured_c1_S N)]
theorem impl_isColoured_gok (N : Nat) : GOk Try.prog (impl_isColoured_G N) := gOf_ok ⟨impl_isColourCase_pc N, slices_ContainsFunc_LLI_LI_pc N, impl_isColoured_c1_pc N, trivial⟩
noncomputable def impl_isColoured_code : Code := (Try.f93.body).getD .skip
noncomputable def impl_isColoured (N : Nat) (g : (Int × (List (Int × Int)))) (kv : Int) (lists : (List (List Int))) : Option ((Bool × Unit) × (Unit)) :=
  ((impl_isColourCase N (g.1, g.2) kv).bind fun r =>
    (br r.1.1
      (((slices_ContainsFunc_LLI_LI N lists (fun y0 => (impl_isColoured_c1 N y0 (g.1, g.2) kv).bind fun z => some z.1.1)).bind fun r1 =>
        some (((!r1.1.1), ()), ())))
      (some ((false, ()), ()))))
abbrev impl_isColoured_ps : List (PV.Mode × Ty) := [(.ro, QILQII), (.ro, I), (.ro, LLI)]
abbrev impl_isColoured_rs : List (Bool × Ty) := [(true, .bool)]
noncomputable def impl_isColoured_S (N : Nat) : FSum := ⟨impl_isColoured_ps, impl_isColoured_rs, fun x => impl_isColoured N x.1 x.2.1 x.2.2.1⟩
theorem impl_isColoured_run (N : Nat) (x : argsT impl_isColoured_ps) : impl_isColoured N x.1 x.2.1 x.2.2.1 = funF (impl_isColoured_G N) tab [] Try.f93 impl_isColoured_ps impl_isColoured_rs x := by kernel_rfl
theorem impl_isColoured_pc (N : Nat) : PC Try.prog 93 (impl_isColoured_S N) := by
  have e : impl_isColoured_S N = ⟨impl_isColoured_ps, impl_isColoured_rs, funF (impl_isColoured_G N) tab [] Try.f93 impl_isColoured_ps impl_isColoured_rs⟩ := congrArg (FSum.mk impl_isColoured_ps impl_isColoured_rs) (funext (impl_isColoured_run N))
  rw [e]
  exact fun_ok (c := impl_isColoured_code) progOk (impl_isColoured_gok N) (draw_ok progOk (impl_isColoured_gok N)) Try.call93 Try.func93 (by kernel_rfl) (lsOk_at (L := []) trivial) (by kernel_rfl) (by kernel_rfl) (by kernel_rfl) (by kernel_rfl) (by kernel_rfl)

/-! ### impl_pair -/
noncomputable def impl_pair_G (N : Nat) : GTab := gOf []
theorem impl_pair_gok (N : Nat) : GOk Try.prog (impl_pair_G N) := gOf_ok trivial
noncomputable def impl_pair_code : Code := (Try.f124.body).getD .skip
noncomputable def impl_pair (N : Nat) (a : Int) (b : Int) : Option (((Int × Int) × Unit) × (Unit)) :=
  some ((((if b < a then b else a), (if b > a then b else a)), ()), ())
abbrev impl_pair_ps : List (PV.Mode × Ty) := [(.ro, I), (.ro, I)]
abbrev impl_pair_rs : List (Bool × Ty) := [(true, QII)]
noncomputable def impl_pair_S (N : Nat) : FSum := ⟨impl_pair_ps, impl_pair_rs, fun x => impl_pair N x.1 x.2.1⟩
theorem impl_pair_run (N : Nat) (x : argsT impl_pair_ps) : impl_pair N x.1 x.2.1 = funF (impl_pair_G N) tab [] Try.f124 impl_pair_ps impl_pair_rs x := by kernel_rfl
theorem impl_pair_pc (N : Nat) : PC Try.prog 124 (impl_pair_S N) := by
  have e : impl_pair_S N = ⟨impl_pair_ps, impl_pair_rs, funF (impl_pair_G N) tab [] Try.f124 impl_pair_ps impl_pair_rs⟩ := congrArg (FSum.mk impl_pair_ps impl_pair_rs) (funext (impl_pair_run N))
  rw [e]
  exact fun_ok (c := impl_pair_code) progOk (impl_pair_gok N) (draw_ok progOk (impl_pair_gok N)) Try.call124 Try.func124 (by kernel_rfl) (lsOk_at (L := []) trivial) (by kernel_rfl) (by kernel_rfl) (by kernel_rfl) (by kernel_rfl) (by kernel_rfl)

/-! ### slices_Index_LP_P2 -/
noncomputable def slices_Index_LP_P2_G (N : Nat) : GTab := gOf []
theorem slices_Index_LP_P2_gok (N : Nat) : GOk Try.prog (slices_Index_LP_P2_G N) := gOf_ok trivial
noncomputable def slices_Index_LP_P2_code : Code := (Try.f127.body).getD .skip
noncomputable def slices_Index_LP_P2_l0_sh : Sh := ⟨[(0, .one (.ro LQII)), (3, .one (.adr 0 0)), (7, .one (.ro I)), (8, .one (.ro I))], [.box [.ro I, .ro I]]⟩
noncomputable def slices_Index_LP_P2_l0_ex : List (Ex × Sh) := [(.ret, ⟨[(4, .one (.ro I))], []⟩), (.exit 0, ⟨[], []⟩)]
noncomputable def slices_Index_LP_P2_l0 {R : Type} (N : Nat) (k0 : Int → Option R) (k1 : Unit → Option R) : Nat → (List (Int × Int)) → Int → Int → Int → Int → Option R
  | 0, _, _, _, _, _ => none
  | K + 1, s1, x, x1, o, o1 =>
    (br (ilt x1 x)
      ((chk (inb s1 x1)
        (br (ieq o ((rdP s1 x1).1) && ieq o1 ((rdP s1 x1).2))
        (k0 x1)
        (slices_Index_LP_P2_l0 N k0 k1 K s1 x (IntKind.i64.wrap (x1 + 1)) o o1))))
      (k1 ()))
noncomputable def slices_Index_LP_P2_l0_again {R : Type} (N : Nat) (ks : (j : Nat) → ((slices_Index_LP_P2_l0_ex.getD j (.ret, Sh.none)).2).T → Option R) (k : Nat) (x : slices_Index_LP_P2_l0_sh.T) : Option R :=
  slices_Index_LP_P2_l0 N (fun y0 => ks 0 ((y0, ()), ())) (fun (_ : Unit) => ks 1 ((), ())) k x.1.1 x.1.2.2.1 x.1.2.2.2.1 x.2.1.1 x.2.1.2.1
noncomputable def slices_Index_LP_P2_l0_s (N : Nat) : LSum := ⟨slices_Index_LP_P2_l0_sh, slices_Index_LP_P2_l0_ex, fun x ks => slices_Index_LP_P2_l0_again N ks N x⟩
theorem slices_Index_LP_P2_l0_step (N : Nat) (R : Type) (k : Nat) (x : slices_Index_LP_P2_l0_sh.T) (ks : (j : Nat) → ((slices_Index_LP_P2_l0_ex.getD j (.ret, Sh.none)).2).T → Option R) : slices_Index_LP_P2_l0_again N ks (k + 1) x = roundF (slices_Index_LP_P2_G N) tab [] (loopAt slices_Index_LP_P2_code 0) slices_Index_LP_P2_l0_sh slices_Index_LP_P2_l0_ex (fun y => slices_Index_LP_P2_l0_again N ks k y) ks x := by kernel_rfl
theorem slices_Index_LP_P2_l0_ok (N : Nat) : LoopOk Try.prog Try.f127.ntmps (slices_Index_LP_P2_l0_s N) (loopAt slices_Index_LP_P2_code 0) :=
  loop_ok (l := slices_Index_LP_P2_l0_s N) progOk (slices_Index_LP_P2_gok N) (draw_ok progOk (slices_Index_LP_P2_gok N)) (fun R k x ks => slices_Index_LP_P2_l0_again N ks k x) (fun _ _ _ => rfl) (fun R k x ks => slices_Index_LP_P2_l0_step N R k x ks) (fun R x ks r h => ⟨N, h⟩) (lsOk_at (L := []) trivial) (by kernel_rfl) (by kernel_rfl)
noncomputable def slices_Index_LP_P2 (N : Nat) (s : (List (Int × Int))) (v : (Int × Int)) : Option ((Int × Unit) × (Unit)) :=
  slices_Index_LP_P2_l0 N (fun x => some ((x, ()), ())) (fun (_ : Unit) => some (((-1), ()), ())) N s (tLen s) 0 v.1 v.2
abbrev slices_Index_LP_P2_ps : List (PV.Mode × Ty) := [(.ro, LQII), (.ro, QII)]
abbrev slices_Index_LP_P2_rs : List (Bool × Ty) := [(true, I)]
noncomputable def slices_Index_LP_P2_S (N : Nat) : FSum := ⟨slices_Index_LP_P2_ps, slices_Index_LP_P2_rs, fun x => slices_Index_LP_P2 N x.1 x.2.1⟩
theorem slices_Index_LP_P2_run (N : Nat) (x : argsT slices_Index_LP_P2_ps) : slices_Index_LP_P2 N x.1 x.2.1 = funF (slices_Index_LP_P2_G N) tab [slices_Index_LP_P2_l0_s N] Try.f127 slices_Index_LP_P2_ps slices_Index_LP_P2_rs x := by kernel_rfl
theorem slices_Index_LP_P2_pc (N : Nat) : PC Try.prog 127 (slices_Index_LP_P2_S N) := by
  have e : slices_Index_LP_P2_S N = ⟨slices_Index_LP_P2_ps, slices_Index_LP_P2_rs, funF (slices_Index_LP_P2_G N) tab [slices_Index_LP_P2_l0_s N] Try.f127 slices_Index_LP_P2_ps slices_Index_LP_P2_rs⟩ := congrArg (FSum.mk slices_Index_LP_P2_ps slices_Index_LP_P2_rs) (funext (slices_Index_LP_P2_run N))
  rw [e]
  exact fun_ok (c := slices_Index_LP_P2_code) progOk (slices_Index_LP_P2_gok N) (draw_ok progOk (slices_Index_LP_P2_gok N)) Try.call127 Try.func127 (by kernel_rfl) (lsOk_at (L := [slices_Index_LP_P2_l0_s N]) ⟨slices_Index_LP_P2_l0_ok N, trivial⟩) (by kernel_rfl) (by kernel_rfl) (by kernel_rfl) (by kernel_rfl) (by kernel_rfl)

/-! ### slices_Contains_LP_P2 -/
noncomputable def slices_Contains_LP_P2_G (N : Nat) : GTab := gOf [(127, slices_Index_LP_P2_S N)]
theorem slices_Contains_LP_P2_gok (N : Nat) : GOk Try.prog (slices_Contains_LP_P2_G N) := gOf_ok ⟨slices_Index_LP_P2_pc N, trivial⟩
noncomputable def slices_Contains_LP_P2_code : Code := (Try.f123.body).getD .skip
noncomputable def slices_Contains_LP_P2 (N : Nat) (s : (List (Int × Int))) (v : (Int × Int)) : Option ((Bool × Unit) × (Unit)) :=
  ((slices_Index_LP_P2 N s (v.1, v.2)).bind fun r =>
    some (((ile 0 r.1.1), ()), ()))
abbrev slices_Contains_LP_P2_ps : List (PV.Mode × Ty) := [(.ro, LQII), (.ro, QII)]
abbrev slices_Contains_LP_P2_rs : List (Bool × Ty) := [(true, .bool)]
noncomputable def slices_Contains_LP_P2_S (N : Nat) : FSum := ⟨slices_Contains_LP_P2_ps, slices_Contains_LP_P2_rs, fun x => slices_Contains_LP_P2 N x.1 x.2.1⟩
theorem slices_Contains_LP_P2_run (N : Nat) (x : argsT slices_Contains_LP_P2_ps) : slices_Contains_LP_P2 N x.1 x.2.1 = funF (slices_Contains_LP_P2_G N) tab [] Try.f123 slices_Contains_LP_P2_ps slices_Contains_LP_P2_rs x := by kernel_rfl
theorem slices_Contains_LP_P2_pc (N : Nat) : PC Try.prog 123 (slices_Contains_LP_P2_S N) := by
  have e : slices_Contains_LP_P2_S N = ⟨slices_Contains_LP_P2_ps, slices_Contains_LP_P2_rs, funF (slices_Contains_LP_P2_G N) tab [] Try.f123 slices_Contains_LP_P2_ps slices_Contains_LP_P2_rs⟩ := congrArg (FSum.mk slices_Contains_LP_P2_ps slices_Contains_LP_P2_rs) (funext (slices_Contains_LP_P2_run N))
  rw [e]
  exact fun_ok (c := slices_Contains_LP_P2_code) progOk (slices_Contains_LP_P2_gok N) (draw_ok progOk (slices_Contains_LP_P2_gok N)) Try.call123 Try.func123 (by kernel_rfl) (lsOk_at (L := []) trivial) (by kernel_rfl) (by kernel_rfl) (by kernel_rfl) (by kernel_rfl) (by kernel_rfl)

/-! ### impl_Graph_has -/
noncomputable def impl_Graph_has_G (N : Nat) : GTab := gOf [(124, impl_pair_S N), (123, slices_Contains_LP_P2_S N)]
theorem impl_Graph_has_gok (N : Nat) : GOk Try.prog (impl_Graph_has_G N) := gOf_ok ⟨impl_pair_pc N, slices_Contains_LP_P2_pc N, trivial⟩
noncomputable def impl_Graph_has_code : Code := (Try.f118.body).getD .skip
noncomputable def impl_Graph_has (N : Nat) (g : (Int × (List (Int × Int)))) (a : Int) (b : Int) : Option ((Bool × Unit) × (Unit)) :=
  ((impl_pair N a b).bind fun r =>
    ((slices_Contains_LP_P2 N g.2 (r.1.1.1, r.1.1.2)).bind fun r1 =>
      some ((r1.1.1, ()), ())))
abbrev impl_Graph_has_ps : List (PV.Mode × Ty) := [(.ro, QILQII), (.ro, I), (.ro, I)]
abbrev impl_Graph_has_rs : List (Bool × Ty) := [(true, .bool)]
noncomputable def impl_Graph_has_S (N : Nat) : FSum := ⟨impl_Graph_has_ps, impl_Graph_has_rs, fun x => impl_Graph_has N x.1 x.2.1 x.2.2.1⟩
theorem impl_Graph_has_run (N : Nat) (x : argsT impl_Graph_has_ps) : impl_Graph_has N x.1 x.2.1 x.2.2.1 = funF (impl_Graph_has_G N) tab [] Try.f118 impl_Graph_has_ps impl_Graph_has_rs x := by kernel_rfl
theorem impl_Graph_has_pc (N : Nat) : PC Try.prog 118 (impl_Graph_has_S N) := by
  have e : impl_Graph_has_S N = ⟨impl_Graph_has_ps, impl_Graph_has_rs, funF (impl_Graph_has_G N) tab [] Try.f118 impl_Graph_has_ps impl_Graph_has_rs⟩ := congrArg (FSum.mk impl_Graph_has_ps impl_Graph_has_rs) (funext (impl_Graph_has_run N))
  rw [e]
  exact fun_ok (c := impl_Graph_has_code) progOk (impl_Graph_has_gok N) (draw_ok progOk (impl_Graph_has_gok N)) Try.call118 Try.func118 (by kernel_rfl) (lsOk_at (L := []) trivial) (by kernel_rfl) (by kernel_rfl) (by kernel_rfl) (by kernel_rfl) (by kernel_rfl)

/-! ### impl_Graph_isTrip -/
noncomputable def impl_Graph_isTrip_G (N : Nat) : GTab := gOf [(62, impl_between_S N), (118, impl_Graph_has_S N)]
theorem impl_Graph_isTrip_gok (N : Nat) : GOk Try.prog (impl_Graph_isTrip_G N) := gOf_ok ⟨impl_between_pc N, impl_Graph_has_pc N, trivial⟩
noncomputable def impl_Graph_isTrip_code : Code := (Try.f94.body).getD .skip
noncomputable def impl_Graph_isTrip_l0_sh : Sh := ⟨[(1, .one (.ro LI)), (2, .one (.adr 0 0)), (8, .one (.ro LI)), (9, .one (.ro I)), (10, .one (.ro I))], [.box [.ro I, .ro LQII]]⟩
noncomputable def impl_Graph_isTrip_l0_ex : List (Ex × Sh) := [(.ret, ⟨[(4, .one (.ro .bool))], []⟩), (.exit 0, ⟨[(1, .one (.ro LI))], []⟩)]
noncomputable def impl_Graph_isTrip_l0 {R : Type} (N : Nat) (k0 : Bool → Option R) (k1 : (List Int) → Option R) : Nat → (List Int) → (List Int) → Int → Int → Int → (List (Int × Int)) → Option R
  | 0, _, _, _, _, _, _ => none
  | K + 1, trip1, x, x1, x2, o, o1 =>
    (br (ilt x2 x1)
      ((chk (inb x x2)
        (chk (ine (tLen trip1) 0)
        (chk (inb trip1 ((IntKind.i64.wrap (x2 + 1)).tmod (tLen trip1)))
        ((impl_between N (rdI x x2) 0 (IntKind.i64.wrap (o - 1))).bind fun r =>
        (br (!r.1.1)
          (k0 false)
          (((impl_Graph_has N (o, o1) (rdI x x2) (rdI trip1 ((IntKind.i64.wrap (x2 + 1)).tmod (tLen trip1)))).bind fun r1 =>
            (br (!r1.1.1)
              (k0 false)
              (impl_Graph_isTrip_l0 N k0 k1 K trip1 x x1 (IntKind.i64.wrap (x2 + 1)) o o1))))))))))
      (k1 trip1))
noncomputable def impl_Graph_isTrip_l0_again {R : Type} (N : Nat) (ks : (j : Nat) → ((impl_Graph_isTrip_l0_ex.getD j (.ret, Sh.none)).2).T → Option R) (k : Nat) (x : impl_Graph_isTrip_l0_sh.T) : Option R :=
  impl_Graph_isTrip_l0 N (fun y0 => ks 0 ((y0, ()), ())) (fun y0 => ks 1 ((y0, ()), ())) k x.1.1 x.1.2.2.1 x.1.2.2.2.1 x.1.2.2.2.2.1 x.2.1.1 x.2.1.2.1
noncomputable def impl_Graph_isTrip_l0_s (N : Nat) : LSum := ⟨impl_Graph_isTrip_l0_sh, impl_Graph_isTrip_l0_ex, fun x ks => impl_Graph_isTrip_l0_again N ks N x⟩
theorem impl_Graph_isTrip_l0_step (N : Nat) (R : Type) (k : Nat) (x : impl_Graph_isTrip_l0_sh.T) (ks : (j : Nat) → ((impl_Graph_isTrip_l0_ex.getD j (.ret, Sh.none)).2).T → Option R) : impl_Graph_isTrip_l0_again N ks (k + 1) x = roundF (impl_Graph_isTrip_G N) tab [] (loopAt impl_Graph_isTrip_code 0) impl_Graph_isTrip_l0_sh impl_Graph_isTrip_l0_ex (fun y => impl_Graph_isTrip_l0_again N ks k y) ks x := by kernel_rfl
theorem impl_Graph_isTrip_l0_ok (N : Nat) : LoopOk Try.prog Try.f94.ntmps (impl_Graph_isTrip_l0_s N) (loopAt impl_Graph_isTrip_code 0) :=
  loop_ok (l := impl_Graph_isTrip_l0_s N) progOk (impl_Graph_isTrip_gok N) (draw_ok progOk (impl_Graph_isTrip_gok N)) (fun R k x ks => impl_Graph_isTrip_l0_again N ks k x) (fun _ _ _ => rfl) (fun R k x ks => impl_Graph_isTrip_l0_step N R k x ks) (fun R x ks r h => ⟨N, h⟩) (lsOk_at (L := []) trivial) (by kernel_rfl) (by kernel_rfl)
noncomputable def impl_Graph_isTrip (N : Nat) (g : (Int × (List (Int × Int)))) (trip : (List Int)) : Option ((Bool × Unit) × (Unit)) :=
  impl_Graph_isTrip_l0 N (fun x => some ((x, ()), ())) (fun trip1 => ((impl_between N (tLen trip1) 1 20).bind fun r =>
    some ((r.1.1, ()), ()))) N trip trip (tLen trip) 0 g.1 g.2
abbrev impl_Graph_isTrip_ps : List (PV.Mode × Ty) := [(.ro, QILQII), (.ro, LI)]
abbrev impl_Graph_isTrip_rs : List (Bool × Ty) := [(true, .bool)]
noncomputable def impl_Graph_isTrip_S (N : Nat) : FSum := ⟨impl_Graph_isTrip_ps, impl_Graph_isTrip_rs, fun x => impl_Graph_isTrip N x.1 x.2.1⟩
theorem impl_Graph_isTrip_run (N : Nat) (x : argsT impl_Graph_isTrip_ps) : impl_Graph_isTrip N x.1 x.2.1 = funF (impl_Graph_isTrip_G N) tab [impl_Graph_isTrip_l0_s N] Try.f94 impl_Graph_isTrip_ps impl_Graph_isTrip_rs x := by kernel_rfl
theorem impl_Graph_isTrip_pc (N : Nat) : PC Try.prog 94 (impl_Graph_isTrip_S N) := by
  have e : impl_Graph_isTrip_S N = ⟨impl_Graph_isTrip_ps, impl_Graph_isTrip_rs, funF (impl_Graph_isTrip_G N) tab [impl_Graph_isTrip_l0_s N] Try.f94 impl_Graph_isTrip_ps impl_Graph_isTrip_rs⟩ := congrArg (FSum.mk impl_Graph_isTrip_ps impl_Graph_isTrip_rs) (funext (impl_Graph_isTrip_run N))
  rw [e]
  exact fun_ok (c := impl_Graph_isTrip_code) progOk (impl_Graph_isTrip_gok N) (draw_ok progOk (impl_Graph_isTrip_gok N)) Try.call94 Try.func94 (by kernel_rfl) (lsOk_at (L := [impl_Graph_isTrip_l0_s N]) ⟨impl_Graph_isTrip_l0_ok N, trivial⟩) (by kernel_rfl) (by kernel_rfl) (by kernel_rfl) (by kernel_rfl) (by kernel_rfl)

/-! ### impl_WindingOf -/
noncomputable def impl_WindingOf_G (N : Nat) : GTab := gOf [(93, impl_isColoured_S N), (94, impl_Graph_isTrip_S N)]
theorem impl_WindingOf_gok (N : Nat) : GOk Try.prog (impl_WindingOf_G N) := gOf_ok ⟨impl_isColoured_pc N, impl_Graph_isTrip_pc N, trivial⟩
noncomputable def impl_WindingOf_code : Code := (Try.f50.body).getD .skip
noncomputable def impl_WindingOf_l0_sh : Sh := ⟨[(1, .one (.ro LI)), (2, .one (.ro LI)), (8, .one (.ro I)), (23, .one (.ro LI)), (24, .one (.ro I)), (25, .one (.ro I))], []⟩
noncomputable def impl_WindingOf_l0_ex : List (Ex × Sh) := [(.exit 0, ⟨[(8, .one (.ro I))], []⟩)]
noncomputable def impl_WindingOf_l0 {R : Type} (N : Nat) (k0 : Int → Option R) : Nat → (List Int) → (List Int) → Int → (List Int) → Int → Int → Option R
  | 0, _, _, _, _, _, _ => none
  | K + 1, colours1, trip1, sum, x, x1, x2 =>
    (br (ilt x2 x1)
      ((chk (inb x x2)
        (chk (ine (tLen trip1) 0)
        (chk (inb trip1 ((IntKind.i64.wrap (x2 + 1)).tmod (tLen trip1)))
        (chk (inb colours1 (rdI trip1 ((IntKind.i64.wrap (x2 + 1)).tmod (tLen trip1))))
        (chk (inb colours1 (rdI x x2))
        (br (ieq (rdI colours1 (rdI trip1 ((IntKind.i64.wrap (x2 + 1)).tmod (tLen trip1)))) ((IntKind.i64.wrap ((rdI colours1 (rdI x x2)) + 1)).tmod 3))
        (impl_WindingOf_l0 N k0 K colours1 trip1 (IntKind.i64.wrap (sum + 1)) x x1 (IntKind.i64.wrap (x2 + 1)))
        (impl_WindingOf_l0 N k0 K colours1 trip1 (IntKind.i64.wrap (sum - 1)) x x1 (IntKind.i64.wrap (x2 + 1))))))))))
      (k0 sum))
noncomputable def impl_WindingOf_l0_again {R : Type} (N : Nat) (ks : (j : Nat) → ((impl_WindingOf_l0_ex.getD j (.ret, Sh.none)).2).T → Option R) (k : Nat) (x : impl_WindingOf_l0_sh.T) : Option R :=
  impl_WindingOf_l0 N (fun y0 => ks 0 ((y0, ()), ())) k x.1.1 x.1.2.1 x.1.2.2.1 x.1.2.2.2.1 x.1.2.2.2.2.1 x.1.2.2.2.2.2.1
noncomputable def impl_WindingOf_l0_s (N : Nat) : LSum := ⟨impl_WindingOf_l0_sh, impl_WindingOf_l0_ex, fun x ks => impl_WindingOf_l0_again N ks N x⟩
theorem impl_WindingOf_l0_step (N : Nat) (R : Type) (k : Nat) (x : impl_WindingOf_l0_sh.T) (ks : (j : Nat) → ((impl_WindingOf_l0_ex.getD j (.ret, Sh.none)).2).T → Option R) : impl_WindingOf_l0_again N ks (k + 1) x = roundF (impl_WindingOf_G N) tab [] (loopAt impl_WindingOf_code 0) impl_WindingOf_l0_sh impl_WindingOf_l0_ex (fun y => impl_WindingOf_l0_again N ks k y) ks x := by kernel_rfl
theorem impl_WindingOf_l0_ok (N : Nat) : LoopOk Try.prog Try.f50.ntmps (impl_WindingOf_l0_s N) (loopAt impl_WindingOf_code 0) :=
  loop_ok (l := impl_WindingOf_l0_s N) progOk (impl_WindingOf_gok N) (draw_ok progOk (impl_WindingOf_gok N)) (fun R k x ks => impl_WindingOf_l0_again N ks k x) (fun _ _ _ => rfl) (fun R k x ks => impl_WindingOf_l0_step N R k x ks) (fun R x ks r h => ⟨N, h⟩) (lsOk_at (L := []) trivial) (by kernel_rfl) (by kernel_rfl)
noncomputable def impl_WindingOf (N : Nat) (g : (Int × (List (Int × Int)))) (colours : (List Int)) (trip : (List Int)) : Option ((Int × Bool × Unit) × (Unit)) :=
  ((impl_isColoured N (g.1, g.2) 3 [colours]).bind fun r =>
    (br (!r.1.1)
      (some ((0, false, ()), ()))
      (((impl_Graph_isTrip N (g.1, g.2) trip).bind fun r1 =>
        (br (!r1.1.1)
          (some ((0, false, ()), ()))
          (impl_WindingOf_l0 N (fun sum => some (((IntKind.i64.wrap (sum.tdiv 3)), true, ()), ())) N colours trip 0 trip (tLen trip) 0))))))
abbrev impl_WindingOf_ps : List (PV.Mode × Ty) := [(.ro, QILQII), (.ro, LI), (.ro, LI)]
abbrev impl_WindingOf_rs : List (Bool × Ty) := [(true, I), (true, .bool)]
noncomputable def impl_WindingOf_S (N : Nat) : FSum := ⟨impl_WindingOf_ps, impl_WindingOf_rs, fun x => impl_WindingOf N x.1 x.2.1 x.2.2.1⟩
theorem impl_WindingOf_run (N : Nat) (x : argsT impl_WindingOf_ps) : impl_WindingOf N x.1 x.2.1 x.2.2.1 = funF (impl_WindingOf_G N) tab [impl_WindingOf_l0_s N] Try.f50 impl_WindingOf_ps impl_WindingOf_rs x := by kernel_rfl
theorem impl_WindingOf_pc (N : Nat) : PC Try.prog 50 (impl_WindingOf_S N) := by
  have e : impl_WindingOf_S N = ⟨impl_WindingOf_ps, impl_WindingOf_rs, funF (impl_WindingOf_G N) tab [impl_WindingOf_l0_s N] Try.f50 impl_WindingOf_ps impl_WindingOf_rs⟩ := congrArg (FSum.mk impl_WindingOf_ps impl_WindingOf_rs) (funext (impl_WindingOf_run N))
  rw [e]
  exact fun_ok (c := impl_WindingOf_code) progOk (impl_WindingOf_gok N) (draw_ok progOk (impl_WindingOf_gok N)) Try.call50 Try.func50 (by kernel_rfl) (lsOk_at (L := [impl_WindingOf_l0_s N]) ⟨impl_WindingOf_l0_ok N, trivial⟩) (by kernel_rfl) (by kernel_rfl) (by kernel_rfl) (by kernel_rfl) (by kernel_rfl)

/-! ### laws_eqIntA2 -/
noncomputable def laws_eqIntA2_G (N : Nat) : GTab := gOf []
theorem laws_eqIntA2_gok (N : Nat) : GOk Try.prog (laws_eqIntA2_G N) := gOf_ok trivial
noncomputable def laws_eqIntA2_code : Code := (Try.f113.body).getD .skip
noncomputable def laws_eqIntA2_l0_sh : Sh := ⟨[(2, .one (.adr 0 0)), (3, .one (.adr 1 0)), (5, .one (.num .i64 0))], [.box [.ro I, .ro I], .box [.ro I, .ro I]]⟩
noncomputable def laws_eqIntA2_l0_ex : List (Ex × Sh) := [(.ret, ⟨[(4, .one (.ro .bool))], []⟩), (.exit 0, ⟨[], []⟩)]
noncomputable def laws_eqIntA2_l0 {R : Type} (N : Nat) (k0 : Bool → Option R) (k1 : Unit → Option R) (_ : Nat) (o4 : Int) (o5 : Int) (o6 : Int) (o7 : Int) : Option R :=
  (br (ine o4 o6)
    (k0 false)
    ((br (ine o5 o7)
      (k0 false)
      (k1 ()))))
noncomputable def laws_eqIntA2_l0_again {R : Type} (N : Nat) (ks : (j : Nat) → ((laws_eqIntA2_l0_ex.getD j (.ret, Sh.none)).2).T → Option R) (x : laws_eqIntA2_l0_sh.T) : Option R :=
  laws_eqIntA2_l0 N (fun y0 => ks 0 ((y0, ()), ())) (fun (_ : Unit) => ks 1 ((), ())) N x.2.1.1 x.2.1.2.1 x.2.2.1.1 x.2.2.1.2.1
noncomputable def laws_eqIntA2_l0_s (N : Nat) : LSum := ⟨laws_eqIntA2_l0_sh, laws_eqIntA2_l0_ex, fun x ks => laws_eqIntA2_l0_again N ks x⟩
theorem laws_eqIntA2_l0_unr (N : Nat) (R : Type) (x : laws_eqIntA2_l0_sh.T) (ks : (j : Nat) → ((laws_eqIntA2_l0_ex.getD j (.ret, Sh.none)).2).T → Option R) : laws_eqIntA2_l0_again N ks x = unrF (laws_eqIntA2_G N) tab (loopAt laws_eqIntA2_code 0) laws_eqIntA2_l0_ex ks 3 (fill laws_eqIntA2_l0_sh x) := by kernel_rfl
theorem laws_eqIntA2_l0_ok (N : Nat) : LoopOk Try.prog Try.f113.ntmps (laws_eqIntA2_l0_s N) (loopAt laws_eqIntA2_code 0) :=
  unroll_ok (l := laws_eqIntA2_l0_s N) progOk (laws_eqIntA2_gok N) (draw_ok progOk (laws_eqIntA2_gok N)) (fun R x ks r h => ⟨3, (laws_eqIntA2_l0_unr N R x ks).symm.trans h⟩) (by kernel_rfl) (by kernel_rfl)
noncomputable def laws_eqIntA2 (N : Nat) (a : (Int × Int)) (b : (Int × Int)) : Option ((Bool × Unit) × (Unit)) :=
  laws_eqIntA2_l0 N (fun x => some ((x, ()), ())) (fun (_ : Unit) => some ((true, ()), ())) N a.1 a.2 b.1 b.2
abbrev laws_eqIntA2_ps : List (PV.Mode × Ty) := [(.ro, QII), (.ro, QII)]
abbrev laws_eqIntA2_rs : List (Bool × Ty) := [(true, .bool)]
noncomputable def laws_eqIntA2_S (N : Nat) : FSum := ⟨laws_eqIntA2_ps, laws_eqIntA2_rs, fun x => laws_eqIntA2 N x.1 x.2.1⟩
theorem laws_eqIntA2_run (N : Nat) (x : argsT laws_eqIntA2_ps) : laws_eqIntA2 N x.1 x.2.1 = funF (laws_eqIntA2_G N) tab [laws_eqIntA2_l0_s N] Try.f113 laws_eqIntA2_ps laws_eqIntA2_rs x := by kernel_rfl
theorem laws_eqIntA2_pc (N : Nat) : PC Try.prog 113 (laws_eqIntA2_S N) := by
  have e : laws_eqIntA2_S N = ⟨laws_eqIntA2_ps, laws_eqIntA2_rs, funF (laws_eqIntA2_G N) tab [laws_eqIntA2_l0_s N] Try.f113 laws_eqIntA2_ps laws_eqIntA2_rs⟩ := congrArg (FSum.mk laws_eqIntA2_ps laws_eqIntA2_rs) (funext (laws_eqIntA2_run N))
  rw [e]
  exact fun_ok (c := laws_eqIntA2_code) progOk (laws_eqIntA2_gok N) (draw_ok progOk (laws_eqIntA2_gok N)) Try.call113 Try.func113 (by kernel_rfl) (lsOk_at (L := [laws_eqIntA2_l0_s N]) ⟨laws_eqIntA2_l0_ok N, trivial⟩) (by kernel_rfl) (by kernel_rfl) (by kernel_rfl) (by kernel_rfl) (by kernel_rfl)

/-! ### laws_eqIntA2S -/
noncomputable def laws_eqIntA2S_G (N : Nat) : GTab := gOf [(113, laws_eqIntA2_S N)]
theorem laws_eqIntA2S_gok (N : Nat) : GOk Try.prog (laws_eqIntA2S_G N) := gOf_ok ⟨laws_eqIntA2_pc N, trivial⟩
noncomputable def laws_eqIntA2S_code : Code := (Try.f78.body).getD .skip
noncomputable def laws_eqIntA2S_l0_sh : Sh := ⟨[(0, .one (.ro LQII)), (1, .one (.ro LQII)), (5, .one (.ro I))], []⟩
noncomputable def laws_eqIntA2S_l0_ex : List (Ex × Sh) := [(.ret, ⟨[(4, .one (.ro .bool))], []⟩), (.exit 0, ⟨[], []⟩)]
noncomputable def laws_eqIntA2S_l0 {R : Type} (N : Nat) (k0 : Bool → Option R) (k1 : Unit → Option R) : Nat → (List (Int × Int)) → (List (Int × Int)) → Int → Option R
  | 0, _, _, _ => none
  | K + 1, a1, b1, i =>
    (br (ilt i (tLen a1))
      ((chk (inb a1 i)
        (chk (inb b1 i)
        ((laws_eqIntA2 N (rdP a1 i) (rdP b1 i)).bind fun r =>
        (br (!r.1.1)
          (k0 false)
          (laws_eqIntA2S_l0 N k0 k1 K a1 b1 (IntKind.i64.wrap (i + 1))))))))
      (k1 ()))
noncomputable def laws_eqIntA2S_l0_again {R : Type} (N : Nat) (ks : (j : Nat) → ((laws_eqIntA2S_l0_ex.getD j (.ret, Sh.none)).2).T → Option R) (k : Nat) (x : laws_eqIntA2S_l0_sh.T) : Option R :=
  laws_eqIntA2S_l0 N (fun y0 => ks 0 ((y0, ()), ())) (fun (_ : Unit) => ks 1 ((), ())) k x.1.1 x.1.2.1 x.1.2.2.1
noncomputable def laws_eqIntA2S_l0_s (N : Nat) : LSum := ⟨laws_eqIntA2S_l0_sh, laws_eqIntA2S_l0_ex, fun x ks => laws_eqIntA2S_l0_again N ks N x⟩
theorem laws_eqIntA2S_l0_step (N : Nat) (R : Type) (k : Nat) (x : laws_eqIntA2S_l0_sh.T) (ks : (j : Nat) → ((laws_eqIntA2S_l0_ex.getD j (.ret, Sh.none)).2).T → Option R) : laws_eqIntA2S_l0_again N ks (k + 1) x = roundF (laws_eqIntA2S_G N) tab [] (loopAt laws_eqIntA2S_code 0) laws_eqIntA2S_l0_sh laws_eqIntA2S_l0_ex (fun y => laws_eqIntA2S_l0_again N ks k y) ks x := by kernel_rfl
theorem laws_eqIntA2S_l0_ok (N : Nat) : LoopOk Try.prog Try.f78.ntmps (laws_eqIntA2S_l0_s N) (loopAt laws_eqIntA2S_code 0) :=
  loop_ok (l := laws_eqIntA2S_l0_s N) progOk (laws_eqIntA2S_gok N) (draw_ok progOk (laws_eqIntA2S_gok N)) (fun R k x ks => laws_eqIntA2S_l0_again N ks k x) (fun _ _ _ => rfl) (fun R k x ks => laws_eqIntA2S_l0_step N R k x ks) (fun R x ks r h => ⟨N, h⟩) (lsOk_at (L := []) trivial) (by kernel_rfl) (by kernel_rfl)
noncomputable def laws_eqIntA2S (N : Nat) (a : (List (Int × Int))) (b : (List (Int × Int))) : Option ((Bool × Unit) × (Unit)) :=
  (br (ine (tLen a) (tLen b))
    (some ((false, ()), ()))
    (laws_eqIntA2S_l0 N (fun x => some ((x, ()), ())) (fun (_ : Unit) => some ((true, ()), ())) N a b 0))
abbrev laws_eqIntA2S_ps : List (PV.Mode × Ty) := [(.ro, LQII), (.ro, LQII)]
abbrev laws_eqIntA2S_rs : List (Bool × Ty) := [(true, .bool)]
noncomputable def laws_eqIntA2S_S (N : Nat) : FSum := ⟨laws_eqIntA2S_ps, laws_eqIntA2S_rs, fun x => laws_eqIntA2S N x.1 x.2.1⟩
theorem laws_eqIntA2S_run (N : Nat) (x : argsT laws_eqIntA2S_ps) : laws_eqIntA2S N x.1 x.2.1 = funF (laws_eqIntA2S_G N) tab [laws_eqIntA2S_l0_s N] Try.f78 laws_eqIntA2S_ps laws_eqIntA2S_rs x := by kernel_rfl
theorem laws_eqIntA2S_pc (N : Nat) : PC Try.prog 78 (laws_eqIntA2S_S N) := by
  have e : laws_eqIntA2S_S N = ⟨laws_eqIntA2S_ps, laws_eqIntA2S_rs, funF (laws_eqIntA2S_G N) tab [laws_eqIntA2S_l0_s N] Try.f78 laws_eqIntA2S_ps laws_eqIntA2S_rs⟩ := congrArg (FSum.mk laws_eqIntA2S_ps laws_eqIntA2S_rs) (funext (laws_eqIntA2S_run N))
  rw [e]
  exact fun_ok (c := laws_eqIntA2S_code) progOk (laws_eqIntA2S_gok N) (draw_ok progOk (laws_eqIntA2S_gok N)) Try.call78 Try.func78 (by kernel_rfl) (lsOk_at (L := [laws_eqIntA2S_l0_s N]) ⟨laws_eqIntA2S_l0_ok N, trivial⟩) (by kernel_rfl) (by kernel_rfl) (by kernel_rfl) (by kernel_rfl) (by kernel_rfl)

/-! ### laws_eqGraph -/
noncomputable def laws_eqGraph_G (N : Nat) : GTab := gOf [(78, laws_eqIntA2S_S N)]
theorem laws_eqGraph_gok (N : Nat) : GOk Try.prog (laws_eqGraph_G N) := gOf_ok ⟨laws_eqIntA2S_pc N, trivial⟩
noncomputable def laws_eqGraph_code : Code := (Try.f37.body).getD .skip
noncomputable def laws_eqGraph (N : Nat) (a : (Int × (List (Int × Int)))) (b : (Int × (List (Int × Int)))) : Option ((Bool × Unit) × (Unit)) :=
  (br (ine a.1 b.1)
    (some ((false, ()), ()))
    (((laws_eqIntA2S N a.2 b.2).bind fun r =>
      (br (!r.1.1)
        (some ((false, ()), ()))
        (some ((true, ()), ()))))))
abbrev laws_eqGraph_ps : List (PV.Mode × Ty) := [(.ro, QILQII), (.ro, QILQII)]
abbrev laws_eqGraph_rs : List (Bool × Ty) := [(true, .bool)]
noncomputable def laws_eqGraph_S (N : Nat) : FSum := ⟨laws_eqGraph_ps, laws_eqGraph_rs, fun x => laws_eqGraph N x.1 x.2.1⟩
theorem laws_eqGraph_run (N : Nat) (x : argsT laws_eqGraph_ps) : laws_eqGraph N x.1 x.2.1 = funF (laws_eqGraph_G N) tab [] Try.f37 laws_eqGraph_ps laws_eqGraph_rs x := by kernel_rfl
theorem laws_eqGraph_pc (N : Nat) : PC Try.prog 37 (laws_eqGraph_S N) := by
  have e : laws_eqGraph_S N = ⟨laws_eqGraph_ps, laws_eqGraph_rs, funF (laws_eqGraph_G N) tab [] Try.f37 laws_eqGraph_ps laws_eqGraph_rs⟩ := congrArg (FSum.mk laws_eqGraph_ps laws_eqGraph_rs) (funext (laws_eqGraph_run N))
  rw [e]
  exact fun_ok (c := laws_eqGraph_code) progOk (laws_eqGraph_gok N) (draw_ok progOk (laws_eqGraph_gok N)) Try.call37 Try.func37 (by kernel_rfl) (lsOk_at (L := []) trivial) (by kernel_rfl) (by kernel_rfl) (by kernel_rfl) (by kernel_rfl) (by kernel_rfl)

/-! ### laws_eqIntS -/
noncomputable def laws_eqIntS_G (N : Nat) : GTab := gOf []
theorem laws_eqIntS_gok (N : Nat) : GOk Try.prog (laws_eqIntS_G N) := gOf_ok trivial
noncomputable def laws_eqIntS_code : Code := (Try.f18.body).getD .skip
noncomputable def laws_eqIntS_l0_sh : Sh := ⟨[(0, .one (.ro LI)), (1, .one (.ro LI)), (5, .one (.ro I))], []⟩
noncomputable def laws_eqIntS_l0_ex : List (Ex × Sh) := [(.ret, ⟨[(4, .one (.ro .bool))], []⟩), (.exit 0, ⟨[], []⟩)]
noncomputable def laws_eqIntS_l0 {R : Type} (N : Nat) (k0 : Bool → Option R) (k1 : Unit → Option R) : Nat → (List Int) → (List Int) → Int → Option R
  | 0, _, _, _ => none
  | K + 1, a1, b1, i =>
    (br (ilt i (tLen a1))
      ((chk (inb a1 i)
        (chk (inb b1 i)
        (br (ine (rdI a1 i) (rdI b1 i))
        (k0 false)
        (laws_eqIntS_l0 N k0 k1 K a1 b1 (IntKind.i64.wrap (i + 1)))))))
      (k1 ()))
noncomputable def laws_eqIntS_l0_again {R : Type} (N : Nat) (ks : (j : Nat) → ((laws_eqIntS_l0_ex.getD j (.ret, Sh.none)).2).T → Option R) (k : Nat) (x : laws_eqIntS_l0_sh.T) : Option R :=
  laws_eqIntS_l0 N (fun y0 => ks 0 ((y0, ()), ())) (fun (_ : Unit) => ks 1 ((), ())) k x.1.1 x.1.2.1 x.1.2.2.1
noncomputable def laws_eqIntS_l0_s (N : Nat) : LSum := ⟨laws_eqIntS_l0_sh, laws_eqIntS_l0_ex, fun x ks => laws_eqIntS_l0_again N ks N x⟩
theorem laws_eqIntS_l0_step (N : Nat) (R : Type) (k : Nat) (x : laws_eqIntS_l0_sh.T) (ks : (j : Nat) → ((laws_eqIntS_l0_ex.getD j (.ret, Sh.none)).2).T → Option R) : laws_eqIntS_l0_again N ks (k + 1) x = roundF (laws_eqIntS_G N) tab [] (loopAt laws_eqIntS_code 0) laws_eqIntS_l0_sh laws_eqIntS_l0_ex (fun y => laws_eqIntS_l0_again N ks k y) ks x := by kernel_rfl
theorem laws_eqIntS_l0_ok (N : Nat) : LoopOk Try.prog Try.f18.ntmps (laws_eqIntS_l0_s N) (loopAt laws_eqIntS_code 0) :=
  loop_ok (l := laws_eqIntS_l0_s N) progOk (laws_eqIntS_gok N) (draw_ok progOk (laws_eqIntS_gok N)) (fun R k x ks => laws_eqIntS_l0_again N ks k x) (fun _ _ _ => rfl) (fun R k x ks => laws_eqIntS_l0_step N R k x ks) (fun R x ks r h => ⟨N, h⟩) (lsOk_at (L := []) trivial) (by kernel_rfl) (by kernel_rfl)
noncomputable def laws_eqIntS (N : Nat) (a : (List Int)) (b : (List Int)) : Option ((Bool × Unit) × (Unit)) :=
  (br (ine (tLen a) (tLen b))
    (some ((false, ()), ()))
    (laws_eqIntS_l0 N (fun x => some ((x, ()), ())) (fun (_ : Unit) => some ((true, ()), ())) N a b 0))
abbrev laws_eqIntS_ps : List (PV.Mode × Ty) := [(.ro, LI), (.ro, LI)]
abbrev laws_eqIntS_rs : List (Bool × Ty) := [(true, .bool)]
noncomputable def laws_eqIntS_S (N : Nat) : FSum := ⟨laws_eqIntS_ps, laws_eqIntS_rs, fun x => laws_eqIntS N x.1 x.2.1⟩
theorem laws_eqIntS_run (N : Nat) (x : argsT laws_eqIntS_ps) : laws_eqIntS N x.1 x.2.1 = funF (laws_eqIntS_G N) tab [laws_eqIntS_l0_s N] Try.f18 laws_eqIntS_ps laws_eqIntS_rs x := by kernel_rfl
theorem laws_eqIntS_pc (N : Nat) : PC Try.prog 18 (laws_eqIntS_S N) := by
  have e : laws_eqIntS_S N = ⟨laws_eqIntS_ps, laws_eqIntS_rs, funF (laws_eqIntS_G N) tab [laws_eqIntS_l0_s N] Try.f18 laws_eqIntS_ps laws_eqIntS_rs⟩ := congrArg (FSum.mk laws_eqIntS_ps laws_eqIntS_rs) (funext (laws_eqIntS_run N))
  rw [e]
  exact fun_ok (c := laws_eqIntS_code) progOk (laws_eqIntS_gok N) (draw_ok progOk (laws_eqIntS_gok N)) Try.call18 Try.func18 (by kernel_rfl) (lsOk_at (L := [laws_eqIntS_l0_s N]) ⟨laws_eqIntS_l0_ok N, trivial⟩) (by kernel_rfl) (by kernel_rfl) (by kernel_rfl) (by kernel_rfl) (by kernel_rfl)

/-! ### laws_FnExactWindingOf -/
noncomputable def laws_FnExactWindingOf_G (N : Nat) : GTab := gOf [(33, laws_szGraph_S N), (35, laws_toGraph_S N), (16, laws_toIntS_S N), (49, spec_WindingOf_S N), (50, impl_WindingOf_S N), (37, laws_eqGraph_S N), (18, laws_eqIntS_S N)]
theorem laws_FnExactWindingOf_gok (N : Nat) : GOk Try.prog (laws_FnExactWindingOf_G N) := gOf_ok ⟨laws_szGraph_pc N, laws_toGraph_pc N, laws_toIntS_pc N, spec_WindingOf_pc N, impl_WindingOf_pc N, laws_eqGraph_pc N, laws_eqIntS_pc N, trivial⟩
noncomputable def laws_FnExactWindingOf_code : Code := (Try.f12.body).getD .skip
noncomputable def laws_FnExactWindingOf (N : Nat) (c : (Int × (List (Int × Int)))) (c1 : (List Int)) (c2 : (List Int)) : Option ((Bool × Unit) × (Unit)) :=
  (br (ilt 1048576 (tLen c1))
    (some ((true, ()), ()))
    ((br (ilt 1048576 (tLen c2))
      (some ((true, ()), ()))
      (((laws_szGraph N (c.1, c.2) 1048576).bind fun r =>
        (br (ilt r.1.1 0)
          (some ((true, ()), ()))
          (((laws_toGraph N (c.1, c.2)).bind fun r1 =>
            ((laws_toIntS N c1).bind fun r2 =>
              ((laws_toIntS N c2).bind fun r3 =>
                ((spec_WindingOf N (r1.1.1.1, r1.1.1.2) r2.1.1 r3.1.1).bind fun r4 =>
                  ((laws_toGraph N (c.1, c.2)).bind fun r5 =>
                    ((laws_toIntS N c1).bind fun r6 =>
                      ((laws_toIntS N c2).bind fun r7 =>
                        ((impl_WindingOf N (r5.1.1.1, r5.1.1.2) r6.1.1 r7.1.1).bind fun r8 =>
                          (br (ine r8.1.1 r4.1.1)
                            (some ((false, ()), ()))
                            ((br (!(r8.1.2.1 == r4.1.2.1))
                              (some ((false, ()), ()))
                              (((laws_toGraph N (c.1, c.2)).bind fun r9 =>
                                ((laws_eqGraph N (r5.1.1.1, r5.1.1.2) (r9.1.1.1, r9.1.1.2)).bind fun r10 =>
                                  (br (!r10.1.1)
                                    (some ((false, ()), ()))
                                    (((laws_toIntS N c1).bind fun r11 =>
                                      ((laws_eqIntS N r6.1.1 r11.1.1).bind fun r12 =>
                                        (br (!r12.1.1)
                                          (some ((false, ()), ()))
                                          (((laws_toIntS N c2).bind fun r13 =>
                                            ((laws_eqIntS N r7.1.1 r13.1.1).bind fun r14 =>
                                              (br (!r14.1.1)
                                                (some ((false, ()), ()))
                                                (some ((true, ()), ()))))))))))))))))))))))))))))))))
abbrev laws_FnExactWindingOf_ps : List (PV.Mode × Ty) := [(.ro, QILQII), (.ro, LI), (.ro, LI)]
abbrev laws_FnExactWindingOf_rs : List (Bool × Ty) := [(true, .bool)]
noncomputable def laws_FnExactWindingOf_S (N : Nat) : FSum := ⟨laws_FnExactWindingOf_ps, laws_FnExactWindingOf_rs, fun x => laws_FnExactWindingOf N x.1 x.2.1 x.2.2.1⟩
theorem laws_FnExactWindingOf_run (N : Nat) (x : argsT laws_FnExactWindingOf_ps) : laws_FnExactWindingOf N x.1 x.2.1 x.2.2.1 = funF (laws_FnExactWindingOf_G N) tab [] Try.f12 laws_FnExactWindingOf_ps laws_FnExactWindingOf_rs x := by kernel_rfl
theorem laws_FnExactWindingOf_pc (N : Nat) : PC Try.prog 12 (laws_FnExactWindingOf_S N) := by
  have e : laws_FnExactWindingOf_S N = ⟨laws_FnExactWindingOf_ps, laws_FnExactWindingOf_rs, funF (laws_FnExactWindingOf_G N) tab [] Try.f12 laws_FnExactWindingOf_ps laws_FnExactWindingOf_rs⟩ := congrArg (FSum.mk laws_FnExactWindingOf_ps laws_FnExactWindingOf_rs) (funext (laws_FnExactWindingOf_run N))
  rw [e]
  exact fun_ok (c := laws_FnExactWindingOf_code) progOk (laws_FnExactWindingOf_gok N) (draw_ok progOk (laws_FnExactWindingOf_gok N)) Try.call12 Try.func12 (by kernel_rfl) (lsOk_at (L := []) trivial) (by kernel_rfl) (by kernel_rfl) (by kernel_rfl) (by kernel_rfl) (by kernel_rfl)
end Go.Proofs.Ytbnebekejbhopaa
